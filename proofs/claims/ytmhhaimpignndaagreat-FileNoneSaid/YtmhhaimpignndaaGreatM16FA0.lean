/-
  Runs of the law FileNone. Conditions: none.
-/
import Derived.Test.YtmhhaimpignndaaGreatM16FT2
namespace Go.AM
open Go
set_option maxHeartbeats 0
set_option maxRecDepth 1000000
theorem ppf0 : goF ppT2 2000000 3 [.i 4 (.ofNat 0), .s [102]] (fun v _ _ => match v with | .b c => c | _ => false) = true := by kernel_rfl
theorem ppf1 : goF ppT2 2000000 3 [.i 4 (.ofNat 1), .s [102]] (fun v _ _ => match v with | .b c => c | _ => false) = true := by kernel_rfl
theorem ppf2 : goF ppT2 2000000 3 [.i 4 (.ofNat 2), .s [102]] (fun v _ _ => match v with | .b c => c | _ => false) = true := by kernel_rfl
theorem ppf3 : goF ppT2 2000000 3 [.i 4 (.ofNat 3), .s [102]] (fun v _ _ => match v with | .b c => c | _ => false) = true := by kernel_rfl
theorem ppf4 : goF ppT2 2000000 3 [.i 4 (.ofNat 4), .s [102]] (fun v _ _ => match v with | .b c => c | _ => false) = true := by kernel_rfl
theorem ppf5 : goF ppT2 2000000 3 [.i 4 (.ofNat 5), .s [102]] (fun v _ _ => match v with | .b c => c | _ => false) = true := by kernel_rfl
theorem ppf6 : goF ppT2 2000000 3 [.i 4 (.ofNat 6), .s [102]] (fun v _ _ => match v with | .b c => c | _ => false) = true := by kernel_rfl
theorem ppf7 : goF ppT2 2000000 3 [.i 4 (.ofNat 7), .s [102]] (fun v _ _ => match v with | .b c => c | _ => false) = true := by kernel_rfl
theorem ppfb0 : ∀ j, j < 8 → goF ppT2 2000000 3 [.i 4 (.ofNat (0 + j)), .s [102]] (fun v _ _ => match v with | .b c => c | _ => false) = true
  | 0, _ => ppf0
  | 1, _ => ppf1
  | 2, _ => ppf2
  | 3, _ => ppf3
  | 4, _ => ppf4
  | 5, _ => ppf5
  | 6, _ => ppf6
  | 7, _ => ppf7
  | j + 8, h => by omega
theorem ppo0 : goF ppT2 2000000 3 [.i 4 (.ofNat 0), .xi 0 8 102 0] (fun v _ _ => match v with | .b c => c | _ => false) = true := by kernel_rfl
theorem ppo1 : goF ppT2 2000000 3 [.i 4 (.ofNat 1), .xi 0 8 102 0] (fun v _ _ => match v with | .b c => c | _ => false) = true := by kernel_rfl
theorem ppo2 : goF ppT2 2000000 3 [.i 4 (.ofNat 2), .xi 0 8 102 0] (fun v _ _ => match v with | .b c => c | _ => false) = true := by kernel_rfl
theorem ppo3 : goF ppT2 2000000 3 [.i 4 (.ofNat 3), .xi 0 8 102 0] (fun v _ _ => match v with | .b c => c | _ => false) = true := by kernel_rfl
theorem ppo4 : goF ppT2 2000000 3 [.i 4 (.ofNat 4), .xi 0 8 102 0] (fun v _ _ => match v with | .b c => c | _ => false) = true := by kernel_rfl
theorem ppo5 : goF ppT2 2000000 3 [.i 4 (.ofNat 5), .xi 0 8 102 0] (fun v _ _ => match v with | .b c => c | _ => false) = true := by kernel_rfl
theorem ppo6 : goF ppT2 2000000 3 [.i 4 (.ofNat 6), .xi 0 8 102 0] (fun v _ _ => match v with | .b c => c | _ => false) = true := by kernel_rfl
theorem ppo7 : goF ppT2 2000000 3 [.i 4 (.ofNat 7), .xi 0 8 102 0] (fun v _ _ => match v with | .b c => c | _ => false) = true := by kernel_rfl
theorem ppob0 : ∀ j, j < 8 → goF ppT2 2000000 3 [.i 4 (.ofNat (0 + j)), .xi 0 8 102 0] (fun v _ _ => match v with | .b c => c | _ => false) = true
  | 0, _ => ppo0
  | 1, _ => ppo1
  | 2, _ => ppo2
  | 3, _ => ppo3
  | 4, _ => ppo4
  | 5, _ => ppo5
  | 6, _ => ppo6
  | 7, _ => ppo7
  | j + 8, h => by omega
theorem ppl : goF ppT2 2000000 3 [.x 1, .xi 0 8 102 1] (fun v _ _ => match v with | .b c => c | _ => false) = true := by kernel_rfl
end Go.AM
namespace Go.AM
open Go
set_option maxHeartbeats 0
set_option maxRecDepth 1000000
theorem ppf8 : goF ppT2 2000000 3 [.i 4 (.ofNat 8), .s [102]] (fun v _ _ => match v with | .b c => c | _ => false) = true := by kernel_rfl
theorem ppf9 : goF ppT2 2000000 3 [.i 4 (.ofNat 9), .s [102]] (fun v _ _ => match v with | .b c => c | _ => false) = true := by kernel_rfl
theorem ppf10 : goF ppT2 2000000 3 [.i 4 (.ofNat 10), .s [102]] (fun v _ _ => match v with | .b c => c | _ => false) = true := by kernel_rfl
theorem ppf11 : goF ppT2 2000000 3 [.i 4 (.ofNat 11), .s [102]] (fun v _ _ => match v with | .b c => c | _ => false) = true := by kernel_rfl
theorem ppf12 : goF ppT2 2000000 3 [.i 4 (.ofNat 12), .s [102]] (fun v _ _ => match v with | .b c => c | _ => false) = true := by kernel_rfl
theorem ppf13 : goF ppT2 2000000 3 [.i 4 (.ofNat 13), .s [102]] (fun v _ _ => match v with | .b c => c | _ => false) = true := by kernel_rfl
theorem ppf14 : goF ppT2 2000000 3 [.i 4 (.ofNat 14), .s [102]] (fun v _ _ => match v with | .b c => c | _ => false) = true := by kernel_rfl
theorem ppf15 : goF ppT2 2000000 3 [.i 4 (.ofNat 15), .s [102]] (fun v _ _ => match v with | .b c => c | _ => false) = true := by kernel_rfl
theorem ppfb1 : ∀ j, j < 8 → goF ppT2 2000000 3 [.i 4 (.ofNat (8 + j)), .s [102]] (fun v _ _ => match v with | .b c => c | _ => false) = true
  | 0, _ => ppf8
  | 1, _ => ppf9
  | 2, _ => ppf10
  | 3, _ => ppf11
  | 4, _ => ppf12
  | 5, _ => ppf13
  | 6, _ => ppf14
  | 7, _ => ppf15
  | j + 8, h => by omega
theorem ppo8 : goF ppT2 2000000 3 [.i 4 (.ofNat 8), .xi 0 8 102 0] (fun v _ _ => match v with | .b c => c | _ => false) = true := by kernel_rfl
theorem ppo9 : goF ppT2 2000000 3 [.i 4 (.ofNat 9), .xi 0 8 102 0] (fun v _ _ => match v with | .b c => c | _ => false) = true := by kernel_rfl
theorem ppo10 : goF ppT2 2000000 3 [.i 4 (.ofNat 10), .xi 0 8 102 0] (fun v _ _ => match v with | .b c => c | _ => false) = true := by kernel_rfl
theorem ppo11 : goF ppT2 2000000 3 [.i 4 (.ofNat 11), .xi 0 8 102 0] (fun v _ _ => match v with | .b c => c | _ => false) = true := by kernel_rfl
theorem ppo12 : goF ppT2 2000000 3 [.i 4 (.ofNat 12), .xi 0 8 102 0] (fun v _ _ => match v with | .b c => c | _ => false) = true := by kernel_rfl
theorem ppo13 : goF ppT2 2000000 3 [.i 4 (.ofNat 13), .xi 0 8 102 0] (fun v _ _ => match v with | .b c => c | _ => false) = true := by kernel_rfl
theorem ppo14 : goF ppT2 2000000 3 [.i 4 (.ofNat 14), .xi 0 8 102 0] (fun v _ _ => match v with | .b c => c | _ => false) = true := by kernel_rfl
theorem ppo15 : goF ppT2 2000000 3 [.i 4 (.ofNat 15), .xi 0 8 102 0] (fun v _ _ => match v with | .b c => c | _ => false) = true := by kernel_rfl
theorem ppob1 : ∀ j, j < 8 → goF ppT2 2000000 3 [.i 4 (.ofNat (8 + j)), .xi 0 8 102 0] (fun v _ _ => match v with | .b c => c | _ => false) = true
  | 0, _ => ppo8
  | 1, _ => ppo9
  | 2, _ => ppo10
  | 3, _ => ppo11
  | 4, _ => ppo12
  | 5, _ => ppo13
  | 6, _ => ppo14
  | 7, _ => ppo15
  | j + 8, h => by omega
end Go.AM
namespace Go.AM
open Go
set_option maxHeartbeats 0
set_option maxRecDepth 1000000
theorem ppf16 : goF ppT2 2000000 3 [.i 4 (.ofNat 16), .s [102]] (fun v _ _ => match v with | .b c => c | _ => false) = true := by kernel_rfl
theorem ppf17 : goF ppT2 2000000 3 [.i 4 (.ofNat 17), .s [102]] (fun v _ _ => match v with | .b c => c | _ => false) = true := by kernel_rfl
theorem ppf18 : goF ppT2 2000000 3 [.i 4 (.ofNat 18), .s [102]] (fun v _ _ => match v with | .b c => c | _ => false) = true := by kernel_rfl
theorem ppf19 : goF ppT2 2000000 3 [.i 4 (.ofNat 19), .s [102]] (fun v _ _ => match v with | .b c => c | _ => false) = true := by kernel_rfl
theorem ppf20 : goF ppT2 2000000 3 [.i 4 (.ofNat 20), .s [102]] (fun v _ _ => match v with | .b c => c | _ => false) = true := by kernel_rfl
theorem ppf21 : goF ppT2 2000000 3 [.i 4 (.ofNat 21), .s [102]] (fun v _ _ => match v with | .b c => c | _ => false) = true := by kernel_rfl
theorem ppf22 : goF ppT2 2000000 3 [.i 4 (.ofNat 22), .s [102]] (fun v _ _ => match v with | .b c => c | _ => false) = true := by kernel_rfl
theorem ppf23 : goF ppT2 2000000 3 [.i 4 (.ofNat 23), .s [102]] (fun v _ _ => match v with | .b c => c | _ => false) = true := by kernel_rfl
theorem ppfb2 : ∀ j, j < 8 → goF ppT2 2000000 3 [.i 4 (.ofNat (16 + j)), .s [102]] (fun v _ _ => match v with | .b c => c | _ => false) = true
  | 0, _ => ppf16
  | 1, _ => ppf17
  | 2, _ => ppf18
  | 3, _ => ppf19
  | 4, _ => ppf20
  | 5, _ => ppf21
  | 6, _ => ppf22
  | 7, _ => ppf23
  | j + 8, h => by omega
theorem ppo16 : goF ppT2 2000000 3 [.i 4 (.ofNat 16), .xi 0 8 102 0] (fun v _ _ => match v with | .b c => c | _ => false) = true := by kernel_rfl
theorem ppo17 : goF ppT2 2000000 3 [.i 4 (.ofNat 17), .xi 0 8 102 0] (fun v _ _ => match v with | .b c => c | _ => false) = true := by kernel_rfl
theorem ppo18 : goF ppT2 2000000 3 [.i 4 (.ofNat 18), .xi 0 8 102 0] (fun v _ _ => match v with | .b c => c | _ => false) = true := by kernel_rfl
theorem ppo19 : goF ppT2 2000000 3 [.i 4 (.ofNat 19), .xi 0 8 102 0] (fun v _ _ => match v with | .b c => c | _ => false) = true := by kernel_rfl
theorem ppo20 : goF ppT2 2000000 3 [.i 4 (.ofNat 20), .xi 0 8 102 0] (fun v _ _ => match v with | .b c => c | _ => false) = true := by kernel_rfl
theorem ppo21 : goF ppT2 2000000 3 [.i 4 (.ofNat 21), .xi 0 8 102 0] (fun v _ _ => match v with | .b c => c | _ => false) = true := by kernel_rfl
theorem ppo22 : goF ppT2 2000000 3 [.i 4 (.ofNat 22), .xi 0 8 102 0] (fun v _ _ => match v with | .b c => c | _ => false) = true := by kernel_rfl
theorem ppo23 : goF ppT2 2000000 3 [.i 4 (.ofNat 23), .xi 0 8 102 0] (fun v _ _ => match v with | .b c => c | _ => false) = true := by kernel_rfl
theorem ppob2 : ∀ j, j < 8 → goF ppT2 2000000 3 [.i 4 (.ofNat (16 + j)), .xi 0 8 102 0] (fun v _ _ => match v with | .b c => c | _ => false) = true
  | 0, _ => ppo16
  | 1, _ => ppo17
  | 2, _ => ppo18
  | 3, _ => ppo19
  | 4, _ => ppo20
  | 5, _ => ppo21
  | 6, _ => ppo22
  | 7, _ => ppo23
  | j + 8, h => by omega
end Go.AM
namespace Go.AM
open Go
set_option maxHeartbeats 0
set_option maxRecDepth 1000000
theorem ppf24 : goF ppT2 2000000 3 [.i 4 (.ofNat 24), .s [102]] (fun v _ _ => match v with | .b c => c | _ => false) = true := by kernel_rfl
theorem ppf25 : goF ppT2 2000000 3 [.i 4 (.ofNat 25), .s [102]] (fun v _ _ => match v with | .b c => c | _ => false) = true := by kernel_rfl
theorem ppf26 : goF ppT2 2000000 3 [.i 4 (.ofNat 26), .s [102]] (fun v _ _ => match v with | .b c => c | _ => false) = true := by kernel_rfl
theorem ppf27 : goF ppT2 2000000 3 [.i 4 (.ofNat 27), .s [102]] (fun v _ _ => match v with | .b c => c | _ => false) = true := by kernel_rfl
theorem ppf28 : goF ppT2 2000000 3 [.i 4 (.ofNat 28), .s [102]] (fun v _ _ => match v with | .b c => c | _ => false) = true := by kernel_rfl
theorem ppf29 : goF ppT2 2000000 3 [.i 4 (.ofNat 29), .s [102]] (fun v _ _ => match v with | .b c => c | _ => false) = true := by kernel_rfl
theorem ppf30 : goF ppT2 2000000 3 [.i 4 (.ofNat 30), .s [102]] (fun v _ _ => match v with | .b c => c | _ => false) = true := by kernel_rfl
theorem ppf31 : goF ppT2 2000000 3 [.i 4 (.ofNat 31), .s [102]] (fun v _ _ => match v with | .b c => c | _ => false) = true := by kernel_rfl
theorem ppfb3 : ∀ j, j < 8 → goF ppT2 2000000 3 [.i 4 (.ofNat (24 + j)), .s [102]] (fun v _ _ => match v with | .b c => c | _ => false) = true
  | 0, _ => ppf24
  | 1, _ => ppf25
  | 2, _ => ppf26
  | 3, _ => ppf27
  | 4, _ => ppf28
  | 5, _ => ppf29
  | 6, _ => ppf30
  | 7, _ => ppf31
  | j + 8, h => by omega
theorem ppo24 : goF ppT2 2000000 3 [.i 4 (.ofNat 24), .xi 0 8 102 0] (fun v _ _ => match v with | .b c => c | _ => false) = true := by kernel_rfl
theorem ppo25 : goF ppT2 2000000 3 [.i 4 (.ofNat 25), .xi 0 8 102 0] (fun v _ _ => match v with | .b c => c | _ => false) = true := by kernel_rfl
theorem ppo26 : goF ppT2 2000000 3 [.i 4 (.ofNat 26), .xi 0 8 102 0] (fun v _ _ => match v with | .b c => c | _ => false) = true := by kernel_rfl
theorem ppo27 : goF ppT2 2000000 3 [.i 4 (.ofNat 27), .xi 0 8 102 0] (fun v _ _ => match v with | .b c => c | _ => false) = true := by kernel_rfl
theorem ppo28 : goF ppT2 2000000 3 [.i 4 (.ofNat 28), .xi 0 8 102 0] (fun v _ _ => match v with | .b c => c | _ => false) = true := by kernel_rfl
theorem ppo29 : goF ppT2 2000000 3 [.i 4 (.ofNat 29), .xi 0 8 102 0] (fun v _ _ => match v with | .b c => c | _ => false) = true := by kernel_rfl
theorem ppo30 : goF ppT2 2000000 3 [.i 4 (.ofNat 30), .xi 0 8 102 0] (fun v _ _ => match v with | .b c => c | _ => false) = true := by kernel_rfl
theorem ppo31 : goF ppT2 2000000 3 [.i 4 (.ofNat 31), .xi 0 8 102 0] (fun v _ _ => match v with | .b c => c | _ => false) = true := by kernel_rfl
theorem ppob3 : ∀ j, j < 8 → goF ppT2 2000000 3 [.i 4 (.ofNat (24 + j)), .xi 0 8 102 0] (fun v _ _ => match v with | .b c => c | _ => false) = true
  | 0, _ => ppo24
  | 1, _ => ppo25
  | 2, _ => ppo26
  | 3, _ => ppo27
  | 4, _ => ppo28
  | 5, _ => ppo29
  | 6, _ => ppo30
  | 7, _ => ppo31
  | j + 8, h => by omega
end Go.AM
namespace Go.AM
open Go
set_option maxHeartbeats 0
set_option maxRecDepth 1000000
theorem ppf32 : goF ppT2 2000000 3 [.i 4 (.ofNat 32), .s [102]] (fun v _ _ => match v with | .b c => c | _ => false) = true := by kernel_rfl
theorem ppf33 : goF ppT2 2000000 3 [.i 4 (.ofNat 33), .s [102]] (fun v _ _ => match v with | .b c => c | _ => false) = true := by kernel_rfl
theorem ppf34 : goF ppT2 2000000 3 [.i 4 (.ofNat 34), .s [102]] (fun v _ _ => match v with | .b c => c | _ => false) = true := by kernel_rfl
theorem ppf35 : goF ppT2 2000000 3 [.i 4 (.ofNat 35), .s [102]] (fun v _ _ => match v with | .b c => c | _ => false) = true := by kernel_rfl
theorem ppf36 : goF ppT2 2000000 3 [.i 4 (.ofNat 36), .s [102]] (fun v _ _ => match v with | .b c => c | _ => false) = true := by kernel_rfl
theorem ppf37 : goF ppT2 2000000 3 [.i 4 (.ofNat 37), .s [102]] (fun v _ _ => match v with | .b c => c | _ => false) = true := by kernel_rfl
theorem ppf38 : goF ppT2 2000000 3 [.i 4 (.ofNat 38), .s [102]] (fun v _ _ => match v with | .b c => c | _ => false) = true := by kernel_rfl
theorem ppf39 : goF ppT2 2000000 3 [.i 4 (.ofNat 39), .s [102]] (fun v _ _ => match v with | .b c => c | _ => false) = true := by kernel_rfl
theorem ppfb4 : ∀ j, j < 8 → goF ppT2 2000000 3 [.i 4 (.ofNat (32 + j)), .s [102]] (fun v _ _ => match v with | .b c => c | _ => false) = true
  | 0, _ => ppf32
  | 1, _ => ppf33
  | 2, _ => ppf34
  | 3, _ => ppf35
  | 4, _ => ppf36
  | 5, _ => ppf37
  | 6, _ => ppf38
  | 7, _ => ppf39
  | j + 8, h => by omega
theorem ppo32 : goF ppT2 2000000 3 [.i 4 (.ofNat 32), .xi 0 8 102 0] (fun v _ _ => match v with | .b c => c | _ => false) = true := by kernel_rfl
theorem ppo33 : goF ppT2 2000000 3 [.i 4 (.ofNat 33), .xi 0 8 102 0] (fun v _ _ => match v with | .b c => c | _ => false) = true := by kernel_rfl
theorem ppo34 : goF ppT2 2000000 3 [.i 4 (.ofNat 34), .xi 0 8 102 0] (fun v _ _ => match v with | .b c => c | _ => false) = true := by kernel_rfl
theorem ppo35 : goF ppT2 2000000 3 [.i 4 (.ofNat 35), .xi 0 8 102 0] (fun v _ _ => match v with | .b c => c | _ => false) = true := by kernel_rfl
theorem ppo36 : goF ppT2 2000000 3 [.i 4 (.ofNat 36), .xi 0 8 102 0] (fun v _ _ => match v with | .b c => c | _ => false) = true := by kernel_rfl
theorem ppo37 : goF ppT2 2000000 3 [.i 4 (.ofNat 37), .xi 0 8 102 0] (fun v _ _ => match v with | .b c => c | _ => false) = true := by kernel_rfl
theorem ppo38 : goF ppT2 2000000 3 [.i 4 (.ofNat 38), .xi 0 8 102 0] (fun v _ _ => match v with | .b c => c | _ => false) = true := by kernel_rfl
theorem ppo39 : goF ppT2 2000000 3 [.i 4 (.ofNat 39), .xi 0 8 102 0] (fun v _ _ => match v with | .b c => c | _ => false) = true := by kernel_rfl
theorem ppob4 : ∀ j, j < 8 → goF ppT2 2000000 3 [.i 4 (.ofNat (32 + j)), .xi 0 8 102 0] (fun v _ _ => match v with | .b c => c | _ => false) = true
  | 0, _ => ppo32
  | 1, _ => ppo33
  | 2, _ => ppo34
  | 3, _ => ppo35
  | 4, _ => ppo36
  | 5, _ => ppo37
  | 6, _ => ppo38
  | 7, _ => ppo39
  | j + 8, h => by omega
end Go.AM
namespace Go.AM
open Go
set_option maxHeartbeats 0
set_option maxRecDepth 1000000
theorem ppf40 : goF ppT2 2000000 3 [.i 4 (.ofNat 40), .s [102]] (fun v _ _ => match v with | .b c => c | _ => false) = true := by kernel_rfl
theorem ppf41 : goF ppT2 2000000 3 [.i 4 (.ofNat 41), .s [102]] (fun v _ _ => match v with | .b c => c | _ => false) = true := by kernel_rfl
theorem ppf42 : goF ppT2 2000000 3 [.i 4 (.ofNat 42), .s [102]] (fun v _ _ => match v with | .b c => c | _ => false) = true := by kernel_rfl
theorem ppf43 : goF ppT2 2000000 3 [.i 4 (.ofNat 43), .s [102]] (fun v _ _ => match v with | .b c => c | _ => false) = true := by kernel_rfl
theorem ppf44 : goF ppT2 2000000 3 [.i 4 (.ofNat 44), .s [102]] (fun v _ _ => match v with | .b c => c | _ => false) = true := by kernel_rfl
theorem ppf45 : goF ppT2 2000000 3 [.i 4 (.ofNat 45), .s [102]] (fun v _ _ => match v with | .b c => c | _ => false) = true := by kernel_rfl
theorem ppf46 : goF ppT2 2000000 3 [.i 4 (.ofNat 46), .s [102]] (fun v _ _ => match v with | .b c => c | _ => false) = true := by kernel_rfl
theorem ppf47 : goF ppT2 2000000 3 [.i 4 (.ofNat 47), .s [102]] (fun v _ _ => match v with | .b c => c | _ => false) = true := by kernel_rfl
theorem ppfb5 : ∀ j, j < 8 → goF ppT2 2000000 3 [.i 4 (.ofNat (40 + j)), .s [102]] (fun v _ _ => match v with | .b c => c | _ => false) = true
  | 0, _ => ppf40
  | 1, _ => ppf41
  | 2, _ => ppf42
  | 3, _ => ppf43
  | 4, _ => ppf44
  | 5, _ => ppf45
  | 6, _ => ppf46
  | 7, _ => ppf47
  | j + 8, h => by omega
theorem ppo40 : goF ppT2 2000000 3 [.i 4 (.ofNat 40), .xi 0 8 102 0] (fun v _ _ => match v with | .b c => c | _ => false) = true := by kernel_rfl
theorem ppo41 : goF ppT2 2000000 3 [.i 4 (.ofNat 41), .xi 0 8 102 0] (fun v _ _ => match v with | .b c => c | _ => false) = true := by kernel_rfl
theorem ppo42 : goF ppT2 2000000 3 [.i 4 (.ofNat 42), .xi 0 8 102 0] (fun v _ _ => match v with | .b c => c | _ => false) = true := by kernel_rfl
theorem ppo43 : goF ppT2 2000000 3 [.i 4 (.ofNat 43), .xi 0 8 102 0] (fun v _ _ => match v with | .b c => c | _ => false) = true := by kernel_rfl
theorem ppo44 : goF ppT2 2000000 3 [.i 4 (.ofNat 44), .xi 0 8 102 0] (fun v _ _ => match v with | .b c => c | _ => false) = true := by kernel_rfl
theorem ppo45 : goF ppT2 2000000 3 [.i 4 (.ofNat 45), .xi 0 8 102 0] (fun v _ _ => match v with | .b c => c | _ => false) = true := by kernel_rfl
theorem ppo46 : goF ppT2 2000000 3 [.i 4 (.ofNat 46), .xi 0 8 102 0] (fun v _ _ => match v with | .b c => c | _ => false) = true := by kernel_rfl
theorem ppo47 : goF ppT2 2000000 3 [.i 4 (.ofNat 47), .xi 0 8 102 0] (fun v _ _ => match v with | .b c => c | _ => false) = true := by kernel_rfl
theorem ppob5 : ∀ j, j < 8 → goF ppT2 2000000 3 [.i 4 (.ofNat (40 + j)), .xi 0 8 102 0] (fun v _ _ => match v with | .b c => c | _ => false) = true
  | 0, _ => ppo40
  | 1, _ => ppo41
  | 2, _ => ppo42
  | 3, _ => ppo43
  | 4, _ => ppo44
  | 5, _ => ppo45
  | 6, _ => ppo46
  | 7, _ => ppo47
  | j + 8, h => by omega
end Go.AM
namespace Go.AM
open Go
set_option maxHeartbeats 0
set_option maxRecDepth 1000000
theorem ppf48 : goF ppT2 2000000 3 [.i 4 (.ofNat 48), .s [102]] (fun v _ _ => match v with | .b c => c | _ => false) = true := by kernel_rfl
theorem ppf49 : goF ppT2 2000000 3 [.i 4 (.ofNat 49), .s [102]] (fun v _ _ => match v with | .b c => c | _ => false) = true := by kernel_rfl
theorem ppf50 : goF ppT2 2000000 3 [.i 4 (.ofNat 50), .s [102]] (fun v _ _ => match v with | .b c => c | _ => false) = true := by kernel_rfl
theorem ppf51 : goF ppT2 2000000 3 [.i 4 (.ofNat 51), .s [102]] (fun v _ _ => match v with | .b c => c | _ => false) = true := by kernel_rfl
theorem ppf52 : goF ppT2 2000000 3 [.i 4 (.ofNat 52), .s [102]] (fun v _ _ => match v with | .b c => c | _ => false) = true := by kernel_rfl
theorem ppf53 : goF ppT2 2000000 3 [.i 4 (.ofNat 53), .s [102]] (fun v _ _ => match v with | .b c => c | _ => false) = true := by kernel_rfl
theorem ppf54 : goF ppT2 2000000 3 [.i 4 (.ofNat 54), .s [102]] (fun v _ _ => match v with | .b c => c | _ => false) = true := by kernel_rfl
theorem ppf55 : goF ppT2 2000000 3 [.i 4 (.ofNat 55), .s [102]] (fun v _ _ => match v with | .b c => c | _ => false) = true := by kernel_rfl
theorem ppfb6 : ∀ j, j < 8 → goF ppT2 2000000 3 [.i 4 (.ofNat (48 + j)), .s [102]] (fun v _ _ => match v with | .b c => c | _ => false) = true
  | 0, _ => ppf48
  | 1, _ => ppf49
  | 2, _ => ppf50
  | 3, _ => ppf51
  | 4, _ => ppf52
  | 5, _ => ppf53
  | 6, _ => ppf54
  | 7, _ => ppf55
  | j + 8, h => by omega
theorem ppo48 : goF ppT2 2000000 3 [.i 4 (.ofNat 48), .xi 0 8 102 0] (fun v _ _ => match v with | .b c => c | _ => false) = true := by kernel_rfl
theorem ppo49 : goF ppT2 2000000 3 [.i 4 (.ofNat 49), .xi 0 8 102 0] (fun v _ _ => match v with | .b c => c | _ => false) = true := by kernel_rfl
theorem ppo50 : goF ppT2 2000000 3 [.i 4 (.ofNat 50), .xi 0 8 102 0] (fun v _ _ => match v with | .b c => c | _ => false) = true := by kernel_rfl
theorem ppo51 : goF ppT2 2000000 3 [.i 4 (.ofNat 51), .xi 0 8 102 0] (fun v _ _ => match v with | .b c => c | _ => false) = true := by kernel_rfl
theorem ppo52 : goF ppT2 2000000 3 [.i 4 (.ofNat 52), .xi 0 8 102 0] (fun v _ _ => match v with | .b c => c | _ => false) = true := by kernel_rfl
theorem ppo53 : goF ppT2 2000000 3 [.i 4 (.ofNat 53), .xi 0 8 102 0] (fun v _ _ => match v with | .b c => c | _ => false) = true := by kernel_rfl
theorem ppo54 : goF ppT2 2000000 3 [.i 4 (.ofNat 54), .xi 0 8 102 0] (fun v _ _ => match v with | .b c => c | _ => false) = true := by kernel_rfl
theorem ppo55 : goF ppT2 2000000 3 [.i 4 (.ofNat 55), .xi 0 8 102 0] (fun v _ _ => match v with | .b c => c | _ => false) = true := by kernel_rfl
theorem ppob6 : ∀ j, j < 8 → goF ppT2 2000000 3 [.i 4 (.ofNat (48 + j)), .xi 0 8 102 0] (fun v _ _ => match v with | .b c => c | _ => false) = true
  | 0, _ => ppo48
  | 1, _ => ppo49
  | 2, _ => ppo50
  | 3, _ => ppo51
  | 4, _ => ppo52
  | 5, _ => ppo53
  | 6, _ => ppo54
  | 7, _ => ppo55
  | j + 8, h => by omega
end Go.AM
namespace Go.AM
open Go
set_option maxHeartbeats 0
set_option maxRecDepth 1000000
theorem ppf56 : goF ppT2 2000000 3 [.i 4 (.ofNat 56), .s [102]] (fun v _ _ => match v with | .b c => c | _ => false) = true := by kernel_rfl
theorem ppf57 : goF ppT2 2000000 3 [.i 4 (.ofNat 57), .s [102]] (fun v _ _ => match v with | .b c => c | _ => false) = true := by kernel_rfl
theorem ppf58 : goF ppT2 2000000 3 [.i 4 (.ofNat 58), .s [102]] (fun v _ _ => match v with | .b c => c | _ => false) = true := by kernel_rfl
theorem ppf59 : goF ppT2 2000000 3 [.i 4 (.ofNat 59), .s [102]] (fun v _ _ => match v with | .b c => c | _ => false) = true := by kernel_rfl
theorem ppf60 : goF ppT2 2000000 3 [.i 4 (.ofNat 60), .s [102]] (fun v _ _ => match v with | .b c => c | _ => false) = true := by kernel_rfl
theorem ppf61 : goF ppT2 2000000 3 [.i 4 (.ofNat 61), .s [102]] (fun v _ _ => match v with | .b c => c | _ => false) = true := by kernel_rfl
theorem ppf62 : goF ppT2 2000000 3 [.i 4 (.ofNat 62), .s [102]] (fun v _ _ => match v with | .b c => c | _ => false) = true := by kernel_rfl
theorem ppf63 : goF ppT2 2000000 3 [.i 4 (.ofNat 63), .s [102]] (fun v _ _ => match v with | .b c => c | _ => false) = true := by kernel_rfl
theorem ppfb7 : ∀ j, j < 8 → goF ppT2 2000000 3 [.i 4 (.ofNat (56 + j)), .s [102]] (fun v _ _ => match v with | .b c => c | _ => false) = true
  | 0, _ => ppf56
  | 1, _ => ppf57
  | 2, _ => ppf58
  | 3, _ => ppf59
  | 4, _ => ppf60
  | 5, _ => ppf61
  | 6, _ => ppf62
  | 7, _ => ppf63
  | j + 8, h => by omega
theorem ppo56 : goF ppT2 2000000 3 [.i 4 (.ofNat 56), .xi 0 8 102 0] (fun v _ _ => match v with | .b c => c | _ => false) = true := by kernel_rfl
theorem ppo57 : goF ppT2 2000000 3 [.i 4 (.ofNat 57), .xi 0 8 102 0] (fun v _ _ => match v with | .b c => c | _ => false) = true := by kernel_rfl
theorem ppo58 : goF ppT2 2000000 3 [.i 4 (.ofNat 58), .xi 0 8 102 0] (fun v _ _ => match v with | .b c => c | _ => false) = true := by kernel_rfl
theorem ppo59 : goF ppT2 2000000 3 [.i 4 (.ofNat 59), .xi 0 8 102 0] (fun v _ _ => match v with | .b c => c | _ => false) = true := by kernel_rfl
theorem ppo60 : goF ppT2 2000000 3 [.i 4 (.ofNat 60), .xi 0 8 102 0] (fun v _ _ => match v with | .b c => c | _ => false) = true := by kernel_rfl
theorem ppo61 : goF ppT2 2000000 3 [.i 4 (.ofNat 61), .xi 0 8 102 0] (fun v _ _ => match v with | .b c => c | _ => false) = true := by kernel_rfl
theorem ppo62 : goF ppT2 2000000 3 [.i 4 (.ofNat 62), .xi 0 8 102 0] (fun v _ _ => match v with | .b c => c | _ => false) = true := by kernel_rfl
theorem ppo63 : goF ppT2 2000000 3 [.i 4 (.ofNat 63), .xi 0 8 102 0] (fun v _ _ => match v with | .b c => c | _ => false) = true := by kernel_rfl
theorem ppob7 : ∀ j, j < 8 → goF ppT2 2000000 3 [.i 4 (.ofNat (56 + j)), .xi 0 8 102 0] (fun v _ _ => match v with | .b c => c | _ => false) = true
  | 0, _ => ppo56
  | 1, _ => ppo57
  | 2, _ => ppo58
  | 3, _ => ppo59
  | 4, _ => ppo60
  | 5, _ => ppo61
  | 6, _ => ppo62
  | 7, _ => ppo63
  | j + 8, h => by omega
end Go.AM
