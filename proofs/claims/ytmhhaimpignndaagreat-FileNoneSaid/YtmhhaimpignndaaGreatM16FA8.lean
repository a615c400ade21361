/-
  Runs of the law FileNone. Conditions: none.
-/
import Derived.Test.YtmhhaimpignndaaGreatM16FT2
namespace Go.AM
open Go
set_option maxHeartbeats 0
set_option maxRecDepth 1000000
theorem ppf64 : goF ppT2 2000000 3 [.i 4 (.ofNat 64), .s [102]] (fun v _ _ => match v with | .b c => c | _ => false) = true := by kernel_rfl
theorem ppf65 : goF ppT2 2000000 3 [.i 4 (.ofNat 65), .s [102]] (fun v _ _ => match v with | .b c => c | _ => false) = true := by kernel_rfl
theorem ppf66 : goF ppT2 2000000 3 [.i 4 (.ofNat 66), .s [102]] (fun v _ _ => match v with | .b c => c | _ => false) = true := by kernel_rfl
theorem ppf67 : goF ppT2 2000000 3 [.i 4 (.ofNat 67), .s [102]] (fun v _ _ => match v with | .b c => c | _ => false) = true := by kernel_rfl
theorem ppf68 : goF ppT2 2000000 3 [.i 4 (.ofNat 68), .s [102]] (fun v _ _ => match v with | .b c => c | _ => false) = true := by kernel_rfl
theorem ppf69 : goF ppT2 2000000 3 [.i 4 (.ofNat 69), .s [102]] (fun v _ _ => match v with | .b c => c | _ => false) = true := by kernel_rfl
theorem ppf70 : goF ppT2 2000000 3 [.i 4 (.ofNat 70), .s [102]] (fun v _ _ => match v with | .b c => c | _ => false) = true := by kernel_rfl
theorem ppf71 : goF ppT2 2000000 3 [.i 4 (.ofNat 71), .s [102]] (fun v _ _ => match v with | .b c => c | _ => false) = true := by kernel_rfl
theorem ppfb8 : ∀ j, j < 8 → goF ppT2 2000000 3 [.i 4 (.ofNat (64 + j)), .s [102]] (fun v _ _ => match v with | .b c => c | _ => false) = true
  | 0, _ => ppf64
  | 1, _ => ppf65
  | 2, _ => ppf66
  | 3, _ => ppf67
  | 4, _ => ppf68
  | 5, _ => ppf69
  | 6, _ => ppf70
  | 7, _ => ppf71
  | j + 8, h => by omega
theorem ppo64 : goF ppT2 2000000 3 [.i 4 (.ofNat 64), .xi 0 8 102 0] (fun v _ _ => match v with | .b c => c | _ => false) = true := by kernel_rfl
theorem ppo65 : goF ppT2 2000000 3 [.i 4 (.ofNat 65), .xi 0 8 102 0] (fun v _ _ => match v with | .b c => c | _ => false) = true := by kernel_rfl
theorem ppo66 : goF ppT2 2000000 3 [.i 4 (.ofNat 66), .xi 0 8 102 0] (fun v _ _ => match v with | .b c => c | _ => false) = true := by kernel_rfl
theorem ppo67 : goF ppT2 2000000 3 [.i 4 (.ofNat 67), .xi 0 8 102 0] (fun v _ _ => match v with | .b c => c | _ => false) = true := by kernel_rfl
theorem ppo68 : goF ppT2 2000000 3 [.i 4 (.ofNat 68), .xi 0 8 102 0] (fun v _ _ => match v with | .b c => c | _ => false) = true := by kernel_rfl
theorem ppo69 : goF ppT2 2000000 3 [.i 4 (.ofNat 69), .xi 0 8 102 0] (fun v _ _ => match v with | .b c => c | _ => false) = true := by kernel_rfl
theorem ppo70 : goF ppT2 2000000 3 [.i 4 (.ofNat 70), .xi 0 8 102 0] (fun v _ _ => match v with | .b c => c | _ => false) = true := by kernel_rfl
theorem ppo71 : goF ppT2 2000000 3 [.i 4 (.ofNat 71), .xi 0 8 102 0] (fun v _ _ => match v with | .b c => c | _ => false) = true := by kernel_rfl
theorem ppob8 : ∀ j, j < 8 → goF ppT2 2000000 3 [.i 4 (.ofNat (64 + j)), .xi 0 8 102 0] (fun v _ _ => match v with | .b c => c | _ => false) = true
  | 0, _ => ppo64
  | 1, _ => ppo65
  | 2, _ => ppo66
  | 3, _ => ppo67
  | 4, _ => ppo68
  | 5, _ => ppo69
  | 6, _ => ppo70
  | 7, _ => ppo71
  | j + 8, h => by omega
end Go.AM
namespace Go.AM
open Go
set_option maxHeartbeats 0
set_option maxRecDepth 1000000
theorem ppf72 : goF ppT2 2000000 3 [.i 4 (.ofNat 72), .s [102]] (fun v _ _ => match v with | .b c => c | _ => false) = true := by kernel_rfl
theorem ppf73 : goF ppT2 2000000 3 [.i 4 (.ofNat 73), .s [102]] (fun v _ _ => match v with | .b c => c | _ => false) = true := by kernel_rfl
theorem ppf74 : goF ppT2 2000000 3 [.i 4 (.ofNat 74), .s [102]] (fun v _ _ => match v with | .b c => c | _ => false) = true := by kernel_rfl
theorem ppf75 : goF ppT2 2000000 3 [.i 4 (.ofNat 75), .s [102]] (fun v _ _ => match v with | .b c => c | _ => false) = true := by kernel_rfl
theorem ppf76 : goF ppT2 2000000 3 [.i 4 (.ofNat 76), .s [102]] (fun v _ _ => match v with | .b c => c | _ => false) = true := by kernel_rfl
theorem ppf77 : goF ppT2 2000000 3 [.i 4 (.ofNat 77), .s [102]] (fun v _ _ => match v with | .b c => c | _ => false) = true := by kernel_rfl
theorem ppf78 : goF ppT2 2000000 3 [.i 4 (.ofNat 78), .s [102]] (fun v _ _ => match v with | .b c => c | _ => false) = true := by kernel_rfl
theorem ppf79 : goF ppT2 2000000 3 [.i 4 (.ofNat 79), .s [102]] (fun v _ _ => match v with | .b c => c | _ => false) = true := by kernel_rfl
theorem ppfb9 : ∀ j, j < 8 → goF ppT2 2000000 3 [.i 4 (.ofNat (72 + j)), .s [102]] (fun v _ _ => match v with | .b c => c | _ => false) = true
  | 0, _ => ppf72
  | 1, _ => ppf73
  | 2, _ => ppf74
  | 3, _ => ppf75
  | 4, _ => ppf76
  | 5, _ => ppf77
  | 6, _ => ppf78
  | 7, _ => ppf79
  | j + 8, h => by omega
theorem ppo72 : goF ppT2 2000000 3 [.i 4 (.ofNat 72), .xi 0 8 102 0] (fun v _ _ => match v with | .b c => c | _ => false) = true := by kernel_rfl
theorem ppo73 : goF ppT2 2000000 3 [.i 4 (.ofNat 73), .xi 0 8 102 0] (fun v _ _ => match v with | .b c => c | _ => false) = true := by kernel_rfl
theorem ppo74 : goF ppT2 2000000 3 [.i 4 (.ofNat 74), .xi 0 8 102 0] (fun v _ _ => match v with | .b c => c | _ => false) = true := by kernel_rfl
theorem ppo75 : goF ppT2 2000000 3 [.i 4 (.ofNat 75), .xi 0 8 102 0] (fun v _ _ => match v with | .b c => c | _ => false) = true := by kernel_rfl
theorem ppo76 : goF ppT2 2000000 3 [.i 4 (.ofNat 76), .xi 0 8 102 0] (fun v _ _ => match v with | .b c => c | _ => false) = true := by kernel_rfl
theorem ppo77 : goF ppT2 2000000 3 [.i 4 (.ofNat 77), .xi 0 8 102 0] (fun v _ _ => match v with | .b c => c | _ => false) = true := by kernel_rfl
theorem ppo78 : goF ppT2 2000000 3 [.i 4 (.ofNat 78), .xi 0 8 102 0] (fun v _ _ => match v with | .b c => c | _ => false) = true := by kernel_rfl
theorem ppo79 : goF ppT2 2000000 3 [.i 4 (.ofNat 79), .xi 0 8 102 0] (fun v _ _ => match v with | .b c => c | _ => false) = true := by kernel_rfl
theorem ppob9 : ∀ j, j < 8 → goF ppT2 2000000 3 [.i 4 (.ofNat (72 + j)), .xi 0 8 102 0] (fun v _ _ => match v with | .b c => c | _ => false) = true
  | 0, _ => ppo72
  | 1, _ => ppo73
  | 2, _ => ppo74
  | 3, _ => ppo75
  | 4, _ => ppo76
  | 5, _ => ppo77
  | 6, _ => ppo78
  | 7, _ => ppo79
  | j + 8, h => by omega
end Go.AM
namespace Go.AM
open Go
set_option maxHeartbeats 0
set_option maxRecDepth 1000000
theorem ppf80 : goF ppT2 2000000 3 [.i 4 (.ofNat 80), .s [102]] (fun v _ _ => match v with | .b c => c | _ => false) = true := by kernel_rfl
theorem ppf81 : goF ppT2 2000000 3 [.i 4 (.ofNat 81), .s [102]] (fun v _ _ => match v with | .b c => c | _ => false) = true := by kernel_rfl
theorem ppf82 : goF ppT2 2000000 3 [.i 4 (.ofNat 82), .s [102]] (fun v _ _ => match v with | .b c => c | _ => false) = true := by kernel_rfl
theorem ppf83 : goF ppT2 2000000 3 [.i 4 (.ofNat 83), .s [102]] (fun v _ _ => match v with | .b c => c | _ => false) = true := by kernel_rfl
theorem ppf84 : goF ppT2 2000000 3 [.i 4 (.ofNat 84), .s [102]] (fun v _ _ => match v with | .b c => c | _ => false) = true := by kernel_rfl
theorem ppf85 : goF ppT2 2000000 3 [.i 4 (.ofNat 85), .s [102]] (fun v _ _ => match v with | .b c => c | _ => false) = true := by kernel_rfl
theorem ppf86 : goF ppT2 2000000 3 [.i 4 (.ofNat 86), .s [102]] (fun v _ _ => match v with | .b c => c | _ => false) = true := by kernel_rfl
theorem ppf87 : goF ppT2 2000000 3 [.i 4 (.ofNat 87), .s [102]] (fun v _ _ => match v with | .b c => c | _ => false) = true := by kernel_rfl
theorem ppfb10 : ∀ j, j < 8 → goF ppT2 2000000 3 [.i 4 (.ofNat (80 + j)), .s [102]] (fun v _ _ => match v with | .b c => c | _ => false) = true
  | 0, _ => ppf80
  | 1, _ => ppf81
  | 2, _ => ppf82
  | 3, _ => ppf83
  | 4, _ => ppf84
  | 5, _ => ppf85
  | 6, _ => ppf86
  | 7, _ => ppf87
  | j + 8, h => by omega
theorem ppo80 : goF ppT2 2000000 3 [.i 4 (.ofNat 80), .xi 0 8 102 0] (fun v _ _ => match v with | .b c => c | _ => false) = true := by kernel_rfl
theorem ppo81 : goF ppT2 2000000 3 [.i 4 (.ofNat 81), .xi 0 8 102 0] (fun v _ _ => match v with | .b c => c | _ => false) = true := by kernel_rfl
theorem ppo82 : goF ppT2 2000000 3 [.i 4 (.ofNat 82), .xi 0 8 102 0] (fun v _ _ => match v with | .b c => c | _ => false) = true := by kernel_rfl
theorem ppo83 : goF ppT2 2000000 3 [.i 4 (.ofNat 83), .xi 0 8 102 0] (fun v _ _ => match v with | .b c => c | _ => false) = true := by kernel_rfl
theorem ppo84 : goF ppT2 2000000 3 [.i 4 (.ofNat 84), .xi 0 8 102 0] (fun v _ _ => match v with | .b c => c | _ => false) = true := by kernel_rfl
theorem ppo85 : goF ppT2 2000000 3 [.i 4 (.ofNat 85), .xi 0 8 102 0] (fun v _ _ => match v with | .b c => c | _ => false) = true := by kernel_rfl
theorem ppo86 : goF ppT2 2000000 3 [.i 4 (.ofNat 86), .xi 0 8 102 0] (fun v _ _ => match v with | .b c => c | _ => false) = true := by kernel_rfl
theorem ppo87 : goF ppT2 2000000 3 [.i 4 (.ofNat 87), .xi 0 8 102 0] (fun v _ _ => match v with | .b c => c | _ => false) = true := by kernel_rfl
theorem ppob10 : ∀ j, j < 8 → goF ppT2 2000000 3 [.i 4 (.ofNat (80 + j)), .xi 0 8 102 0] (fun v _ _ => match v with | .b c => c | _ => false) = true
  | 0, _ => ppo80
  | 1, _ => ppo81
  | 2, _ => ppo82
  | 3, _ => ppo83
  | 4, _ => ppo84
  | 5, _ => ppo85
  | 6, _ => ppo86
  | 7, _ => ppo87
  | j + 8, h => by omega
end Go.AM
namespace Go.AM
open Go
set_option maxHeartbeats 0
set_option maxRecDepth 1000000
theorem ppf88 : goF ppT2 2000000 3 [.i 4 (.ofNat 88), .s [102]] (fun v _ _ => match v with | .b c => c | _ => false) = true := by kernel_rfl
theorem ppf89 : goF ppT2 2000000 3 [.i 4 (.ofNat 89), .s [102]] (fun v _ _ => match v with | .b c => c | _ => false) = true := by kernel_rfl
theorem ppf90 : goF ppT2 2000000 3 [.i 4 (.ofNat 90), .s [102]] (fun v _ _ => match v with | .b c => c | _ => false) = true := by kernel_rfl
theorem ppf91 : goF ppT2 2000000 3 [.i 4 (.ofNat 91), .s [102]] (fun v _ _ => match v with | .b c => c | _ => false) = true := by kernel_rfl
theorem ppf92 : goF ppT2 2000000 3 [.i 4 (.ofNat 92), .s [102]] (fun v _ _ => match v with | .b c => c | _ => false) = true := by kernel_rfl
theorem ppf93 : goF ppT2 2000000 3 [.i 4 (.ofNat 93), .s [102]] (fun v _ _ => match v with | .b c => c | _ => false) = true := by kernel_rfl
theorem ppf94 : goF ppT2 2000000 3 [.i 4 (.ofNat 94), .s [102]] (fun v _ _ => match v with | .b c => c | _ => false) = true := by kernel_rfl
theorem ppf95 : goF ppT2 2000000 3 [.i 4 (.ofNat 95), .s [102]] (fun v _ _ => match v with | .b c => c | _ => false) = true := by kernel_rfl
theorem ppfb11 : ∀ j, j < 8 → goF ppT2 2000000 3 [.i 4 (.ofNat (88 + j)), .s [102]] (fun v _ _ => match v with | .b c => c | _ => false) = true
  | 0, _ => ppf88
  | 1, _ => ppf89
  | 2, _ => ppf90
  | 3, _ => ppf91
  | 4, _ => ppf92
  | 5, _ => ppf93
  | 6, _ => ppf94
  | 7, _ => ppf95
  | j + 8, h => by omega
theorem ppo88 : goF ppT2 2000000 3 [.i 4 (.ofNat 88), .xi 0 8 102 0] (fun v _ _ => match v with | .b c => c | _ => false) = true := by kernel_rfl
theorem ppo89 : goF ppT2 2000000 3 [.i 4 (.ofNat 89), .xi 0 8 102 0] (fun v _ _ => match v with | .b c => c | _ => false) = true := by kernel_rfl
theorem ppo90 : goF ppT2 2000000 3 [.i 4 (.ofNat 90), .xi 0 8 102 0] (fun v _ _ => match v with | .b c => c | _ => false) = true := by kernel_rfl
theorem ppo91 : goF ppT2 2000000 3 [.i 4 (.ofNat 91), .xi 0 8 102 0] (fun v _ _ => match v with | .b c => c | _ => false) = true := by kernel_rfl
theorem ppo92 : goF ppT2 2000000 3 [.i 4 (.ofNat 92), .xi 0 8 102 0] (fun v _ _ => match v with | .b c => c | _ => false) = true := by kernel_rfl
theorem ppo93 : goF ppT2 2000000 3 [.i 4 (.ofNat 93), .xi 0 8 102 0] (fun v _ _ => match v with | .b c => c | _ => false) = true := by kernel_rfl
theorem ppo94 : goF ppT2 2000000 3 [.i 4 (.ofNat 94), .xi 0 8 102 0] (fun v _ _ => match v with | .b c => c | _ => false) = true := by kernel_rfl
theorem ppo95 : goF ppT2 2000000 3 [.i 4 (.ofNat 95), .xi 0 8 102 0] (fun v _ _ => match v with | .b c => c | _ => false) = true := by kernel_rfl
theorem ppob11 : ∀ j, j < 8 → goF ppT2 2000000 3 [.i 4 (.ofNat (88 + j)), .xi 0 8 102 0] (fun v _ _ => match v with | .b c => c | _ => false) = true
  | 0, _ => ppo88
  | 1, _ => ppo89
  | 2, _ => ppo90
  | 3, _ => ppo91
  | 4, _ => ppo92
  | 5, _ => ppo93
  | 6, _ => ppo94
  | 7, _ => ppo95
  | j + 8, h => by omega
end Go.AM
namespace Go.AM
open Go
set_option maxHeartbeats 0
set_option maxRecDepth 1000000
theorem ppf96 : goF ppT2 2000000 3 [.i 4 (.ofNat 96), .s [102]] (fun v _ _ => match v with | .b c => c | _ => false) = true := by kernel_rfl
theorem ppf97 : goF ppT2 2000000 3 [.i 4 (.ofNat 97), .s [102]] (fun v _ _ => match v with | .b c => c | _ => false) = true := by kernel_rfl
theorem ppf98 : goF ppT2 2000000 3 [.i 4 (.ofNat 98), .s [102]] (fun v _ _ => match v with | .b c => c | _ => false) = true := by kernel_rfl
theorem ppf99 : goF ppT2 2000000 3 [.i 4 (.ofNat 99), .s [102]] (fun v _ _ => match v with | .b c => c | _ => false) = true := by kernel_rfl
theorem ppf100 : goF ppT2 2000000 3 [.i 4 (.ofNat 100), .s [102]] (fun v _ _ => match v with | .b c => c | _ => false) = true := by kernel_rfl
theorem ppf101 : goF ppT2 2000000 3 [.i 4 (.ofNat 101), .s [102]] (fun v _ _ => match v with | .b c => c | _ => false) = true := by kernel_rfl
theorem ppf102 : goF ppT2 2000000 3 [.i 4 (.ofNat 102), .s [102]] (fun v _ _ => match v with | .b c => c | _ => false) = true := by kernel_rfl
theorem ppf103 : goF ppT2 2000000 3 [.i 4 (.ofNat 103), .s [102]] (fun v _ _ => match v with | .b c => c | _ => false) = true := by kernel_rfl
theorem ppfb12 : ∀ j, j < 8 → goF ppT2 2000000 3 [.i 4 (.ofNat (96 + j)), .s [102]] (fun v _ _ => match v with | .b c => c | _ => false) = true
  | 0, _ => ppf96
  | 1, _ => ppf97
  | 2, _ => ppf98
  | 3, _ => ppf99
  | 4, _ => ppf100
  | 5, _ => ppf101
  | 6, _ => ppf102
  | 7, _ => ppf103
  | j + 8, h => by omega
theorem ppo96 : goF ppT2 2000000 3 [.i 4 (.ofNat 96), .xi 0 8 102 0] (fun v _ _ => match v with | .b c => c | _ => false) = true := by kernel_rfl
theorem ppo97 : goF ppT2 2000000 3 [.i 4 (.ofNat 97), .xi 0 8 102 0] (fun v _ _ => match v with | .b c => c | _ => false) = true := by kernel_rfl
theorem ppo98 : goF ppT2 2000000 3 [.i 4 (.ofNat 98), .xi 0 8 102 0] (fun v _ _ => match v with | .b c => c | _ => false) = true := by kernel_rfl
theorem ppo99 : goF ppT2 2000000 3 [.i 4 (.ofNat 99), .xi 0 8 102 0] (fun v _ _ => match v with | .b c => c | _ => false) = true := by kernel_rfl
theorem ppo100 : goF ppT2 2000000 3 [.i 4 (.ofNat 100), .xi 0 8 102 0] (fun v _ _ => match v with | .b c => c | _ => false) = true := by kernel_rfl
theorem ppo101 : goF ppT2 2000000 3 [.i 4 (.ofNat 101), .xi 0 8 102 0] (fun v _ _ => match v with | .b c => c | _ => false) = true := by kernel_rfl
theorem ppo102 : goF ppT2 2000000 3 [.i 4 (.ofNat 102), .xi 0 8 102 0] (fun v _ _ => match v with | .b c => c | _ => false) = true := by kernel_rfl
theorem ppo103 : goF ppT2 2000000 3 [.i 4 (.ofNat 103), .xi 0 8 102 0] (fun v _ _ => match v with | .b c => c | _ => false) = true := by kernel_rfl
theorem ppob12 : ∀ j, j < 8 → goF ppT2 2000000 3 [.i 4 (.ofNat (96 + j)), .xi 0 8 102 0] (fun v _ _ => match v with | .b c => c | _ => false) = true
  | 0, _ => ppo96
  | 1, _ => ppo97
  | 2, _ => ppo98
  | 3, _ => ppo99
  | 4, _ => ppo100
  | 5, _ => ppo101
  | 6, _ => ppo102
  | 7, _ => ppo103
  | j + 8, h => by omega
end Go.AM
namespace Go.AM
open Go
set_option maxHeartbeats 0
set_option maxRecDepth 1000000
theorem ppf104 : goF ppT2 2000000 3 [.i 4 (.ofNat 104), .s [102]] (fun v _ _ => match v with | .b c => c | _ => false) = true := by kernel_rfl
theorem ppf105 : goF ppT2 2000000 3 [.i 4 (.ofNat 105), .s [102]] (fun v _ _ => match v with | .b c => c | _ => false) = true := by kernel_rfl
theorem ppf106 : goF ppT2 2000000 3 [.i 4 (.ofNat 106), .s [102]] (fun v _ _ => match v with | .b c => c | _ => false) = true := by kernel_rfl
theorem ppf107 : goF ppT2 2000000 3 [.i 4 (.ofNat 107), .s [102]] (fun v _ _ => match v with | .b c => c | _ => false) = true := by kernel_rfl
theorem ppf108 : goF ppT2 2000000 3 [.i 4 (.ofNat 108), .s [102]] (fun v _ _ => match v with | .b c => c | _ => false) = true := by kernel_rfl
theorem ppf109 : goF ppT2 2000000 3 [.i 4 (.ofNat 109), .s [102]] (fun v _ _ => match v with | .b c => c | _ => false) = true := by kernel_rfl
theorem ppf110 : goF ppT2 2000000 3 [.i 4 (.ofNat 110), .s [102]] (fun v _ _ => match v with | .b c => c | _ => false) = true := by kernel_rfl
theorem ppf111 : goF ppT2 2000000 3 [.i 4 (.ofNat 111), .s [102]] (fun v _ _ => match v with | .b c => c | _ => false) = true := by kernel_rfl
theorem ppfb13 : ∀ j, j < 8 → goF ppT2 2000000 3 [.i 4 (.ofNat (104 + j)), .s [102]] (fun v _ _ => match v with | .b c => c | _ => false) = true
  | 0, _ => ppf104
  | 1, _ => ppf105
  | 2, _ => ppf106
  | 3, _ => ppf107
  | 4, _ => ppf108
  | 5, _ => ppf109
  | 6, _ => ppf110
  | 7, _ => ppf111
  | j + 8, h => by omega
theorem ppo104 : goF ppT2 2000000 3 [.i 4 (.ofNat 104), .xi 0 8 102 0] (fun v _ _ => match v with | .b c => c | _ => false) = true := by kernel_rfl
theorem ppo105 : goF ppT2 2000000 3 [.i 4 (.ofNat 105), .xi 0 8 102 0] (fun v _ _ => match v with | .b c => c | _ => false) = true := by kernel_rfl
theorem ppo106 : goF ppT2 2000000 3 [.i 4 (.ofNat 106), .xi 0 8 102 0] (fun v _ _ => match v with | .b c => c | _ => false) = true := by kernel_rfl
theorem ppo107 : goF ppT2 2000000 3 [.i 4 (.ofNat 107), .xi 0 8 102 0] (fun v _ _ => match v with | .b c => c | _ => false) = true := by kernel_rfl
theorem ppo108 : goF ppT2 2000000 3 [.i 4 (.ofNat 108), .xi 0 8 102 0] (fun v _ _ => match v with | .b c => c | _ => false) = true := by kernel_rfl
theorem ppo109 : goF ppT2 2000000 3 [.i 4 (.ofNat 109), .xi 0 8 102 0] (fun v _ _ => match v with | .b c => c | _ => false) = true := by kernel_rfl
theorem ppo110 : goF ppT2 2000000 3 [.i 4 (.ofNat 110), .xi 0 8 102 0] (fun v _ _ => match v with | .b c => c | _ => false) = true := by kernel_rfl
theorem ppo111 : goF ppT2 2000000 3 [.i 4 (.ofNat 111), .xi 0 8 102 0] (fun v _ _ => match v with | .b c => c | _ => false) = true := by kernel_rfl
theorem ppob13 : ∀ j, j < 8 → goF ppT2 2000000 3 [.i 4 (.ofNat (104 + j)), .xi 0 8 102 0] (fun v _ _ => match v with | .b c => c | _ => false) = true
  | 0, _ => ppo104
  | 1, _ => ppo105
  | 2, _ => ppo106
  | 3, _ => ppo107
  | 4, _ => ppo108
  | 5, _ => ppo109
  | 6, _ => ppo110
  | 7, _ => ppo111
  | j + 8, h => by omega
end Go.AM
namespace Go.AM
open Go
set_option maxHeartbeats 0
set_option maxRecDepth 1000000
theorem ppf112 : goF ppT2 2000000 3 [.i 4 (.ofNat 112), .s [102]] (fun v _ _ => match v with | .b c => c | _ => false) = true := by kernel_rfl
theorem ppf113 : goF ppT2 2000000 3 [.i 4 (.ofNat 113), .s [102]] (fun v _ _ => match v with | .b c => c | _ => false) = true := by kernel_rfl
theorem ppf114 : goF ppT2 2000000 3 [.i 4 (.ofNat 114), .s [102]] (fun v _ _ => match v with | .b c => c | _ => false) = true := by kernel_rfl
theorem ppf115 : goF ppT2 2000000 3 [.i 4 (.ofNat 115), .s [102]] (fun v _ _ => match v with | .b c => c | _ => false) = true := by kernel_rfl
theorem ppf116 : goF ppT2 2000000 3 [.i 4 (.ofNat 116), .s [102]] (fun v _ _ => match v with | .b c => c | _ => false) = true := by kernel_rfl
theorem ppf117 : goF ppT2 2000000 3 [.i 4 (.ofNat 117), .s [102]] (fun v _ _ => match v with | .b c => c | _ => false) = true := by kernel_rfl
theorem ppf118 : goF ppT2 2000000 3 [.i 4 (.ofNat 118), .s [102]] (fun v _ _ => match v with | .b c => c | _ => false) = true := by kernel_rfl
theorem ppf119 : goF ppT2 2000000 3 [.i 4 (.ofNat 119), .s [102]] (fun v _ _ => match v with | .b c => c | _ => false) = true := by kernel_rfl
theorem ppfb14 : ∀ j, j < 8 → goF ppT2 2000000 3 [.i 4 (.ofNat (112 + j)), .s [102]] (fun v _ _ => match v with | .b c => c | _ => false) = true
  | 0, _ => ppf112
  | 1, _ => ppf113
  | 2, _ => ppf114
  | 3, _ => ppf115
  | 4, _ => ppf116
  | 5, _ => ppf117
  | 6, _ => ppf118
  | 7, _ => ppf119
  | j + 8, h => by omega
theorem ppo112 : goF ppT2 2000000 3 [.i 4 (.ofNat 112), .xi 0 8 102 0] (fun v _ _ => match v with | .b c => c | _ => false) = true := by kernel_rfl
theorem ppo113 : goF ppT2 2000000 3 [.i 4 (.ofNat 113), .xi 0 8 102 0] (fun v _ _ => match v with | .b c => c | _ => false) = true := by kernel_rfl
theorem ppo114 : goF ppT2 2000000 3 [.i 4 (.ofNat 114), .xi 0 8 102 0] (fun v _ _ => match v with | .b c => c | _ => false) = true := by kernel_rfl
theorem ppo115 : goF ppT2 2000000 3 [.i 4 (.ofNat 115), .xi 0 8 102 0] (fun v _ _ => match v with | .b c => c | _ => false) = true := by kernel_rfl
theorem ppo116 : goF ppT2 2000000 3 [.i 4 (.ofNat 116), .xi 0 8 102 0] (fun v _ _ => match v with | .b c => c | _ => false) = true := by kernel_rfl
theorem ppo117 : goF ppT2 2000000 3 [.i 4 (.ofNat 117), .xi 0 8 102 0] (fun v _ _ => match v with | .b c => c | _ => false) = true := by kernel_rfl
theorem ppo118 : goF ppT2 2000000 3 [.i 4 (.ofNat 118), .xi 0 8 102 0] (fun v _ _ => match v with | .b c => c | _ => false) = true := by kernel_rfl
theorem ppo119 : goF ppT2 2000000 3 [.i 4 (.ofNat 119), .xi 0 8 102 0] (fun v _ _ => match v with | .b c => c | _ => false) = true := by kernel_rfl
theorem ppob14 : ∀ j, j < 8 → goF ppT2 2000000 3 [.i 4 (.ofNat (112 + j)), .xi 0 8 102 0] (fun v _ _ => match v with | .b c => c | _ => false) = true
  | 0, _ => ppo112
  | 1, _ => ppo113
  | 2, _ => ppo114
  | 3, _ => ppo115
  | 4, _ => ppo116
  | 5, _ => ppo117
  | 6, _ => ppo118
  | 7, _ => ppo119
  | j + 8, h => by omega
end Go.AM
namespace Go.AM
open Go
set_option maxHeartbeats 0
set_option maxRecDepth 1000000
theorem ppf120 : goF ppT2 2000000 3 [.i 4 (.ofNat 120), .s [102]] (fun v _ _ => match v with | .b c => c | _ => false) = true := by kernel_rfl
theorem ppf121 : goF ppT2 2000000 3 [.i 4 (.ofNat 121), .s [102]] (fun v _ _ => match v with | .b c => c | _ => false) = true := by kernel_rfl
theorem ppf122 : goF ppT2 2000000 3 [.i 4 (.ofNat 122), .s [102]] (fun v _ _ => match v with | .b c => c | _ => false) = true := by kernel_rfl
theorem ppf123 : goF ppT2 2000000 3 [.i 4 (.ofNat 123), .s [102]] (fun v _ _ => match v with | .b c => c | _ => false) = true := by kernel_rfl
theorem ppf124 : goF ppT2 2000000 3 [.i 4 (.ofNat 124), .s [102]] (fun v _ _ => match v with | .b c => c | _ => false) = true := by kernel_rfl
theorem ppf125 : goF ppT2 2000000 3 [.i 4 (.ofNat 125), .s [102]] (fun v _ _ => match v with | .b c => c | _ => false) = true := by kernel_rfl
theorem ppf126 : goF ppT2 2000000 3 [.i 4 (.ofNat 126), .s [102]] (fun v _ _ => match v with | .b c => c | _ => false) = true := by kernel_rfl
theorem ppf127 : goF ppT2 2000000 3 [.i 4 (.ofNat 127), .s [102]] (fun v _ _ => match v with | .b c => c | _ => false) = true := by kernel_rfl
theorem ppfb15 : ∀ j, j < 8 → goF ppT2 2000000 3 [.i 4 (.ofNat (120 + j)), .s [102]] (fun v _ _ => match v with | .b c => c | _ => false) = true
  | 0, _ => ppf120
  | 1, _ => ppf121
  | 2, _ => ppf122
  | 3, _ => ppf123
  | 4, _ => ppf124
  | 5, _ => ppf125
  | 6, _ => ppf126
  | 7, _ => ppf127
  | j + 8, h => by omega
theorem ppo120 : goF ppT2 2000000 3 [.i 4 (.ofNat 120), .xi 0 8 102 0] (fun v _ _ => match v with | .b c => c | _ => false) = true := by kernel_rfl
theorem ppo121 : goF ppT2 2000000 3 [.i 4 (.ofNat 121), .xi 0 8 102 0] (fun v _ _ => match v with | .b c => c | _ => false) = true := by kernel_rfl
theorem ppo122 : goF ppT2 2000000 3 [.i 4 (.ofNat 122), .xi 0 8 102 0] (fun v _ _ => match v with | .b c => c | _ => false) = true := by kernel_rfl
theorem ppo123 : goF ppT2 2000000 3 [.i 4 (.ofNat 123), .xi 0 8 102 0] (fun v _ _ => match v with | .b c => c | _ => false) = true := by kernel_rfl
theorem ppo124 : goF ppT2 2000000 3 [.i 4 (.ofNat 124), .xi 0 8 102 0] (fun v _ _ => match v with | .b c => c | _ => false) = true := by kernel_rfl
theorem ppo125 : goF ppT2 2000000 3 [.i 4 (.ofNat 125), .xi 0 8 102 0] (fun v _ _ => match v with | .b c => c | _ => false) = true := by kernel_rfl
theorem ppo126 : goF ppT2 2000000 3 [.i 4 (.ofNat 126), .xi 0 8 102 0] (fun v _ _ => match v with | .b c => c | _ => false) = true := by kernel_rfl
theorem ppo127 : goF ppT2 2000000 3 [.i 4 (.ofNat 127), .xi 0 8 102 0] (fun v _ _ => match v with | .b c => c | _ => false) = true := by kernel_rfl
theorem ppob15 : ∀ j, j < 8 → goF ppT2 2000000 3 [.i 4 (.ofNat (120 + j)), .xi 0 8 102 0] (fun v _ _ => match v with | .b c => c | _ => false) = true
  | 0, _ => ppo120
  | 1, _ => ppo121
  | 2, _ => ppo122
  | 3, _ => ppo123
  | 4, _ => ppo124
  | 5, _ => ppo125
  | 6, _ => ppo126
  | 7, _ => ppo127
  | j + 8, h => by omega
end Go.AM
