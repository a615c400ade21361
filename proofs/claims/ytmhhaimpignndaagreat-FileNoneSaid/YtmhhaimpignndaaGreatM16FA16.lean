/-
  Runs of the law FileNone. Conditions: none.
-/
import Derived.Test.YtmhhaimpignndaaGreatM16FT2
namespace Go.AM
open Go
set_option maxHeartbeats 0
set_option maxRecDepth 1000000
theorem ppf128 : goF ppT2 2000000 3 [.i 4 (.ofNat 128), .s [102]] (fun v _ _ => match v with | .b c => c | _ => false) = true := by kernel_rfl
theorem ppf129 : goF ppT2 2000000 3 [.i 4 (.ofNat 129), .s [102]] (fun v _ _ => match v with | .b c => c | _ => false) = true := by kernel_rfl
theorem ppf130 : goF ppT2 2000000 3 [.i 4 (.ofNat 130), .s [102]] (fun v _ _ => match v with | .b c => c | _ => false) = true := by kernel_rfl
theorem ppf131 : goF ppT2 2000000 3 [.i 4 (.ofNat 131), .s [102]] (fun v _ _ => match v with | .b c => c | _ => false) = true := by kernel_rfl
theorem ppf132 : goF ppT2 2000000 3 [.i 4 (.ofNat 132), .s [102]] (fun v _ _ => match v with | .b c => c | _ => false) = true := by kernel_rfl
theorem ppf133 : goF ppT2 2000000 3 [.i 4 (.ofNat 133), .s [102]] (fun v _ _ => match v with | .b c => c | _ => false) = true := by kernel_rfl
theorem ppf134 : goF ppT2 2000000 3 [.i 4 (.ofNat 134), .s [102]] (fun v _ _ => match v with | .b c => c | _ => false) = true := by kernel_rfl
theorem ppf135 : goF ppT2 2000000 3 [.i 4 (.ofNat 135), .s [102]] (fun v _ _ => match v with | .b c => c | _ => false) = true := by kernel_rfl
theorem ppfb16 : ∀ j, j < 8 → goF ppT2 2000000 3 [.i 4 (.ofNat (128 + j)), .s [102]] (fun v _ _ => match v with | .b c => c | _ => false) = true
  | 0, _ => ppf128
  | 1, _ => ppf129
  | 2, _ => ppf130
  | 3, _ => ppf131
  | 4, _ => ppf132
  | 5, _ => ppf133
  | 6, _ => ppf134
  | 7, _ => ppf135
  | j + 8, h => by omega
theorem ppo128 : goF ppT2 2000000 3 [.i 4 (.ofNat 128), .xi 0 8 102 0] (fun v _ _ => match v with | .b c => c | _ => false) = true := by kernel_rfl
theorem ppo129 : goF ppT2 2000000 3 [.i 4 (.ofNat 129), .xi 0 8 102 0] (fun v _ _ => match v with | .b c => c | _ => false) = true := by kernel_rfl
theorem ppo130 : goF ppT2 2000000 3 [.i 4 (.ofNat 130), .xi 0 8 102 0] (fun v _ _ => match v with | .b c => c | _ => false) = true := by kernel_rfl
theorem ppo131 : goF ppT2 2000000 3 [.i 4 (.ofNat 131), .xi 0 8 102 0] (fun v _ _ => match v with | .b c => c | _ => false) = true := by kernel_rfl
theorem ppo132 : goF ppT2 2000000 3 [.i 4 (.ofNat 132), .xi 0 8 102 0] (fun v _ _ => match v with | .b c => c | _ => false) = true := by kernel_rfl
theorem ppo133 : goF ppT2 2000000 3 [.i 4 (.ofNat 133), .xi 0 8 102 0] (fun v _ _ => match v with | .b c => c | _ => false) = true := by kernel_rfl
theorem ppo134 : goF ppT2 2000000 3 [.i 4 (.ofNat 134), .xi 0 8 102 0] (fun v _ _ => match v with | .b c => c | _ => false) = true := by kernel_rfl
theorem ppo135 : goF ppT2 2000000 3 [.i 4 (.ofNat 135), .xi 0 8 102 0] (fun v _ _ => match v with | .b c => c | _ => false) = true := by kernel_rfl
theorem ppob16 : ∀ j, j < 8 → goF ppT2 2000000 3 [.i 4 (.ofNat (128 + j)), .xi 0 8 102 0] (fun v _ _ => match v with | .b c => c | _ => false) = true
  | 0, _ => ppo128
  | 1, _ => ppo129
  | 2, _ => ppo130
  | 3, _ => ppo131
  | 4, _ => ppo132
  | 5, _ => ppo133
  | 6, _ => ppo134
  | 7, _ => ppo135
  | j + 8, h => by omega
end Go.AM
namespace Go.AM
open Go
set_option maxHeartbeats 0
set_option maxRecDepth 1000000
theorem ppf136 : goF ppT2 2000000 3 [.i 4 (.ofNat 136), .s [102]] (fun v _ _ => match v with | .b c => c | _ => false) = true := by kernel_rfl
theorem ppf137 : goF ppT2 2000000 3 [.i 4 (.ofNat 137), .s [102]] (fun v _ _ => match v with | .b c => c | _ => false) = true := by kernel_rfl
theorem ppf138 : goF ppT2 2000000 3 [.i 4 (.ofNat 138), .s [102]] (fun v _ _ => match v with | .b c => c | _ => false) = true := by kernel_rfl
theorem ppf139 : goF ppT2 2000000 3 [.i 4 (.ofNat 139), .s [102]] (fun v _ _ => match v with | .b c => c | _ => false) = true := by kernel_rfl
theorem ppf140 : goF ppT2 2000000 3 [.i 4 (.ofNat 140), .s [102]] (fun v _ _ => match v with | .b c => c | _ => false) = true := by kernel_rfl
theorem ppf141 : goF ppT2 2000000 3 [.i 4 (.ofNat 141), .s [102]] (fun v _ _ => match v with | .b c => c | _ => false) = true := by kernel_rfl
theorem ppf142 : goF ppT2 2000000 3 [.i 4 (.ofNat 142), .s [102]] (fun v _ _ => match v with | .b c => c | _ => false) = true := by kernel_rfl
theorem ppf143 : goF ppT2 2000000 3 [.i 4 (.ofNat 143), .s [102]] (fun v _ _ => match v with | .b c => c | _ => false) = true := by kernel_rfl
theorem ppfb17 : ∀ j, j < 8 → goF ppT2 2000000 3 [.i 4 (.ofNat (136 + j)), .s [102]] (fun v _ _ => match v with | .b c => c | _ => false) = true
  | 0, _ => ppf136
  | 1, _ => ppf137
  | 2, _ => ppf138
  | 3, _ => ppf139
  | 4, _ => ppf140
  | 5, _ => ppf141
  | 6, _ => ppf142
  | 7, _ => ppf143
  | j + 8, h => by omega
theorem ppo136 : goF ppT2 2000000 3 [.i 4 (.ofNat 136), .xi 0 8 102 0] (fun v _ _ => match v with | .b c => c | _ => false) = true := by kernel_rfl
theorem ppo137 : goF ppT2 2000000 3 [.i 4 (.ofNat 137), .xi 0 8 102 0] (fun v _ _ => match v with | .b c => c | _ => false) = true := by kernel_rfl
theorem ppo138 : goF ppT2 2000000 3 [.i 4 (.ofNat 138), .xi 0 8 102 0] (fun v _ _ => match v with | .b c => c | _ => false) = true := by kernel_rfl
theorem ppo139 : goF ppT2 2000000 3 [.i 4 (.ofNat 139), .xi 0 8 102 0] (fun v _ _ => match v with | .b c => c | _ => false) = true := by kernel_rfl
theorem ppo140 : goF ppT2 2000000 3 [.i 4 (.ofNat 140), .xi 0 8 102 0] (fun v _ _ => match v with | .b c => c | _ => false) = true := by kernel_rfl
theorem ppo141 : goF ppT2 2000000 3 [.i 4 (.ofNat 141), .xi 0 8 102 0] (fun v _ _ => match v with | .b c => c | _ => false) = true := by kernel_rfl
theorem ppo142 : goF ppT2 2000000 3 [.i 4 (.ofNat 142), .xi 0 8 102 0] (fun v _ _ => match v with | .b c => c | _ => false) = true := by kernel_rfl
theorem ppo143 : goF ppT2 2000000 3 [.i 4 (.ofNat 143), .xi 0 8 102 0] (fun v _ _ => match v with | .b c => c | _ => false) = true := by kernel_rfl
theorem ppob17 : ∀ j, j < 8 → goF ppT2 2000000 3 [.i 4 (.ofNat (136 + j)), .xi 0 8 102 0] (fun v _ _ => match v with | .b c => c | _ => false) = true
  | 0, _ => ppo136
  | 1, _ => ppo137
  | 2, _ => ppo138
  | 3, _ => ppo139
  | 4, _ => ppo140
  | 5, _ => ppo141
  | 6, _ => ppo142
  | 7, _ => ppo143
  | j + 8, h => by omega
end Go.AM
namespace Go.AM
open Go
set_option maxHeartbeats 0
set_option maxRecDepth 1000000
theorem ppf144 : goF ppT2 2000000 3 [.i 4 (.ofNat 144), .s [102]] (fun v _ _ => match v with | .b c => c | _ => false) = true := by kernel_rfl
theorem ppf145 : goF ppT2 2000000 3 [.i 4 (.ofNat 145), .s [102]] (fun v _ _ => match v with | .b c => c | _ => false) = true := by kernel_rfl
theorem ppf146 : goF ppT2 2000000 3 [.i 4 (.ofNat 146), .s [102]] (fun v _ _ => match v with | .b c => c | _ => false) = true := by kernel_rfl
theorem ppf147 : goF ppT2 2000000 3 [.i 4 (.ofNat 147), .s [102]] (fun v _ _ => match v with | .b c => c | _ => false) = true := by kernel_rfl
theorem ppf148 : goF ppT2 2000000 3 [.i 4 (.ofNat 148), .s [102]] (fun v _ _ => match v with | .b c => c | _ => false) = true := by kernel_rfl
theorem ppf149 : goF ppT2 2000000 3 [.i 4 (.ofNat 149), .s [102]] (fun v _ _ => match v with | .b c => c | _ => false) = true := by kernel_rfl
theorem ppf150 : goF ppT2 2000000 3 [.i 4 (.ofNat 150), .s [102]] (fun v _ _ => match v with | .b c => c | _ => false) = true := by kernel_rfl
theorem ppf151 : goF ppT2 2000000 3 [.i 4 (.ofNat 151), .s [102]] (fun v _ _ => match v with | .b c => c | _ => false) = true := by kernel_rfl
theorem ppfb18 : ∀ j, j < 8 → goF ppT2 2000000 3 [.i 4 (.ofNat (144 + j)), .s [102]] (fun v _ _ => match v with | .b c => c | _ => false) = true
  | 0, _ => ppf144
  | 1, _ => ppf145
  | 2, _ => ppf146
  | 3, _ => ppf147
  | 4, _ => ppf148
  | 5, _ => ppf149
  | 6, _ => ppf150
  | 7, _ => ppf151
  | j + 8, h => by omega
theorem ppo144 : goF ppT2 2000000 3 [.i 4 (.ofNat 144), .xi 0 8 102 0] (fun v _ _ => match v with | .b c => c | _ => false) = true := by kernel_rfl
theorem ppo145 : goF ppT2 2000000 3 [.i 4 (.ofNat 145), .xi 0 8 102 0] (fun v _ _ => match v with | .b c => c | _ => false) = true := by kernel_rfl
theorem ppo146 : goF ppT2 2000000 3 [.i 4 (.ofNat 146), .xi 0 8 102 0] (fun v _ _ => match v with | .b c => c | _ => false) = true := by kernel_rfl
theorem ppo147 : goF ppT2 2000000 3 [.i 4 (.ofNat 147), .xi 0 8 102 0] (fun v _ _ => match v with | .b c => c | _ => false) = true := by kernel_rfl
theorem ppo148 : goF ppT2 2000000 3 [.i 4 (.ofNat 148), .xi 0 8 102 0] (fun v _ _ => match v with | .b c => c | _ => false) = true := by kernel_rfl
theorem ppo149 : goF ppT2 2000000 3 [.i 4 (.ofNat 149), .xi 0 8 102 0] (fun v _ _ => match v with | .b c => c | _ => false) = true := by kernel_rfl
theorem ppo150 : goF ppT2 2000000 3 [.i 4 (.ofNat 150), .xi 0 8 102 0] (fun v _ _ => match v with | .b c => c | _ => false) = true := by kernel_rfl
theorem ppo151 : goF ppT2 2000000 3 [.i 4 (.ofNat 151), .xi 0 8 102 0] (fun v _ _ => match v with | .b c => c | _ => false) = true := by kernel_rfl
theorem ppob18 : ∀ j, j < 8 → goF ppT2 2000000 3 [.i 4 (.ofNat (144 + j)), .xi 0 8 102 0] (fun v _ _ => match v with | .b c => c | _ => false) = true
  | 0, _ => ppo144
  | 1, _ => ppo145
  | 2, _ => ppo146
  | 3, _ => ppo147
  | 4, _ => ppo148
  | 5, _ => ppo149
  | 6, _ => ppo150
  | 7, _ => ppo151
  | j + 8, h => by omega
end Go.AM
namespace Go.AM
open Go
set_option maxHeartbeats 0
set_option maxRecDepth 1000000
theorem ppf152 : goF ppT2 2000000 3 [.i 4 (.ofNat 152), .s [102]] (fun v _ _ => match v with | .b c => c | _ => false) = true := by kernel_rfl
theorem ppf153 : goF ppT2 2000000 3 [.i 4 (.ofNat 153), .s [102]] (fun v _ _ => match v with | .b c => c | _ => false) = true := by kernel_rfl
theorem ppf154 : goF ppT2 2000000 3 [.i 4 (.ofNat 154), .s [102]] (fun v _ _ => match v with | .b c => c | _ => false) = true := by kernel_rfl
theorem ppf155 : goF ppT2 2000000 3 [.i 4 (.ofNat 155), .s [102]] (fun v _ _ => match v with | .b c => c | _ => false) = true := by kernel_rfl
theorem ppf156 : goF ppT2 2000000 3 [.i 4 (.ofNat 156), .s [102]] (fun v _ _ => match v with | .b c => c | _ => false) = true := by kernel_rfl
theorem ppf157 : goF ppT2 2000000 3 [.i 4 (.ofNat 157), .s [102]] (fun v _ _ => match v with | .b c => c | _ => false) = true := by kernel_rfl
theorem ppf158 : goF ppT2 2000000 3 [.i 4 (.ofNat 158), .s [102]] (fun v _ _ => match v with | .b c => c | _ => false) = true := by kernel_rfl
theorem ppf159 : goF ppT2 2000000 3 [.i 4 (.ofNat 159), .s [102]] (fun v _ _ => match v with | .b c => c | _ => false) = true := by kernel_rfl
theorem ppfb19 : ∀ j, j < 8 → goF ppT2 2000000 3 [.i 4 (.ofNat (152 + j)), .s [102]] (fun v _ _ => match v with | .b c => c | _ => false) = true
  | 0, _ => ppf152
  | 1, _ => ppf153
  | 2, _ => ppf154
  | 3, _ => ppf155
  | 4, _ => ppf156
  | 5, _ => ppf157
  | 6, _ => ppf158
  | 7, _ => ppf159
  | j + 8, h => by omega
theorem ppo152 : goF ppT2 2000000 3 [.i 4 (.ofNat 152), .xi 0 8 102 0] (fun v _ _ => match v with | .b c => c | _ => false) = true := by kernel_rfl
theorem ppo153 : goF ppT2 2000000 3 [.i 4 (.ofNat 153), .xi 0 8 102 0] (fun v _ _ => match v with | .b c => c | _ => false) = true := by kernel_rfl
theorem ppo154 : goF ppT2 2000000 3 [.i 4 (.ofNat 154), .xi 0 8 102 0] (fun v _ _ => match v with | .b c => c | _ => false) = true := by kernel_rfl
theorem ppo155 : goF ppT2 2000000 3 [.i 4 (.ofNat 155), .xi 0 8 102 0] (fun v _ _ => match v with | .b c => c | _ => false) = true := by kernel_rfl
theorem ppo156 : goF ppT2 2000000 3 [.i 4 (.ofNat 156), .xi 0 8 102 0] (fun v _ _ => match v with | .b c => c | _ => false) = true := by kernel_rfl
theorem ppo157 : goF ppT2 2000000 3 [.i 4 (.ofNat 157), .xi 0 8 102 0] (fun v _ _ => match v with | .b c => c | _ => false) = true := by kernel_rfl
theorem ppo158 : goF ppT2 2000000 3 [.i 4 (.ofNat 158), .xi 0 8 102 0] (fun v _ _ => match v with | .b c => c | _ => false) = true := by kernel_rfl
theorem ppo159 : goF ppT2 2000000 3 [.i 4 (.ofNat 159), .xi 0 8 102 0] (fun v _ _ => match v with | .b c => c | _ => false) = true := by kernel_rfl
theorem ppob19 : ∀ j, j < 8 → goF ppT2 2000000 3 [.i 4 (.ofNat (152 + j)), .xi 0 8 102 0] (fun v _ _ => match v with | .b c => c | _ => false) = true
  | 0, _ => ppo152
  | 1, _ => ppo153
  | 2, _ => ppo154
  | 3, _ => ppo155
  | 4, _ => ppo156
  | 5, _ => ppo157
  | 6, _ => ppo158
  | 7, _ => ppo159
  | j + 8, h => by omega
end Go.AM
namespace Go.AM
open Go
set_option maxHeartbeats 0
set_option maxRecDepth 1000000
theorem ppf160 : goF ppT2 2000000 3 [.i 4 (.ofNat 160), .s [102]] (fun v _ _ => match v with | .b c => c | _ => false) = true := by kernel_rfl
theorem ppf161 : goF ppT2 2000000 3 [.i 4 (.ofNat 161), .s [102]] (fun v _ _ => match v with | .b c => c | _ => false) = true := by kernel_rfl
theorem ppf162 : goF ppT2 2000000 3 [.i 4 (.ofNat 162), .s [102]] (fun v _ _ => match v with | .b c => c | _ => false) = true := by kernel_rfl
theorem ppf163 : goF ppT2 2000000 3 [.i 4 (.ofNat 163), .s [102]] (fun v _ _ => match v with | .b c => c | _ => false) = true := by kernel_rfl
theorem ppf164 : goF ppT2 2000000 3 [.i 4 (.ofNat 164), .s [102]] (fun v _ _ => match v with | .b c => c | _ => false) = true := by kernel_rfl
theorem ppf165 : goF ppT2 2000000 3 [.i 4 (.ofNat 165), .s [102]] (fun v _ _ => match v with | .b c => c | _ => false) = true := by kernel_rfl
theorem ppf166 : goF ppT2 2000000 3 [.i 4 (.ofNat 166), .s [102]] (fun v _ _ => match v with | .b c => c | _ => false) = true := by kernel_rfl
theorem ppf167 : goF ppT2 2000000 3 [.i 4 (.ofNat 167), .s [102]] (fun v _ _ => match v with | .b c => c | _ => false) = true := by kernel_rfl
theorem ppfb20 : ∀ j, j < 8 → goF ppT2 2000000 3 [.i 4 (.ofNat (160 + j)), .s [102]] (fun v _ _ => match v with | .b c => c | _ => false) = true
  | 0, _ => ppf160
  | 1, _ => ppf161
  | 2, _ => ppf162
  | 3, _ => ppf163
  | 4, _ => ppf164
  | 5, _ => ppf165
  | 6, _ => ppf166
  | 7, _ => ppf167
  | j + 8, h => by omega
theorem ppo160 : goF ppT2 2000000 3 [.i 4 (.ofNat 160), .xi 0 8 102 0] (fun v _ _ => match v with | .b c => c | _ => false) = true := by kernel_rfl
theorem ppo161 : goF ppT2 2000000 3 [.i 4 (.ofNat 161), .xi 0 8 102 0] (fun v _ _ => match v with | .b c => c | _ => false) = true := by kernel_rfl
theorem ppo162 : goF ppT2 2000000 3 [.i 4 (.ofNat 162), .xi 0 8 102 0] (fun v _ _ => match v with | .b c => c | _ => false) = true := by kernel_rfl
theorem ppo163 : goF ppT2 2000000 3 [.i 4 (.ofNat 163), .xi 0 8 102 0] (fun v _ _ => match v with | .b c => c | _ => false) = true := by kernel_rfl
theorem ppo164 : goF ppT2 2000000 3 [.i 4 (.ofNat 164), .xi 0 8 102 0] (fun v _ _ => match v with | .b c => c | _ => false) = true := by kernel_rfl
theorem ppo165 : goF ppT2 2000000 3 [.i 4 (.ofNat 165), .xi 0 8 102 0] (fun v _ _ => match v with | .b c => c | _ => false) = true := by kernel_rfl
theorem ppo166 : goF ppT2 2000000 3 [.i 4 (.ofNat 166), .xi 0 8 102 0] (fun v _ _ => match v with | .b c => c | _ => false) = true := by kernel_rfl
theorem ppo167 : goF ppT2 2000000 3 [.i 4 (.ofNat 167), .xi 0 8 102 0] (fun v _ _ => match v with | .b c => c | _ => false) = true := by kernel_rfl
theorem ppob20 : ∀ j, j < 8 → goF ppT2 2000000 3 [.i 4 (.ofNat (160 + j)), .xi 0 8 102 0] (fun v _ _ => match v with | .b c => c | _ => false) = true
  | 0, _ => ppo160
  | 1, _ => ppo161
  | 2, _ => ppo162
  | 3, _ => ppo163
  | 4, _ => ppo164
  | 5, _ => ppo165
  | 6, _ => ppo166
  | 7, _ => ppo167
  | j + 8, h => by omega
end Go.AM
namespace Go.AM
open Go
set_option maxHeartbeats 0
set_option maxRecDepth 1000000
theorem ppf168 : goF ppT2 2000000 3 [.i 4 (.ofNat 168), .s [102]] (fun v _ _ => match v with | .b c => c | _ => false) = true := by kernel_rfl
theorem ppf169 : goF ppT2 2000000 3 [.i 4 (.ofNat 169), .s [102]] (fun v _ _ => match v with | .b c => c | _ => false) = true := by kernel_rfl
theorem ppf170 : goF ppT2 2000000 3 [.i 4 (.ofNat 170), .s [102]] (fun v _ _ => match v with | .b c => c | _ => false) = true := by kernel_rfl
theorem ppf171 : goF ppT2 2000000 3 [.i 4 (.ofNat 171), .s [102]] (fun v _ _ => match v with | .b c => c | _ => false) = true := by kernel_rfl
theorem ppf172 : goF ppT2 2000000 3 [.i 4 (.ofNat 172), .s [102]] (fun v _ _ => match v with | .b c => c | _ => false) = true := by kernel_rfl
theorem ppf173 : goF ppT2 2000000 3 [.i 4 (.ofNat 173), .s [102]] (fun v _ _ => match v with | .b c => c | _ => false) = true := by kernel_rfl
theorem ppf174 : goF ppT2 2000000 3 [.i 4 (.ofNat 174), .s [102]] (fun v _ _ => match v with | .b c => c | _ => false) = true := by kernel_rfl
theorem ppf175 : goF ppT2 2000000 3 [.i 4 (.ofNat 175), .s [102]] (fun v _ _ => match v with | .b c => c | _ => false) = true := by kernel_rfl
theorem ppfb21 : ∀ j, j < 8 → goF ppT2 2000000 3 [.i 4 (.ofNat (168 + j)), .s [102]] (fun v _ _ => match v with | .b c => c | _ => false) = true
  | 0, _ => ppf168
  | 1, _ => ppf169
  | 2, _ => ppf170
  | 3, _ => ppf171
  | 4, _ => ppf172
  | 5, _ => ppf173
  | 6, _ => ppf174
  | 7, _ => ppf175
  | j + 8, h => by omega
theorem ppo168 : goF ppT2 2000000 3 [.i 4 (.ofNat 168), .xi 0 8 102 0] (fun v _ _ => match v with | .b c => c | _ => false) = true := by kernel_rfl
theorem ppo169 : goF ppT2 2000000 3 [.i 4 (.ofNat 169), .xi 0 8 102 0] (fun v _ _ => match v with | .b c => c | _ => false) = true := by kernel_rfl
theorem ppo170 : goF ppT2 2000000 3 [.i 4 (.ofNat 170), .xi 0 8 102 0] (fun v _ _ => match v with | .b c => c | _ => false) = true := by kernel_rfl
theorem ppo171 : goF ppT2 2000000 3 [.i 4 (.ofNat 171), .xi 0 8 102 0] (fun v _ _ => match v with | .b c => c | _ => false) = true := by kernel_rfl
theorem ppo172 : goF ppT2 2000000 3 [.i 4 (.ofNat 172), .xi 0 8 102 0] (fun v _ _ => match v with | .b c => c | _ => false) = true := by kernel_rfl
theorem ppo173 : goF ppT2 2000000 3 [.i 4 (.ofNat 173), .xi 0 8 102 0] (fun v _ _ => match v with | .b c => c | _ => false) = true := by kernel_rfl
theorem ppo174 : goF ppT2 2000000 3 [.i 4 (.ofNat 174), .xi 0 8 102 0] (fun v _ _ => match v with | .b c => c | _ => false) = true := by kernel_rfl
theorem ppo175 : goF ppT2 2000000 3 [.i 4 (.ofNat 175), .xi 0 8 102 0] (fun v _ _ => match v with | .b c => c | _ => false) = true := by kernel_rfl
theorem ppob21 : ∀ j, j < 8 → goF ppT2 2000000 3 [.i 4 (.ofNat (168 + j)), .xi 0 8 102 0] (fun v _ _ => match v with | .b c => c | _ => false) = true
  | 0, _ => ppo168
  | 1, _ => ppo169
  | 2, _ => ppo170
  | 3, _ => ppo171
  | 4, _ => ppo172
  | 5, _ => ppo173
  | 6, _ => ppo174
  | 7, _ => ppo175
  | j + 8, h => by omega
end Go.AM
namespace Go.AM
open Go
set_option maxHeartbeats 0
set_option maxRecDepth 1000000
theorem ppf176 : goF ppT2 2000000 3 [.i 4 (.ofNat 176), .s [102]] (fun v _ _ => match v with | .b c => c | _ => false) = true := by kernel_rfl
theorem ppf177 : goF ppT2 2000000 3 [.i 4 (.ofNat 177), .s [102]] (fun v _ _ => match v with | .b c => c | _ => false) = true := by kernel_rfl
theorem ppf178 : goF ppT2 2000000 3 [.i 4 (.ofNat 178), .s [102]] (fun v _ _ => match v with | .b c => c | _ => false) = true := by kernel_rfl
theorem ppf179 : goF ppT2 2000000 3 [.i 4 (.ofNat 179), .s [102]] (fun v _ _ => match v with | .b c => c | _ => false) = true := by kernel_rfl
theorem ppf180 : goF ppT2 2000000 3 [.i 4 (.ofNat 180), .s [102]] (fun v _ _ => match v with | .b c => c | _ => false) = true := by kernel_rfl
theorem ppf181 : goF ppT2 2000000 3 [.i 4 (.ofNat 181), .s [102]] (fun v _ _ => match v with | .b c => c | _ => false) = true := by kernel_rfl
theorem ppf182 : goF ppT2 2000000 3 [.i 4 (.ofNat 182), .s [102]] (fun v _ _ => match v with | .b c => c | _ => false) = true := by kernel_rfl
theorem ppf183 : goF ppT2 2000000 3 [.i 4 (.ofNat 183), .s [102]] (fun v _ _ => match v with | .b c => c | _ => false) = true := by kernel_rfl
theorem ppfb22 : ∀ j, j < 8 → goF ppT2 2000000 3 [.i 4 (.ofNat (176 + j)), .s [102]] (fun v _ _ => match v with | .b c => c | _ => false) = true
  | 0, _ => ppf176
  | 1, _ => ppf177
  | 2, _ => ppf178
  | 3, _ => ppf179
  | 4, _ => ppf180
  | 5, _ => ppf181
  | 6, _ => ppf182
  | 7, _ => ppf183
  | j + 8, h => by omega
theorem ppo176 : goF ppT2 2000000 3 [.i 4 (.ofNat 176), .xi 0 8 102 0] (fun v _ _ => match v with | .b c => c | _ => false) = true := by kernel_rfl
theorem ppo177 : goF ppT2 2000000 3 [.i 4 (.ofNat 177), .xi 0 8 102 0] (fun v _ _ => match v with | .b c => c | _ => false) = true := by kernel_rfl
theorem ppo178 : goF ppT2 2000000 3 [.i 4 (.ofNat 178), .xi 0 8 102 0] (fun v _ _ => match v with | .b c => c | _ => false) = true := by kernel_rfl
theorem ppo179 : goF ppT2 2000000 3 [.i 4 (.ofNat 179), .xi 0 8 102 0] (fun v _ _ => match v with | .b c => c | _ => false) = true := by kernel_rfl
theorem ppo180 : goF ppT2 2000000 3 [.i 4 (.ofNat 180), .xi 0 8 102 0] (fun v _ _ => match v with | .b c => c | _ => false) = true := by kernel_rfl
theorem ppo181 : goF ppT2 2000000 3 [.i 4 (.ofNat 181), .xi 0 8 102 0] (fun v _ _ => match v with | .b c => c | _ => false) = true := by kernel_rfl
theorem ppo182 : goF ppT2 2000000 3 [.i 4 (.ofNat 182), .xi 0 8 102 0] (fun v _ _ => match v with | .b c => c | _ => false) = true := by kernel_rfl
theorem ppo183 : goF ppT2 2000000 3 [.i 4 (.ofNat 183), .xi 0 8 102 0] (fun v _ _ => match v with | .b c => c | _ => false) = true := by kernel_rfl
theorem ppob22 : ∀ j, j < 8 → goF ppT2 2000000 3 [.i 4 (.ofNat (176 + j)), .xi 0 8 102 0] (fun v _ _ => match v with | .b c => c | _ => false) = true
  | 0, _ => ppo176
  | 1, _ => ppo177
  | 2, _ => ppo178
  | 3, _ => ppo179
  | 4, _ => ppo180
  | 5, _ => ppo181
  | 6, _ => ppo182
  | 7, _ => ppo183
  | j + 8, h => by omega
end Go.AM
namespace Go.AM
open Go
set_option maxHeartbeats 0
set_option maxRecDepth 1000000
theorem ppf184 : goF ppT2 2000000 3 [.i 4 (.ofNat 184), .s [102]] (fun v _ _ => match v with | .b c => c | _ => false) = true := by kernel_rfl
theorem ppf185 : goF ppT2 2000000 3 [.i 4 (.ofNat 185), .s [102]] (fun v _ _ => match v with | .b c => c | _ => false) = true := by kernel_rfl
theorem ppf186 : goF ppT2 2000000 3 [.i 4 (.ofNat 186), .s [102]] (fun v _ _ => match v with | .b c => c | _ => false) = true := by kernel_rfl
theorem ppf187 : goF ppT2 2000000 3 [.i 4 (.ofNat 187), .s [102]] (fun v _ _ => match v with | .b c => c | _ => false) = true := by kernel_rfl
theorem ppf188 : goF ppT2 2000000 3 [.i 4 (.ofNat 188), .s [102]] (fun v _ _ => match v with | .b c => c | _ => false) = true := by kernel_rfl
theorem ppf189 : goF ppT2 2000000 3 [.i 4 (.ofNat 189), .s [102]] (fun v _ _ => match v with | .b c => c | _ => false) = true := by kernel_rfl
theorem ppf190 : goF ppT2 2000000 3 [.i 4 (.ofNat 190), .s [102]] (fun v _ _ => match v with | .b c => c | _ => false) = true := by kernel_rfl
theorem ppf191 : goF ppT2 2000000 3 [.i 4 (.ofNat 191), .s [102]] (fun v _ _ => match v with | .b c => c | _ => false) = true := by kernel_rfl
theorem ppfb23 : ∀ j, j < 8 → goF ppT2 2000000 3 [.i 4 (.ofNat (184 + j)), .s [102]] (fun v _ _ => match v with | .b c => c | _ => false) = true
  | 0, _ => ppf184
  | 1, _ => ppf185
  | 2, _ => ppf186
  | 3, _ => ppf187
  | 4, _ => ppf188
  | 5, _ => ppf189
  | 6, _ => ppf190
  | 7, _ => ppf191
  | j + 8, h => by omega
theorem ppo184 : goF ppT2 2000000 3 [.i 4 (.ofNat 184), .xi 0 8 102 0] (fun v _ _ => match v with | .b c => c | _ => false) = true := by kernel_rfl
theorem ppo185 : goF ppT2 2000000 3 [.i 4 (.ofNat 185), .xi 0 8 102 0] (fun v _ _ => match v with | .b c => c | _ => false) = true := by kernel_rfl
theorem ppo186 : goF ppT2 2000000 3 [.i 4 (.ofNat 186), .xi 0 8 102 0] (fun v _ _ => match v with | .b c => c | _ => false) = true := by kernel_rfl
theorem ppo187 : goF ppT2 2000000 3 [.i 4 (.ofNat 187), .xi 0 8 102 0] (fun v _ _ => match v with | .b c => c | _ => false) = true := by kernel_rfl
theorem ppo188 : goF ppT2 2000000 3 [.i 4 (.ofNat 188), .xi 0 8 102 0] (fun v _ _ => match v with | .b c => c | _ => false) = true := by kernel_rfl
theorem ppo189 : goF ppT2 2000000 3 [.i 4 (.ofNat 189), .xi 0 8 102 0] (fun v _ _ => match v with | .b c => c | _ => false) = true := by kernel_rfl
theorem ppo190 : goF ppT2 2000000 3 [.i 4 (.ofNat 190), .xi 0 8 102 0] (fun v _ _ => match v with | .b c => c | _ => false) = true := by kernel_rfl
theorem ppo191 : goF ppT2 2000000 3 [.i 4 (.ofNat 191), .xi 0 8 102 0] (fun v _ _ => match v with | .b c => c | _ => false) = true := by kernel_rfl
theorem ppob23 : ∀ j, j < 8 → goF ppT2 2000000 3 [.i 4 (.ofNat (184 + j)), .xi 0 8 102 0] (fun v _ _ => match v with | .b c => c | _ => false) = true
  | 0, _ => ppo184
  | 1, _ => ppo185
  | 2, _ => ppo186
  | 3, _ => ppo187
  | 4, _ => ppo188
  | 5, _ => ppo189
  | 6, _ => ppo190
  | 7, _ => ppo191
  | j + 8, h => by omega
end Go.AM
