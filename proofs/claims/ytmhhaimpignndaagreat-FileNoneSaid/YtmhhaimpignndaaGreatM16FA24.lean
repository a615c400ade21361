/-
  Runs of the law FileNone. Conditions: none.
-/
import Derived.Test.YtmhhaimpignndaaGreatM16FT2
namespace Go.AM
open Go
set_option maxHeartbeats 0
set_option maxRecDepth 1000000
theorem ppf192 : goF ppT2 2000000 3 [.i 4 (.ofNat 192), .s [102]] (fun v _ _ => match v with | .b c => c | _ => false) = true := by kernel_rfl
theorem ppf193 : goF ppT2 2000000 3 [.i 4 (.ofNat 193), .s [102]] (fun v _ _ => match v with | .b c => c | _ => false) = true := by kernel_rfl
theorem ppf194 : goF ppT2 2000000 3 [.i 4 (.ofNat 194), .s [102]] (fun v _ _ => match v with | .b c => c | _ => false) = true := by kernel_rfl
theorem ppf195 : goF ppT2 2000000 3 [.i 4 (.ofNat 195), .s [102]] (fun v _ _ => match v with | .b c => c | _ => false) = true := by kernel_rfl
theorem ppf196 : goF ppT2 2000000 3 [.i 4 (.ofNat 196), .s [102]] (fun v _ _ => match v with | .b c => c | _ => false) = true := by kernel_rfl
theorem ppf197 : goF ppT2 2000000 3 [.i 4 (.ofNat 197), .s [102]] (fun v _ _ => match v with | .b c => c | _ => false) = true := by kernel_rfl
theorem ppf198 : goF ppT2 2000000 3 [.i 4 (.ofNat 198), .s [102]] (fun v _ _ => match v with | .b c => c | _ => false) = true := by kernel_rfl
theorem ppf199 : goF ppT2 2000000 3 [.i 4 (.ofNat 199), .s [102]] (fun v _ _ => match v with | .b c => c | _ => false) = true := by kernel_rfl
theorem ppfb24 : ∀ j, j < 8 → goF ppT2 2000000 3 [.i 4 (.ofNat (192 + j)), .s [102]] (fun v _ _ => match v with | .b c => c | _ => false) = true
  | 0, _ => ppf192
  | 1, _ => ppf193
  | 2, _ => ppf194
  | 3, _ => ppf195
  | 4, _ => ppf196
  | 5, _ => ppf197
  | 6, _ => ppf198
  | 7, _ => ppf199
  | j + 8, h => by omega
theorem ppo192 : goF ppT2 2000000 3 [.i 4 (.ofNat 192), .xi 0 8 102 0] (fun v _ _ => match v with | .b c => c | _ => false) = true := by kernel_rfl
theorem ppo193 : goF ppT2 2000000 3 [.i 4 (.ofNat 193), .xi 0 8 102 0] (fun v _ _ => match v with | .b c => c | _ => false) = true := by kernel_rfl
theorem ppo194 : goF ppT2 2000000 3 [.i 4 (.ofNat 194), .xi 0 8 102 0] (fun v _ _ => match v with | .b c => c | _ => false) = true := by kernel_rfl
theorem ppo195 : goF ppT2 2000000 3 [.i 4 (.ofNat 195), .xi 0 8 102 0] (fun v _ _ => match v with | .b c => c | _ => false) = true := by kernel_rfl
theorem ppo196 : goF ppT2 2000000 3 [.i 4 (.ofNat 196), .xi 0 8 102 0] (fun v _ _ => match v with | .b c => c | _ => false) = true := by kernel_rfl
theorem ppo197 : goF ppT2 2000000 3 [.i 4 (.ofNat 197), .xi 0 8 102 0] (fun v _ _ => match v with | .b c => c | _ => false) = true := by kernel_rfl
theorem ppo198 : goF ppT2 2000000 3 [.i 4 (.ofNat 198), .xi 0 8 102 0] (fun v _ _ => match v with | .b c => c | _ => false) = true := by kernel_rfl
theorem ppo199 : goF ppT2 2000000 3 [.i 4 (.ofNat 199), .xi 0 8 102 0] (fun v _ _ => match v with | .b c => c | _ => false) = true := by kernel_rfl
theorem ppob24 : ∀ j, j < 8 → goF ppT2 2000000 3 [.i 4 (.ofNat (192 + j)), .xi 0 8 102 0] (fun v _ _ => match v with | .b c => c | _ => false) = true
  | 0, _ => ppo192
  | 1, _ => ppo193
  | 2, _ => ppo194
  | 3, _ => ppo195
  | 4, _ => ppo196
  | 5, _ => ppo197
  | 6, _ => ppo198
  | 7, _ => ppo199
  | j + 8, h => by omega
end Go.AM
namespace Go.AM
open Go
set_option maxHeartbeats 0
set_option maxRecDepth 1000000
theorem ppf200 : goF ppT2 2000000 3 [.i 4 (.ofNat 200), .s [102]] (fun v _ _ => match v with | .b c => c | _ => false) = true := by kernel_rfl
theorem ppf201 : goF ppT2 2000000 3 [.i 4 (.ofNat 201), .s [102]] (fun v _ _ => match v with | .b c => c | _ => false) = true := by kernel_rfl
theorem ppf202 : goF ppT2 2000000 3 [.i 4 (.ofNat 202), .s [102]] (fun v _ _ => match v with | .b c => c | _ => false) = true := by kernel_rfl
theorem ppf203 : goF ppT2 2000000 3 [.i 4 (.ofNat 203), .s [102]] (fun v _ _ => match v with | .b c => c | _ => false) = true := by kernel_rfl
theorem ppf204 : goF ppT2 2000000 3 [.i 4 (.ofNat 204), .s [102]] (fun v _ _ => match v with | .b c => c | _ => false) = true := by kernel_rfl
theorem ppf205 : goF ppT2 2000000 3 [.i 4 (.ofNat 205), .s [102]] (fun v _ _ => match v with | .b c => c | _ => false) = true := by kernel_rfl
theorem ppf206 : goF ppT2 2000000 3 [.i 4 (.ofNat 206), .s [102]] (fun v _ _ => match v with | .b c => c | _ => false) = true := by kernel_rfl
theorem ppf207 : goF ppT2 2000000 3 [.i 4 (.ofNat 207), .s [102]] (fun v _ _ => match v with | .b c => c | _ => false) = true := by kernel_rfl
theorem ppfb25 : ∀ j, j < 8 → goF ppT2 2000000 3 [.i 4 (.ofNat (200 + j)), .s [102]] (fun v _ _ => match v with | .b c => c | _ => false) = true
  | 0, _ => ppf200
  | 1, _ => ppf201
  | 2, _ => ppf202
  | 3, _ => ppf203
  | 4, _ => ppf204
  | 5, _ => ppf205
  | 6, _ => ppf206
  | 7, _ => ppf207
  | j + 8, h => by omega
theorem ppo200 : goF ppT2 2000000 3 [.i 4 (.ofNat 200), .xi 0 8 102 0] (fun v _ _ => match v with | .b c => c | _ => false) = true := by kernel_rfl
theorem ppo201 : goF ppT2 2000000 3 [.i 4 (.ofNat 201), .xi 0 8 102 0] (fun v _ _ => match v with | .b c => c | _ => false) = true := by kernel_rfl
theorem ppo202 : goF ppT2 2000000 3 [.i 4 (.ofNat 202), .xi 0 8 102 0] (fun v _ _ => match v with | .b c => c | _ => false) = true := by kernel_rfl
theorem ppo203 : goF ppT2 2000000 3 [.i 4 (.ofNat 203), .xi 0 8 102 0] (fun v _ _ => match v with | .b c => c | _ => false) = true := by kernel_rfl
theorem ppo204 : goF ppT2 2000000 3 [.i 4 (.ofNat 204), .xi 0 8 102 0] (fun v _ _ => match v with | .b c => c | _ => false) = true := by kernel_rfl
theorem ppo205 : goF ppT2 2000000 3 [.i 4 (.ofNat 205), .xi 0 8 102 0] (fun v _ _ => match v with | .b c => c | _ => false) = true := by kernel_rfl
theorem ppo206 : goF ppT2 2000000 3 [.i 4 (.ofNat 206), .xi 0 8 102 0] (fun v _ _ => match v with | .b c => c | _ => false) = true := by kernel_rfl
theorem ppo207 : goF ppT2 2000000 3 [.i 4 (.ofNat 207), .xi 0 8 102 0] (fun v _ _ => match v with | .b c => c | _ => false) = true := by kernel_rfl
theorem ppob25 : ∀ j, j < 8 → goF ppT2 2000000 3 [.i 4 (.ofNat (200 + j)), .xi 0 8 102 0] (fun v _ _ => match v with | .b c => c | _ => false) = true
  | 0, _ => ppo200
  | 1, _ => ppo201
  | 2, _ => ppo202
  | 3, _ => ppo203
  | 4, _ => ppo204
  | 5, _ => ppo205
  | 6, _ => ppo206
  | 7, _ => ppo207
  | j + 8, h => by omega
end Go.AM
namespace Go.AM
open Go
set_option maxHeartbeats 0
set_option maxRecDepth 1000000
theorem ppf208 : goF ppT2 2000000 3 [.i 4 (.ofNat 208), .s [102]] (fun v _ _ => match v with | .b c => c | _ => false) = true := by kernel_rfl
theorem ppf209 : goF ppT2 2000000 3 [.i 4 (.ofNat 209), .s [102]] (fun v _ _ => match v with | .b c => c | _ => false) = true := by kernel_rfl
theorem ppf210 : goF ppT2 2000000 3 [.i 4 (.ofNat 210), .s [102]] (fun v _ _ => match v with | .b c => c | _ => false) = true := by kernel_rfl
theorem ppf211 : goF ppT2 2000000 3 [.i 4 (.ofNat 211), .s [102]] (fun v _ _ => match v with | .b c => c | _ => false) = true := by kernel_rfl
theorem ppf212 : goF ppT2 2000000 3 [.i 4 (.ofNat 212), .s [102]] (fun v _ _ => match v with | .b c => c | _ => false) = true := by kernel_rfl
theorem ppf213 : goF ppT2 2000000 3 [.i 4 (.ofNat 213), .s [102]] (fun v _ _ => match v with | .b c => c | _ => false) = true := by kernel_rfl
theorem ppf214 : goF ppT2 2000000 3 [.i 4 (.ofNat 214), .s [102]] (fun v _ _ => match v with | .b c => c | _ => false) = true := by kernel_rfl
theorem ppf215 : goF ppT2 2000000 3 [.i 4 (.ofNat 215), .s [102]] (fun v _ _ => match v with | .b c => c | _ => false) = true := by kernel_rfl
theorem ppfb26 : ∀ j, j < 8 → goF ppT2 2000000 3 [.i 4 (.ofNat (208 + j)), .s [102]] (fun v _ _ => match v with | .b c => c | _ => false) = true
  | 0, _ => ppf208
  | 1, _ => ppf209
  | 2, _ => ppf210
  | 3, _ => ppf211
  | 4, _ => ppf212
  | 5, _ => ppf213
  | 6, _ => ppf214
  | 7, _ => ppf215
  | j + 8, h => by omega
theorem ppo208 : goF ppT2 2000000 3 [.i 4 (.ofNat 208), .xi 0 8 102 0] (fun v _ _ => match v with | .b c => c | _ => false) = true := by kernel_rfl
theorem ppo209 : goF ppT2 2000000 3 [.i 4 (.ofNat 209), .xi 0 8 102 0] (fun v _ _ => match v with | .b c => c | _ => false) = true := by kernel_rfl
theorem ppo210 : goF ppT2 2000000 3 [.i 4 (.ofNat 210), .xi 0 8 102 0] (fun v _ _ => match v with | .b c => c | _ => false) = true := by kernel_rfl
theorem ppo211 : goF ppT2 2000000 3 [.i 4 (.ofNat 211), .xi 0 8 102 0] (fun v _ _ => match v with | .b c => c | _ => false) = true := by kernel_rfl
theorem ppo212 : goF ppT2 2000000 3 [.i 4 (.ofNat 212), .xi 0 8 102 0] (fun v _ _ => match v with | .b c => c | _ => false) = true := by kernel_rfl
theorem ppo213 : goF ppT2 2000000 3 [.i 4 (.ofNat 213), .xi 0 8 102 0] (fun v _ _ => match v with | .b c => c | _ => false) = true := by kernel_rfl
theorem ppo214 : goF ppT2 2000000 3 [.i 4 (.ofNat 214), .xi 0 8 102 0] (fun v _ _ => match v with | .b c => c | _ => false) = true := by kernel_rfl
theorem ppo215 : goF ppT2 2000000 3 [.i 4 (.ofNat 215), .xi 0 8 102 0] (fun v _ _ => match v with | .b c => c | _ => false) = true := by kernel_rfl
theorem ppob26 : ∀ j, j < 8 → goF ppT2 2000000 3 [.i 4 (.ofNat (208 + j)), .xi 0 8 102 0] (fun v _ _ => match v with | .b c => c | _ => false) = true
  | 0, _ => ppo208
  | 1, _ => ppo209
  | 2, _ => ppo210
  | 3, _ => ppo211
  | 4, _ => ppo212
  | 5, _ => ppo213
  | 6, _ => ppo214
  | 7, _ => ppo215
  | j + 8, h => by omega
end Go.AM
namespace Go.AM
open Go
set_option maxHeartbeats 0
set_option maxRecDepth 1000000
theorem ppf216 : goF ppT2 2000000 3 [.i 4 (.ofNat 216), .s [102]] (fun v _ _ => match v with | .b c => c | _ => false) = true := by kernel_rfl
theorem ppf217 : goF ppT2 2000000 3 [.i 4 (.ofNat 217), .s [102]] (fun v _ _ => match v with | .b c => c | _ => false) = true := by kernel_rfl
theorem ppf218 : goF ppT2 2000000 3 [.i 4 (.ofNat 218), .s [102]] (fun v _ _ => match v with | .b c => c | _ => false) = true := by kernel_rfl
theorem ppf219 : goF ppT2 2000000 3 [.i 4 (.ofNat 219), .s [102]] (fun v _ _ => match v with | .b c => c | _ => false) = true := by kernel_rfl
theorem ppf220 : goF ppT2 2000000 3 [.i 4 (.ofNat 220), .s [102]] (fun v _ _ => match v with | .b c => c | _ => false) = true := by kernel_rfl
theorem ppf221 : goF ppT2 2000000 3 [.i 4 (.ofNat 221), .s [102]] (fun v _ _ => match v with | .b c => c | _ => false) = true := by kernel_rfl
theorem ppf222 : goF ppT2 2000000 3 [.i 4 (.ofNat 222), .s [102]] (fun v _ _ => match v with | .b c => c | _ => false) = true := by kernel_rfl
theorem ppf223 : goF ppT2 2000000 3 [.i 4 (.ofNat 223), .s [102]] (fun v _ _ => match v with | .b c => c | _ => false) = true := by kernel_rfl
theorem ppfb27 : ∀ j, j < 8 → goF ppT2 2000000 3 [.i 4 (.ofNat (216 + j)), .s [102]] (fun v _ _ => match v with | .b c => c | _ => false) = true
  | 0, _ => ppf216
  | 1, _ => ppf217
  | 2, _ => ppf218
  | 3, _ => ppf219
  | 4, _ => ppf220
  | 5, _ => ppf221
  | 6, _ => ppf222
  | 7, _ => ppf223
  | j + 8, h => by omega
theorem ppo216 : goF ppT2 2000000 3 [.i 4 (.ofNat 216), .xi 0 8 102 0] (fun v _ _ => match v with | .b c => c | _ => false) = true := by kernel_rfl
theorem ppo217 : goF ppT2 2000000 3 [.i 4 (.ofNat 217), .xi 0 8 102 0] (fun v _ _ => match v with | .b c => c | _ => false) = true := by kernel_rfl
theorem ppo218 : goF ppT2 2000000 3 [.i 4 (.ofNat 218), .xi 0 8 102 0] (fun v _ _ => match v with | .b c => c | _ => false) = true := by kernel_rfl
theorem ppo219 : goF ppT2 2000000 3 [.i 4 (.ofNat 219), .xi 0 8 102 0] (fun v _ _ => match v with | .b c => c | _ => false) = true := by kernel_rfl
theorem ppo220 : goF ppT2 2000000 3 [.i 4 (.ofNat 220), .xi 0 8 102 0] (fun v _ _ => match v with | .b c => c | _ => false) = true := by kernel_rfl
theorem ppo221 : goF ppT2 2000000 3 [.i 4 (.ofNat 221), .xi 0 8 102 0] (fun v _ _ => match v with | .b c => c | _ => false) = true := by kernel_rfl
theorem ppo222 : goF ppT2 2000000 3 [.i 4 (.ofNat 222), .xi 0 8 102 0] (fun v _ _ => match v with | .b c => c | _ => false) = true := by kernel_rfl
theorem ppo223 : goF ppT2 2000000 3 [.i 4 (.ofNat 223), .xi 0 8 102 0] (fun v _ _ => match v with | .b c => c | _ => false) = true := by kernel_rfl
theorem ppob27 : ∀ j, j < 8 → goF ppT2 2000000 3 [.i 4 (.ofNat (216 + j)), .xi 0 8 102 0] (fun v _ _ => match v with | .b c => c | _ => false) = true
  | 0, _ => ppo216
  | 1, _ => ppo217
  | 2, _ => ppo218
  | 3, _ => ppo219
  | 4, _ => ppo220
  | 5, _ => ppo221
  | 6, _ => ppo222
  | 7, _ => ppo223
  | j + 8, h => by omega
end Go.AM
namespace Go.AM
open Go
set_option maxHeartbeats 0
set_option maxRecDepth 1000000
theorem ppf224 : goF ppT2 2000000 3 [.i 4 (.ofNat 224), .s [102]] (fun v _ _ => match v with | .b c => c | _ => false) = true := by kernel_rfl
theorem ppf225 : goF ppT2 2000000 3 [.i 4 (.ofNat 225), .s [102]] (fun v _ _ => match v with | .b c => c | _ => false) = true := by kernel_rfl
theorem ppf226 : goF ppT2 2000000 3 [.i 4 (.ofNat 226), .s [102]] (fun v _ _ => match v with | .b c => c | _ => false) = true := by kernel_rfl
theorem ppf227 : goF ppT2 2000000 3 [.i 4 (.ofNat 227), .s [102]] (fun v _ _ => match v with | .b c => c | _ => false) = true := by kernel_rfl
theorem ppf228 : goF ppT2 2000000 3 [.i 4 (.ofNat 228), .s [102]] (fun v _ _ => match v with | .b c => c | _ => false) = true := by kernel_rfl
theorem ppf229 : goF ppT2 2000000 3 [.i 4 (.ofNat 229), .s [102]] (fun v _ _ => match v with | .b c => c | _ => false) = true := by kernel_rfl
theorem ppf230 : goF ppT2 2000000 3 [.i 4 (.ofNat 230), .s [102]] (fun v _ _ => match v with | .b c => c | _ => false) = true := by kernel_rfl
theorem ppf231 : goF ppT2 2000000 3 [.i 4 (.ofNat 231), .s [102]] (fun v _ _ => match v with | .b c => c | _ => false) = true := by kernel_rfl
theorem ppfb28 : ∀ j, j < 8 → goF ppT2 2000000 3 [.i 4 (.ofNat (224 + j)), .s [102]] (fun v _ _ => match v with | .b c => c | _ => false) = true
  | 0, _ => ppf224
  | 1, _ => ppf225
  | 2, _ => ppf226
  | 3, _ => ppf227
  | 4, _ => ppf228
  | 5, _ => ppf229
  | 6, _ => ppf230
  | 7, _ => ppf231
  | j + 8, h => by omega
theorem ppo224 : goF ppT2 2000000 3 [.i 4 (.ofNat 224), .xi 0 8 102 0] (fun v _ _ => match v with | .b c => c | _ => false) = true := by kernel_rfl
theorem ppo225 : goF ppT2 2000000 3 [.i 4 (.ofNat 225), .xi 0 8 102 0] (fun v _ _ => match v with | .b c => c | _ => false) = true := by kernel_rfl
theorem ppo226 : goF ppT2 2000000 3 [.i 4 (.ofNat 226), .xi 0 8 102 0] (fun v _ _ => match v with | .b c => c | _ => false) = true := by kernel_rfl
theorem ppo227 : goF ppT2 2000000 3 [.i 4 (.ofNat 227), .xi 0 8 102 0] (fun v _ _ => match v with | .b c => c | _ => false) = true := by kernel_rfl
theorem ppo228 : goF ppT2 2000000 3 [.i 4 (.ofNat 228), .xi 0 8 102 0] (fun v _ _ => match v with | .b c => c | _ => false) = true := by kernel_rfl
theorem ppo229 : goF ppT2 2000000 3 [.i 4 (.ofNat 229), .xi 0 8 102 0] (fun v _ _ => match v with | .b c => c | _ => false) = true := by kernel_rfl
theorem ppo230 : goF ppT2 2000000 3 [.i 4 (.ofNat 230), .xi 0 8 102 0] (fun v _ _ => match v with | .b c => c | _ => false) = true := by kernel_rfl
theorem ppo231 : goF ppT2 2000000 3 [.i 4 (.ofNat 231), .xi 0 8 102 0] (fun v _ _ => match v with | .b c => c | _ => false) = true := by kernel_rfl
theorem ppob28 : ∀ j, j < 8 → goF ppT2 2000000 3 [.i 4 (.ofNat (224 + j)), .xi 0 8 102 0] (fun v _ _ => match v with | .b c => c | _ => false) = true
  | 0, _ => ppo224
  | 1, _ => ppo225
  | 2, _ => ppo226
  | 3, _ => ppo227
  | 4, _ => ppo228
  | 5, _ => ppo229
  | 6, _ => ppo230
  | 7, _ => ppo231
  | j + 8, h => by omega
end Go.AM
namespace Go.AM
open Go
set_option maxHeartbeats 0
set_option maxRecDepth 1000000
theorem ppf232 : goF ppT2 2000000 3 [.i 4 (.ofNat 232), .s [102]] (fun v _ _ => match v with | .b c => c | _ => false) = true := by kernel_rfl
theorem ppf233 : goF ppT2 2000000 3 [.i 4 (.ofNat 233), .s [102]] (fun v _ _ => match v with | .b c => c | _ => false) = true := by kernel_rfl
theorem ppf234 : goF ppT2 2000000 3 [.i 4 (.ofNat 234), .s [102]] (fun v _ _ => match v with | .b c => c | _ => false) = true := by kernel_rfl
theorem ppf235 : goF ppT2 2000000 3 [.i 4 (.ofNat 235), .s [102]] (fun v _ _ => match v with | .b c => c | _ => false) = true := by kernel_rfl
theorem ppf236 : goF ppT2 2000000 3 [.i 4 (.ofNat 236), .s [102]] (fun v _ _ => match v with | .b c => c | _ => false) = true := by kernel_rfl
theorem ppf237 : goF ppT2 2000000 3 [.i 4 (.ofNat 237), .s [102]] (fun v _ _ => match v with | .b c => c | _ => false) = true := by kernel_rfl
theorem ppf238 : goF ppT2 2000000 3 [.i 4 (.ofNat 238), .s [102]] (fun v _ _ => match v with | .b c => c | _ => false) = true := by kernel_rfl
theorem ppf239 : goF ppT2 2000000 3 [.i 4 (.ofNat 239), .s [102]] (fun v _ _ => match v with | .b c => c | _ => false) = true := by kernel_rfl
theorem ppfb29 : ∀ j, j < 8 → goF ppT2 2000000 3 [.i 4 (.ofNat (232 + j)), .s [102]] (fun v _ _ => match v with | .b c => c | _ => false) = true
  | 0, _ => ppf232
  | 1, _ => ppf233
  | 2, _ => ppf234
  | 3, _ => ppf235
  | 4, _ => ppf236
  | 5, _ => ppf237
  | 6, _ => ppf238
  | 7, _ => ppf239
  | j + 8, h => by omega
theorem ppo232 : goF ppT2 2000000 3 [.i 4 (.ofNat 232), .xi 0 8 102 0] (fun v _ _ => match v with | .b c => c | _ => false) = true := by kernel_rfl
theorem ppo233 : goF ppT2 2000000 3 [.i 4 (.ofNat 233), .xi 0 8 102 0] (fun v _ _ => match v with | .b c => c | _ => false) = true := by kernel_rfl
theorem ppo234 : goF ppT2 2000000 3 [.i 4 (.ofNat 234), .xi 0 8 102 0] (fun v _ _ => match v with | .b c => c | _ => false) = true := by kernel_rfl
theorem ppo235 : goF ppT2 2000000 3 [.i 4 (.ofNat 235), .xi 0 8 102 0] (fun v _ _ => match v with | .b c => c | _ => false) = true := by kernel_rfl
theorem ppo236 : goF ppT2 2000000 3 [.i 4 (.ofNat 236), .xi 0 8 102 0] (fun v _ _ => match v with | .b c => c | _ => false) = true := by kernel_rfl
theorem ppo237 : goF ppT2 2000000 3 [.i 4 (.ofNat 237), .xi 0 8 102 0] (fun v _ _ => match v with | .b c => c | _ => false) = true := by kernel_rfl
theorem ppo238 : goF ppT2 2000000 3 [.i 4 (.ofNat 238), .xi 0 8 102 0] (fun v _ _ => match v with | .b c => c | _ => false) = true := by kernel_rfl
theorem ppo239 : goF ppT2 2000000 3 [.i 4 (.ofNat 239), .xi 0 8 102 0] (fun v _ _ => match v with | .b c => c | _ => false) = true := by kernel_rfl
theorem ppob29 : ∀ j, j < 8 → goF ppT2 2000000 3 [.i 4 (.ofNat (232 + j)), .xi 0 8 102 0] (fun v _ _ => match v with | .b c => c | _ => false) = true
  | 0, _ => ppo232
  | 1, _ => ppo233
  | 2, _ => ppo234
  | 3, _ => ppo235
  | 4, _ => ppo236
  | 5, _ => ppo237
  | 6, _ => ppo238
  | 7, _ => ppo239
  | j + 8, h => by omega
end Go.AM
namespace Go.AM
open Go
set_option maxHeartbeats 0
set_option maxRecDepth 1000000
theorem ppf240 : goF ppT2 2000000 3 [.i 4 (.ofNat 240), .s [102]] (fun v _ _ => match v with | .b c => c | _ => false) = true := by kernel_rfl
theorem ppf241 : goF ppT2 2000000 3 [.i 4 (.ofNat 241), .s [102]] (fun v _ _ => match v with | .b c => c | _ => false) = true := by kernel_rfl
theorem ppf242 : goF ppT2 2000000 3 [.i 4 (.ofNat 242), .s [102]] (fun v _ _ => match v with | .b c => c | _ => false) = true := by kernel_rfl
theorem ppf243 : goF ppT2 2000000 3 [.i 4 (.ofNat 243), .s [102]] (fun v _ _ => match v with | .b c => c | _ => false) = true := by kernel_rfl
theorem ppf244 : goF ppT2 2000000 3 [.i 4 (.ofNat 244), .s [102]] (fun v _ _ => match v with | .b c => c | _ => false) = true := by kernel_rfl
theorem ppf245 : goF ppT2 2000000 3 [.i 4 (.ofNat 245), .s [102]] (fun v _ _ => match v with | .b c => c | _ => false) = true := by kernel_rfl
theorem ppf246 : goF ppT2 2000000 3 [.i 4 (.ofNat 246), .s [102]] (fun v _ _ => match v with | .b c => c | _ => false) = true := by kernel_rfl
theorem ppf247 : goF ppT2 2000000 3 [.i 4 (.ofNat 247), .s [102]] (fun v _ _ => match v with | .b c => c | _ => false) = true := by kernel_rfl
theorem ppfb30 : ∀ j, j < 8 → goF ppT2 2000000 3 [.i 4 (.ofNat (240 + j)), .s [102]] (fun v _ _ => match v with | .b c => c | _ => false) = true
  | 0, _ => ppf240
  | 1, _ => ppf241
  | 2, _ => ppf242
  | 3, _ => ppf243
  | 4, _ => ppf244
  | 5, _ => ppf245
  | 6, _ => ppf246
  | 7, _ => ppf247
  | j + 8, h => by omega
theorem ppo240 : goF ppT2 2000000 3 [.i 4 (.ofNat 240), .xi 0 8 102 0] (fun v _ _ => match v with | .b c => c | _ => false) = true := by kernel_rfl
theorem ppo241 : goF ppT2 2000000 3 [.i 4 (.ofNat 241), .xi 0 8 102 0] (fun v _ _ => match v with | .b c => c | _ => false) = true := by kernel_rfl
theorem ppo242 : goF ppT2 2000000 3 [.i 4 (.ofNat 242), .xi 0 8 102 0] (fun v _ _ => match v with | .b c => c | _ => false) = true := by kernel_rfl
theorem ppo243 : goF ppT2 2000000 3 [.i 4 (.ofNat 243), .xi 0 8 102 0] (fun v _ _ => match v with | .b c => c | _ => false) = true := by kernel_rfl
theorem ppo244 : goF ppT2 2000000 3 [.i 4 (.ofNat 244), .xi 0 8 102 0] (fun v _ _ => match v with | .b c => c | _ => false) = true := by kernel_rfl
theorem ppo245 : goF ppT2 2000000 3 [.i 4 (.ofNat 245), .xi 0 8 102 0] (fun v _ _ => match v with | .b c => c | _ => false) = true := by kernel_rfl
theorem ppo246 : goF ppT2 2000000 3 [.i 4 (.ofNat 246), .xi 0 8 102 0] (fun v _ _ => match v with | .b c => c | _ => false) = true := by kernel_rfl
theorem ppo247 : goF ppT2 2000000 3 [.i 4 (.ofNat 247), .xi 0 8 102 0] (fun v _ _ => match v with | .b c => c | _ => false) = true := by kernel_rfl
theorem ppob30 : ∀ j, j < 8 → goF ppT2 2000000 3 [.i 4 (.ofNat (240 + j)), .xi 0 8 102 0] (fun v _ _ => match v with | .b c => c | _ => false) = true
  | 0, _ => ppo240
  | 1, _ => ppo241
  | 2, _ => ppo242
  | 3, _ => ppo243
  | 4, _ => ppo244
  | 5, _ => ppo245
  | 6, _ => ppo246
  | 7, _ => ppo247
  | j + 8, h => by omega
end Go.AM
namespace Go.AM
open Go
set_option maxHeartbeats 0
set_option maxRecDepth 1000000
theorem ppf248 : goF ppT2 2000000 3 [.i 4 (.ofNat 248), .s [102]] (fun v _ _ => match v with | .b c => c | _ => false) = true := by kernel_rfl
theorem ppf249 : goF ppT2 2000000 3 [.i 4 (.ofNat 249), .s [102]] (fun v _ _ => match v with | .b c => c | _ => false) = true := by kernel_rfl
theorem ppf250 : goF ppT2 2000000 3 [.i 4 (.ofNat 250), .s [102]] (fun v _ _ => match v with | .b c => c | _ => false) = true := by kernel_rfl
theorem ppf251 : goF ppT2 2000000 3 [.i 4 (.ofNat 251), .s [102]] (fun v _ _ => match v with | .b c => c | _ => false) = true := by kernel_rfl
theorem ppf252 : goF ppT2 2000000 3 [.i 4 (.ofNat 252), .s [102]] (fun v _ _ => match v with | .b c => c | _ => false) = true := by kernel_rfl
theorem ppf253 : goF ppT2 2000000 3 [.i 4 (.ofNat 253), .s [102]] (fun v _ _ => match v with | .b c => c | _ => false) = true := by kernel_rfl
theorem ppf254 : goF ppT2 2000000 3 [.i 4 (.ofNat 254), .s [102]] (fun v _ _ => match v with | .b c => c | _ => false) = true := by kernel_rfl
theorem ppf255 : goF ppT2 2000000 3 [.i 4 (.ofNat 255), .s [102]] (fun v _ _ => match v with | .b c => c | _ => false) = true := by kernel_rfl
theorem ppfb31 : ∀ j, j < 8 → goF ppT2 2000000 3 [.i 4 (.ofNat (248 + j)), .s [102]] (fun v _ _ => match v with | .b c => c | _ => false) = true
  | 0, _ => ppf248
  | 1, _ => ppf249
  | 2, _ => ppf250
  | 3, _ => ppf251
  | 4, _ => ppf252
  | 5, _ => ppf253
  | 6, _ => ppf254
  | 7, _ => ppf255
  | j + 8, h => by omega
theorem ppo248 : goF ppT2 2000000 3 [.i 4 (.ofNat 248), .xi 0 8 102 0] (fun v _ _ => match v with | .b c => c | _ => false) = true := by kernel_rfl
theorem ppo249 : goF ppT2 2000000 3 [.i 4 (.ofNat 249), .xi 0 8 102 0] (fun v _ _ => match v with | .b c => c | _ => false) = true := by kernel_rfl
theorem ppo250 : goF ppT2 2000000 3 [.i 4 (.ofNat 250), .xi 0 8 102 0] (fun v _ _ => match v with | .b c => c | _ => false) = true := by kernel_rfl
theorem ppo251 : goF ppT2 2000000 3 [.i 4 (.ofNat 251), .xi 0 8 102 0] (fun v _ _ => match v with | .b c => c | _ => false) = true := by kernel_rfl
theorem ppo252 : goF ppT2 2000000 3 [.i 4 (.ofNat 252), .xi 0 8 102 0] (fun v _ _ => match v with | .b c => c | _ => false) = true := by kernel_rfl
theorem ppo253 : goF ppT2 2000000 3 [.i 4 (.ofNat 253), .xi 0 8 102 0] (fun v _ _ => match v with | .b c => c | _ => false) = true := by kernel_rfl
theorem ppo254 : goF ppT2 2000000 3 [.i 4 (.ofNat 254), .xi 0 8 102 0] (fun v _ _ => match v with | .b c => c | _ => false) = true := by kernel_rfl
theorem ppo255 : goF ppT2 2000000 3 [.i 4 (.ofNat 255), .xi 0 8 102 0] (fun v _ _ => match v with | .b c => c | _ => false) = true := by kernel_rfl
theorem ppob31 : ∀ j, j < 8 → goF ppT2 2000000 3 [.i 4 (.ofNat (248 + j)), .xi 0 8 102 0] (fun v _ _ => match v with | .b c => c | _ => false) = true
  | 0, _ => ppo248
  | 1, _ => ppo249
  | 2, _ => ppo250
  | 3, _ => ppo251
  | 4, _ => ppo252
  | 5, _ => ppo253
  | 6, _ => ppo254
  | 7, _ => ppo255
  | j + 8, h => by omega
end Go.AM
