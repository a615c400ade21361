/-
  AM, 5: what the machine's values, temporaries and objects stand for in a world. Conditions: none.
-/
import Derived.Test.YtniakcilpolneaaGreatDoorAmLn
import Derived.Laws.Sem
import Derived.Deep.AppendSrc
import Derived.Below
import Derived.Laws.Strings
import Derived.Laws.StructEq
namespace Go.AM
open Go

/-! ### Trees -/
def ch {α : Type} (d : Nat) : N8 α → α
  | .mk a b c d' e f g h => match d with | 0 => a | 1 => b | 2 => c | 3 => d' | 4 => e | 5 => f | 6 => g | _ => h
def sch {α : Type} (d : Nat) (y : α) : N8 α → N8 α
  | .mk a b c d' e f g h => match d with
    | 0 => .mk y b c d' e f g h | 1 => .mk a y c d' e f g h | 2 => .mk a b y d' e f g h | 3 => .mk a b c y e f g h
    | 4 => .mk a b c d' y f g h | 5 => .mk a b c d' e y g h | 6 => .mk a b c d' e f y h | _ => .mk a b c d' e f g y
theorem selG_eq {α : Type} (d : Nat) (κ : α → R) (t : N8 α) : selG α d κ t = κ (ch d t) := by
  cases t
  match d with
  | 0 => rfl
  | 1 => rfl
  | 2 => rfl
  | 3 => rfl
  | 4 => rfl
  | 5 => rfl
  | 6 => rfl
  | d + 7 => rfl
theorem selS_eq {α : Type} (d : Nat) (ih : α → (α → R) → R) (y : α) (t : N8 α) (k : N8 α → R) (h : ∀ k', ih (ch d t) k' = k' y) : selS α d ih t k = k (sch d y t) := by
  cases t
  match d with
  | 0 => exact h _
  | 1 => exact h _
  | 2 => exact h _
  | 3 => exact h _
  | 4 => exact h _
  | 5 => exact h _
  | 6 => exact h _
  | d + 7 => exact h _
theorem ch_sch {α : Type} (d : Nat) (y : α) (t : N8 α) : ch d (sch d y t) = y := by
  cases t
  match d with
  | 0 => rfl
  | 1 => rfl
  | 2 => rfl
  | 3 => rfl
  | 4 => rfl
  | 5 => rfl
  | 6 => rfl
  | d + 7 => rfl
theorem ch_sch_ne {α : Type} {d e : Nat} (y : α) (t : N8 α) (hd : d < 8) (he : e < 8) (h : e ≠ d) : ch e (sch d y t) = ch e t := by
  cases t
  rcases d with _ | _ | _ | _ | _ | _ | _ | _ | d <;> rcases e with _ | _ | _ | _ | _ | _ | _ | _ | e <;> first | rfl | omega
theorem ch_rep {α : Type} (d : Nat) (x : α) : ch d (rep8 x) = x := by
  match d with
  | 0 => rfl
  | 1 => rfl
  | 2 => rfl
  | 3 => rfl
  | 4 => rfl
  | 5 => rfl
  | 6 => rfl
  | d + 7 => rfl
/-- the value at a place -/
def getL (α : Type) : (n : Nat) → Nat → L α n → α
  | 0, _, t => t
  | n + 1, i, t => getL α n (i % 8 ^ n) (ch (i / 8 ^ n) (t : N8 (L α n)))
def setL (α : Type) (x : α) : (n : Nat) → Nat → L α n → L α n
  | 0, _, _ => x
  | n + 1, i, t => (sch (i / 8 ^ n) (setL α x n (i % 8 ^ n) (ch (i / 8 ^ n) (t : N8 (L α n)))) (t : N8 (L α n)) : N8 (L α n))
theorem getK_eq {α : Type} (κ : α → R) : ∀ (n i : Nat) (t : L α n), getK α κ n i t = κ (getL α n i t)
  | 0, _, _ => rfl
  | n + 1, i, t => (selG_eq (α := L α n) (i / 8 ^ n) (getK α κ n (i % 8 ^ n)) t).trans (getK_eq κ n _ _)
theorem setK_eq {α : Type} (x : α) : ∀ (n i : Nat) (t : L α n) (k : L α n → R), setK α x n i t k = k (setL α x n i t)
  | 0, _, _, _ => rfl
  | n + 1, i, t, k => selS_eq (α := L α n) (i / 8 ^ n) (setK α x n (i % 8 ^ n)) (setL α x n (i % 8 ^ n) (ch (i / 8 ^ n) (t : N8 (L α n)))) t k (fun k' => setK_eq x n _ _ k')
theorem getL_setL {α : Type} (x : α) : ∀ (n i : Nat) (t : L α n), getL α n i (setL α x n i t) = x
  | 0, _, _ => rfl
  | n + 1, i, t => (congrArg (getL α n (i % 8 ^ n)) (ch_sch (α := L α n) (i / 8 ^ n) _ t)).trans (getL_setL x n _ _)
theorem getL_setL_ne {α : Type} (x : α) : ∀ (n : Nat) {i j : Nat} (t : L α n), i < 8 ^ n → j < 8 ^ n → j ≠ i → getL α n j (setL α x n i t) = getL α n j t
  | 0, i, j, t, hi, hj, h => by simp at hi hj; omega
  | n + 1, i, j, t, hi, hj, h => by
    have hp : 0 < 8 ^ n := Nat.pow_pos (by omega)
    rw [Nat.pow_succ] at hi hj
    have key : ∀ t : N8 (L α n), getL α n (j % 8 ^ n) (ch (j / 8 ^ n) (sch (i / 8 ^ n) (setL α x n (i % 8 ^ n) (ch (i / 8 ^ n) t)) t)) = getL α n (j % 8 ^ n) (ch (j / 8 ^ n) t) := by
      intro t
      by_cases hd : j / 8 ^ n = i / 8 ^ n
      · rw [hd, ch_sch, getL_setL_ne x n _ (Nat.mod_lt _ hp) (Nat.mod_lt _ hp)]
        intro hm
        apply h
        rw [← Nat.div_add_mod j (8 ^ n), ← Nat.div_add_mod i (8 ^ n), hd, hm]
      · rw [ch_sch_ne _ _ (Nat.div_lt_of_lt_mul (by omega)) (Nat.div_lt_of_lt_mul (by omega)) hd]
    exact key t
theorem getL_repL {α : Type} (x : α) : ∀ (n i : Nat), getL α n i (repL α x n) = x
  | 0, _ => rfl
  | n + 1, i => (congrArg (getL α n (i % 8 ^ n)) (ch_rep (i / 8 ^ n) (repL α x n))).trans (getL_repL x n _)

/-! ### Where objects lie -/
structure Th where
  has : Nat → Prop
  blk : Nat → Nat
  bas : Nat → Nat
  siz : Nat → Nat
  esz : Nat → Nat
  /-- blocks of before that are the run's own -/
  ini : Nat → Prop
  ext : Nat → Value
  ext1 : ∀ n, (ext n).oneCell' = true
structure Th.le (θ θ' : Th) : Prop where
  has : ∀ o, θ.has o → θ'.has o
  blk : ∀ o, θ.has o → θ'.blk o = θ.blk o
  bas : ∀ o, θ.has o → θ'.bas o = θ.bas o
  siz : ∀ o, θ.has o → θ'.siz o = θ.siz o
  esz : ∀ o, θ.has o → θ'.esz o = θ.esz o
  ext : θ'.ext = θ.ext
  ini : θ'.ini = θ.ini
theorem Th.le.refl (θ : Th) : θ.le θ := ⟨fun _ h => h, fun _ _ => rfl, fun _ _ => rfl, fun _ _ => rfl, fun _ _ => rfl, rfl, rfl⟩
theorem Th.le.trans {θ θ' θ'' : Th} (h : θ.le θ') (h' : θ'.le θ'') : θ.le θ'' :=
  ⟨fun o ho => h'.has o (h.has o ho), fun o ho => (h'.blk o (h.has o ho)).trans (h.blk o ho), fun o ho => (h'.bas o (h.has o ho)).trans (h.bas o ho),
   fun o ho => (h'.siz o (h.has o ho)).trans (h.siz o ho), fun o ho => (h'.esz o (h.has o ho)).trans (h.esz o ho), h'.ext.trans h.ext, h'.ini.trans h.ini⟩
def bytesOf (l : List Nat) : ByteArray := ⟨(l.map UInt8.ofNat).toArray⟩

/-- the number that a value is -/
def xnat : Value → Int
  | .int _ w => w
  | _ => 0
/-- the length of a text that is handed in -/
def xlen : Value → Int
  | .string s => s.size
  | _ => 0
/-- kinds 0 to 7: a number; 8: a text; 9: its length -/
def xiV (e : Value) (k : Nat) : Value := if k = 8 then e else if k = 9 then .int .i64 (xlen e) else .int (kindOf k) (xnat e)
/-- kinds 13 on: a number below 256, and r; the byte; is m (or a lane's number) less than the first -/
def xoV (e : Value) (j k r m : Nat) : Value := if k = 13 then .int .i64 (xnat e + r) else if k = 14 then .int .u8 (xnat e) else if k = 15 then .bool (decide ((m : Int) < xnat e + r)) else .bool (decide ((ln j m : Int) < xnat e + r))
def xiOk (e : Value) (k r m : Nat) : Prop := (13 ≤ k ∧ r < 4294967296 ∧ ∃ w : Nat, xnat e = (w : Int) ∧ w < 256) ∨ (k < 8 ∧ ∃ w : Nat, xnat e = (w : Int) ∧ w % m = r ∧ w < 4294967296) ∨
  (8 ≤ k ∧ k ≤ 9 ∧ r < 256 ∧ ∃ s, e = .string s ∧ (s == bytesOf [r]) = false ∧ (bytesOf [r] == s) = false ∧ (m = 0 → s.size ≤ 100) ∧ (0 < m → 100 < s.size))
/-- the empty end of object o's row from element l on, the row beginning at off -/
def tailV (θ : Th) (o off l : Nat) : Value :=
  .slice (if (θ.siz o - off) / θ.esz o = l then some ⟨θ.blk o, θ.bas o + off, none⟩ else some ⟨θ.blk o, θ.bas o + off + l * θ.esz o, none⟩) 0 ((θ.siz o - off) / θ.esz o - l)
/-- the lane that the run is of -/
def Th.lane (θ : Th) : Nat := (xnat (θ.ext 65535)).toNat % 256
theorem Th.lane_lt (θ : Th) : θ.lane < 256 := Nat.mod_lt _ (by decide)
/-- a byte -/
def byV (θ : Th) : AV → UInt8
  | .i _ n => UInt8.ofNat n.toNat
  | .l _ N => UInt8.ofNat (ln θ.lane N)
  | _ => 0
def txV (θ : Th) (l : List AV) : ByteArray := ⟨(l.map (byV θ)).toArray⟩
def lV (k n : Nat) : Value := if k = 9 then .bool (n != 0) else .int (kindOf k) (n : Int)
def lOk (k N : Nat) : Prop := (k < 8 ∧ Lim (khi k) N) ∨ (k = 9 ∧ Lim 2 N)
def byOk (v : AV) : Prop := (∃ n : Nat, v = .i 4 (n : Int) ∧ n < 256) ∨ ∃ N, v = .l 4 N ∧ Lim 256 N
mutual
def toV (θ : Th) : AV → Value
  | .i k n => .int (kindOf k) n
  | .b c => .bool c
  | .p o f => .pointer (some ⟨θ.blk o, θ.bas o + f, none⟩)
  | .sl o f len cap => .slice (some ⟨θ.blk o, θ.bas o + f, none⟩) len (match cap with | some c => c | none => (θ.siz o - f) / θ.esz o)
  | .np => .pointer none
  | .ns => .slice none 0 0
  | .s l => .string (bytesOf l)
  | .m o => .map (some (θ.blk o))
  | .nm => .map none
  | .fn f caps => .func (.func f) #[] (toVs θ caps).toArray
  | .yl o => .func (.yield (θ.blk o)) #[] #[]
  | .nf => .nilFunc
  | .ifc t v => .iface t (toV θ v)
  | .ni => .nilIface
  | .x n => θ.ext n
  | .xi n k r m => if k = 12 then tailV θ n r m else if 13 ≤ k then xoV (θ.ext n) θ.lane k r m else xiV (θ.ext n) k
  | .l k N => lV k (ln θ.lane N)
  | .q o off N => .pointer (some ⟨θ.blk o, θ.bas o + (off + ln θ.lane N), none⟩)
  | .t l => .string (txV θ l)
  | .f n m => .int .i64 (xnat (θ.ext n) % (m : Int))
  | .z n _ => .int .i64 (xnat (θ.ext n))
  | .ag l => .agg (toVs θ l).toArray
  | .tu l => .tuple (toVs θ l).toArray
def toVs (θ : Th) : List AV → List Value
  | [] => []
  | v :: r => toV θ v :: toVs θ r
end
theorem toVs_map (θ : Th) : ∀ l, toVs θ l = l.map (toV θ)
  | [] => rfl
  | v :: r => by simp [toVs, toVs_map θ r]
@[simp] theorem toVs_length (θ : Th) (l : List AV) : (toVs θ l).length = l.length := by simp [toVs_map]
mutual
/-- all objects that a value names lie somewhere; its texts are bytes; its cells are cells -/
def Ok (θ : Th) : AV → Prop
  | .p o _ => θ.has o
  | .sl o _ _ _ => θ.has o
  | .s l => ∀ x ∈ l, x < 256
  | .m o => θ.has o
  | .fn _ caps => Oks θ caps
  | .yl o => θ.has o
  | .ifc _ v => Ok θ v
  | .xi n k r m => (k = 12 ∧ θ.has n) ∨ (k ≠ 12 ∧ xiOk (θ.ext n) k r m)
  | .l k N => lOk k N
  | .q o _ N => θ.has o ∧ Lim 16 N
  | .t l => ∀ v ∈ l, byOk v
  | .f n m => (∃ w : Nat, xnat (θ.ext n) = (w : Int)) ∧ 0 < m
  | .z n m => (m = 0 → xnat (θ.ext n) < 0) ∧ (0 < m → (m : Int) ≤ xnat (θ.ext n))
  | .ag l => Oks θ l ∧ l.all one = true
  | .tu l => Oks θ l
  | _ => True
def Oks (θ : Th) : List AV → Prop
  | [] => True
  | v :: r => Ok θ v ∧ Oks θ r
end
theorem Oks_iff {θ : Th} : ∀ {l : List AV}, Oks θ l ↔ ∀ v ∈ l, Ok θ v
  | [] => by simp [Oks]
  | v :: r => by simp [Oks, Oks_iff (l := r)]
mutual
theorem mono {θ θ' : Th} (h : θ.le θ') : ∀ (v : AV), Ok θ v → toV θ' v = toV θ v ∧ Ok θ' v
  | .i _ _, _ => ⟨rfl, trivial⟩
  | .b _, _ => ⟨rfl, trivial⟩
  | .p o f, hv => ⟨by simp only [toV, h.blk o hv, h.bas o hv], h.has o hv⟩
  | .sl o f len cap, hv => ⟨by simp only [toV, h.blk o hv, h.bas o hv, h.siz o hv, h.esz o hv], h.has o hv⟩
  | .np, _ => ⟨rfl, trivial⟩
  | .ns, _ => ⟨rfl, trivial⟩
  | .s _, hv => ⟨rfl, hv⟩
  | .m o, hv => ⟨by simp only [toV, h.blk o hv], h.has o hv⟩
  | .nm, _ => ⟨rfl, trivial⟩
  | .fn _ caps, hv => ⟨by simp only [toV, (monos h caps hv).1], (monos h caps hv).2⟩
  | .yl o, hv => ⟨by simp only [toV, h.blk o hv], h.has o hv⟩
  | .nf, _ => ⟨rfl, trivial⟩
  | .ifc _ v, hv => ⟨by simp only [toV, (mono h v hv).1], (mono h v hv).2⟩
  | .ni, _ => ⟨rfl, trivial⟩
  | .x n, _ => ⟨by simp only [toV, h.ext], trivial⟩
  | .xi n k r m, hv => by
      rcases (show (k = 12 ∧ θ.has n) ∨ (k ≠ 12 ∧ xiOk (θ.ext n) k r m) from hv) with ⟨h12, hn⟩ | ⟨h12, hv⟩
      · subst h12
        exact ⟨by simp only [toV, tailV, if_true, h.blk n hn, h.bas n hn, h.siz n hn, h.esz n hn], .inl ⟨rfl, h.has n hn⟩⟩
      · exact ⟨by simp only [toV, if_neg h12, Th.lane, h.ext], .inr ⟨h12, by rw [h.ext]; exact hv⟩⟩
  | .l k N, hv => ⟨by simp only [toV, Th.lane, h.ext], hv⟩
  | .q o off N, hv => ⟨by simp only [toV, h.blk o hv.1, h.bas o hv.1, Th.lane, h.ext], h.has o hv.1, hv.2⟩
  | .t l, hv => ⟨by
      simp only [toV, txV]
      have : byV θ' = byV θ := by funext v; cases v <;> simp only [byV, Th.lane, h.ext]
      rw [this], hv⟩
  | .f n m, hv => ⟨by simp only [toV, h.ext], by
      show (∃ w : Nat, xnat (θ'.ext n) = (w : Int)) ∧ 0 < m
      rw [h.ext]; exact hv⟩
  | .z n m, hv => ⟨by simp only [toV, h.ext], by
      show (m = 0 → xnat (θ'.ext n) < 0) ∧ (0 < m → (m : Int) ≤ xnat (θ'.ext n))
      rw [h.ext]; exact hv⟩
  | .ag l, hv => ⟨by simp only [toV, (monos h l hv.1).1], (monos h l hv.1).2, hv.2⟩
  | .tu l, hv => ⟨by simp only [toV, (monos h l hv).1], (monos h l hv).2⟩
theorem monos {θ θ' : Th} (h : θ.le θ') : ∀ (l : List AV), Oks θ l → toVs θ' l = toVs θ l ∧ Oks θ' l
  | [], _ => ⟨rfl, trivial⟩
  | v :: r, hv => ⟨by simp only [toVs, (mono h v hv.1).1, (monos h r hv.2).1], (mono h v hv.1).2, (monos h r hv.2).2⟩
end
theorem xi_ok {θ : Th} {n k r m : Nat} (hk : k < 8) (w : Nat) (h1 : xnat (θ.ext n) = (w : Int)) (h2 : w % m = r) (h3 : w < 4294967296) : Ok θ (.xi n k r m) := .inr ⟨by omega, .inr <| .inl ⟨hk, w, h1, h2, h3⟩⟩
theorem xo_ok {θ : Th} {n k r m : Nat} (hk : 13 ≤ k) (w : Nat) (h1 : xnat (θ.ext n) = (w : Int)) (h2 : w < 256) (h3 : r < 4294967296) : Ok θ (.xi n k r m) := .inr ⟨by omega, .inl ⟨hk, h3, w, h1, h2⟩⟩
theorem xo_num {θ : Th} {n k r m : Nat} (hk : 13 ≤ k) (h : Ok θ (.xi n k r m)) : r < 4294967296 ∧ ∃ w : Nat, xnat (θ.ext n) = (w : Int) ∧ w < 256 ∧ toV θ (.xi n k r m) = xoV (θ.ext n) θ.lane k r m := by
  rcases (show (k = 12 ∧ θ.has n) ∨ (k ≠ 12 ∧ xiOk (θ.ext n) k r m) from h) with ⟨h12, _⟩ | ⟨h12, ⟨_, h2, w, h3, h4⟩ | ⟨h8, _⟩ | ⟨_, h9, _⟩⟩
  · omega
  · refine ⟨h2, w, h3, h4, ?_⟩
    show (if k = 12 then _ else if 13 ≤ k then _ else xiV _ _) = _
    rw [if_neg h12, if_pos hk]
  · omega
  · omega
theorem xi_num {θ : Th} {n k r m : Nat} (hk : k < 8) (h : Ok θ (.xi n k r m)) : ∃ w : Nat, toV θ (.xi n k r m) = .int (kindOf k) (w : Int) ∧ xnat (θ.ext n) = (w : Int) ∧ w % m = r ∧ w < 4294967296 := by
  rcases (show (k = 12 ∧ θ.has n) ∨ (k ≠ 12 ∧ xiOk (θ.ext n) k r m) from h) with ⟨h12, _⟩ | ⟨h12, ⟨h13, _⟩ | ⟨_, w, h1, h2, h3⟩ | ⟨h8, _⟩⟩
  · omega
  · omega
  · refine ⟨w, ?_, h1, h2, h3⟩
    show (if k = 12 then _ else if 13 ≤ k then _ else xiV _ _) = _
    rw [if_neg h12, if_neg (by omega), xiV, if_neg (by omega), if_neg (by omega), h1]
  · omega
theorem xi_str {θ : Th} {n r m : Nat} (h : Ok θ (.xi n 8 r m)) : r < 256 ∧ ∃ s, toV θ (.xi n 8 r m) = .string s ∧ toV θ (.xi n 9 r m) = .int .i64 s.size ∧ Ok θ (.xi n 9 r m) ∧ (s == bytesOf [r]) = false ∧ (bytesOf [r] == s) = false := by
  rcases (show (8 = 12 ∧ θ.has n) ∨ (8 ≠ 12 ∧ xiOk (θ.ext n) 8 r m) from h) with ⟨h12, _⟩ | ⟨_, ⟨h13, _⟩ | ⟨h8, _⟩ | ⟨_, _, hr, s, h1, h2, h3, h4, h5⟩⟩
  · omega
  · omega
  · omega
  · exact ⟨hr, s, h1, by show (if 9 = 12 then _ else if 13 ≤ 9 then _ else xiV _ _) = _; rw [if_neg (by decide), if_neg (by decide), h1]; rfl, .inr ⟨by omega, .inr <| .inr ⟨by omega, by omega, hr, s, h1, h2, h3, h4, h5⟩⟩, h2, h3⟩
theorem xi_len {θ : Th} {n r m : Nat} (h : Ok θ (.xi n 9 r m)) : ∃ k : Nat, toV θ (.xi n 9 r m) = .int .i64 k ∧ (m = 0 → k ≤ 100) ∧ (0 < m → 100 < k) := by
  rcases (show (9 = 12 ∧ θ.has n) ∨ (9 ≠ 12 ∧ xiOk (θ.ext n) 9 r m) from h) with ⟨h12, _⟩ | ⟨_, ⟨h13, _⟩ | ⟨h8, _⟩ | ⟨_, _, hr, s, h1, h2, h3, h4, h5⟩⟩
  · omega
  · omega
  · omega
  · exact ⟨s.size, by show (if 9 = 12 then _ else if 13 ≤ 9 then _ else xiV _ _) = _; rw [if_neg (by decide), if_neg (by decide), h1]; rfl, h4, h5⟩
/-- a value, as it stands in a world -/
def VR (θ : Th) (v : AV) (u : Value) : Prop := Ok θ v ∧ u = toV θ v
theorem VR.mono {θ θ' : Th} (h : θ.le θ') {v : AV} {u : Value} (hv : VR θ v u) : VR θ' v u := ⟨(AM.mono h v hv.1).2, by rw [(AM.mono h v hv.1).1]; exact hv.2⟩

/-- the temporaries -/
def ER (θ : Th) (en : Env) (tmps : Array Value) : Prop := ∀ t, t < 512 → VR θ (getL AV 3 t en) (tmps.getD t Go.undef)
theorem ER.mono {θ θ' : Th} (h : θ.le θ') {en : Env} {tmps : Array Value} (he : ER θ en tmps) : ER θ' en tmps := fun t ht => (he t ht).mono h

/-! ### Objects -/
/-- the cell at a place -/
def nthO {α : Type} : List α → Nat → Option α
  | [], _ => none
  | x :: _, 0 => some x
  | _ :: r, n + 1 => nthO r n
theorem nthO_eq {α : Type} : ∀ (l : List α) (n : Nat), nthO l n = l[n]?
  | [], n => by simp [nthO]
  | x :: _, 0 => by simp [nthO]
  | _ :: r, n + 1 => by simp [nthO, nthO_eq r n]
def cellO (z : List AV) (zl d : Nat) (t : L (Option AV) d) (i : Nat) : Option AV := match getL (Option AV) d i t with
  | some v => some v
  | none => z[i % zl]?
def meV (θ : Th) : ME → MapEntry
  | .mk k v b => { key := toV θ k, val := toV θ v, born := b }
def meOk (θ : Th) : ME → Prop
  | .mk k v _ => Ok θ k ∧ Ok θ v
def jCode : J → Option Code
  | .no => none
  | .ret => some .ret
  | .exit id => some (.exit id)
/-- nothing of n cells is shut -/
def Fz (fz : Nat × Nat) (n : Nat) : Prop := fz = (0, 0) ∨ n ≤ fz.1
theorem Fz.free {fz : Nat × Nat} {n : Nat} (h : Fz fz n) : ∀ i, i < n → (fz.1 ≤ i && i < fz.2) = false := by
  intro i hi
  rcases h with rfl | h
  · simp
  · have : ¬ (fz.1 ≤ i) := by omega
    simp [this]
/-- an object's block, and what it holds -/
def OR (P : Program) (θ : Th) (w : World) (o : Nat) : AO → Prop
  | .sm l => ∃ ty, w.heap[θ.blk o]? = some (.cells (toVs θ l).toArray ty (0, 0)) ∧ θ.bas o = 0 ∧ Oks θ l ∧ l.all one = true
  | .st t l => w.heap[θ.blk o]? = some (.cells (toVs θ l).toArray t (0, 0)) ∧ θ.bas o = 0 ∧ Oks θ l ∧ l.all one = true
  | .bt t l => ∃ c fz, w.heap[θ.blk o]? = some (.cells c t fz) ∧ θ.bas o = 0 ∧ θ.esz o = 1 ∧ θ.siz o = c.size ∧ l.length ≤ c.size ∧ (∀ (i x : Nat), l[i]? = some x → c[i]? = some (Value.int .u8 (x : Int)) ∧ x < 256) ∧ Fz fz c.size
  | .ce n es z zl d t _ _ => ∃ c ty fz, w.heap[θ.blk o]? = some (.cells c ty fz) ∧ n ≤ 8 ^ d ∧
      (∀ i, i < n → ∃ v, cellO z zl d t i = some v ∧ Ok θ v ∧ one v = true ∧ c[θ.bas o + i]? = some (toV θ v)) ∧
      Fz fz c.size ∧
      (es = 0 → θ.bas o = 0 ∧ c.size = n ∧ (zl ≠ 0 → fz = (0, 0))) ∧ (es ≠ 0 → θ.esz o = es ∧ n ≤ θ.siz o ∧ θ.bas o + θ.siz o ≤ c.size)
  | .mp es clock => w.heap[θ.blk o]? = some (.map (es.map (meV θ)).toArray clock) ∧ ∀ e ∈ es, meOk θ e
  | .it m since seen st => w.heap[θ.blk o]? = some (.mapIter (m.map θ.blk) since seen.toArray st) ∧ (∀ k, m = some k → θ.has k) ∧ θ.bas o = 0
  | .lp st j fn li en ds => ∃ fu code ps a b tmps, P.funcs[fn]? = some fu ∧ fu.body = some code ∧ nrf code ≤ 16 ∧ (li, ps, a, b) ∈ rfs (liOf fn) code ∧
      w.heap[θ.blk o]? = some (.loop { state := st, pending := jCode j, fn := fn, tmps := tmps, params := ps, assign := a, body := b, defers := θ.blk ds }) ∧
      ER θ en tmps ∧ fu.ntmps ≤ tmps.size ∧ θ.has ds
  | .df c => w.heap[θ.blk o]? = some (.deferred (if c then some [] else none))
  | .dead => True
theorem OR.mono {P : Program} {θ θ' : Th} {w w' : World} {o : Nat} (h : θ.le θ') (ho : θ.has o) (hw : w'.heap[θ.blk o]? = w.heap[θ.blk o]?) : ∀ {a : AO}, OR P θ w o a → OR P θ' w' o a
  | .sm l, ⟨ty, h1, h2, h3, h4⟩ => ⟨ty, by rw [h.blk o ho, hw, (monos h l h3).1]; exact h1, by rw [h.bas o ho]; exact h2, (monos h l h3).2, h4⟩
  | .st t l, ⟨h1, h2, h3, h4⟩ => ⟨by rw [h.blk o ho, hw, (monos h l h3).1]; exact h1, by rw [h.bas o ho]; exact h2, (monos h l h3).2, h4⟩
  | .bt t l, ⟨c, fz, h1, h2, h3, h4, h5, h6, h7⟩ => ⟨c, fz, by rw [h.blk o ho, hw]; exact h1, by rw [h.bas o ho]; exact h2, by rw [h.esz o ho]; exact h3, by rw [h.siz o ho]; exact h4, h5, h6, h7⟩
  | .ce n es z zl d t top sh, ⟨c, ty, fz, h1, h2, h3, h4, h5, h6⟩ => ⟨c, ty, fz, by rw [h.blk o ho, hw]; exact h1, h2, fun i hi => by
      obtain ⟨v, e1, e2, e3, e4⟩ := h3 i hi
      exact ⟨v, e1, (AM.mono h v e2).2, e3, by rw [h.bas o ho, (AM.mono h v e2).1]; exact e4⟩, h4, by rw [h.bas o ho]; exact h5, by rw [h.bas o ho, h.siz o ho, h.esz o ho]; exact h6⟩
  | .mp es clock, ⟨h1, h2⟩ => by
      refine ⟨?_, fun e he => ?_⟩
      · rw [h.blk o ho, hw, h1]
        congr 3
        refine List.map_congr_left fun e he => ?_
        obtain ⟨k, v, b⟩ := e
        have := h2 _ he
        simp only [meV, (AM.mono h k this.1).1, (AM.mono h v this.2).1]
      · obtain ⟨k, v, b⟩ := e
        have := h2 _ he
        exact ⟨(AM.mono h k this.1).2, (AM.mono h v this.2).2⟩
  | .it m since seen st, ⟨h1, h2, h3⟩ => by
      refine ⟨?_, fun k hk => h.has k (h2 k hk), by rw [h.bas o ho]; exact h3⟩
      rw [h.blk o ho, hw, h1]
      cases m with
      | none => rfl
      | some m => simp [h.blk m (h2 m rfl)]
  | .lp st j fn li en ds, ⟨fu, code, ps, a, b, tmps, h1, h2, h2', h3, h4, h5, h6, h7⟩ => ⟨fu, code, ps, a, b, tmps, h1, h2, h2', h3, by rw [h.blk o ho, hw, h.blk ds h7]; exact h4, h5.mono h, h6, h.has ds h7⟩
  | .df c, h1 => by show _ = _; rw [h.blk o ho, hw]; exact h1
  | .dead, _ => trivial

/-- may it be written -/
def AO.wr : AO → Bool
  | .ce _ _ _ _ _ _ top _ => top
  | .dead => false
  | _ => true
def AO.live : AO → Bool
  | .dead => false
  | _ => true
def AO.sh : AO → List Nat
  | .ce _ _ _ _ _ _ _ sh => sh
  | _ => []
/-- how far it reaches -/
def AO.ext (θ : Th) (o : Nat) : AO → Nat
  | .ce n _ _ _ _ _ _ _ => θ.bas o + n
  | _ => 0
abbrev obj (h : H) (o : Nat) : Option AO := getL (Option AO) 7 o h
/-- nothing lies behind -/
def Fresh (h : H) (nx : Nat) : Prop := ∀ o a, o < 2097152 → obj h o = some a → o < nx
/-- what the run is told of a table of the library's, if the program has it: its sixteenth number -/
def Glo (P : Program) (ini : Nat → Prop) (w0 : World) : Prop := ∀ g, P.globalNamed "math/bits.deBruijn64tab" = some g → ¬ ini g ∧ w0.cell? ⟨g, 15, none⟩ = some (.int .u8 4)
/-- the heap, as it lies in world w; w0: the world in which the run began; pd: objects that are to be laid still -/
structure HR (P : Program) (w0 : World) (pd : List (Nat × AO)) (θ : Th) (h : H) (nx : Nat) (w : World) : Prop where
  lim : nx ≤ 2097152
  own : ∀ o, θ.has o → o < nx ∧ (w0.heap.size ≤ θ.blk o ∨ θ.ini (θ.blk o)) ∧ θ.blk o < w.heap.size ∧ ∃ a, obj h o = some a ∧ OR P θ w o a ∧ ∀ x ∈ a.sh, θ.has x
  apart : ∀ o o' a a', o ≠ o' → θ.has o → θ.has o' → obj h o = some a → obj h o' = some a' → a.wr = true → a'.live = true → θ.blk o = θ.blk o' → o' ∈ a.sh ∧ a'.ext θ o' ≤ a.ext θ o ∧ a'.wr = false
  size : w0.heap.size ≤ w.heap.size
  kept : ∀ b, b < w0.heap.size → ¬ θ.ini b → w.heap[b]? = w0.heap[b]?
  plain : w.os = w0.os ∧ w.tape = w0.tape ∧ w.output = w0.output
  pend : ∀ o a, (o, a) ∈ pd → ¬ θ.has o ∧ o < nx ∧ obj h o = some a
  nodup : (pd.map (·.1)).Nodup
  fresh : Fresh h nx
  glo : Glo P θ.ini w0
end Go.AM
namespace Go.AM
open Go

/-- an object laid at block b -/
def Th.put (θ : Th) (o b bs sz es : Nat) : Th where
  has x := x = o ∨ θ.has x
  blk x := if x = o then b else θ.blk x
  bas x := if x = o then bs else θ.bas x
  siz x := if x = o then sz else θ.siz x
  esz x := if x = o then es else θ.esz x
  ini := θ.ini
  ext := θ.ext
  ext1 := θ.ext1
theorem Th.le_put {θ : Th} {o : Nat} (h : ¬ θ.has o) (b bs sz es : Nat) : θ.le (θ.put o b bs sz es) := by
  have ne : ∀ x, θ.has x → x ≠ o := fun x hx e => h (e ▸ hx)
  exact ⟨fun x hx => .inr hx, fun x hx => by simp [Th.put, ne x hx], fun x hx => by simp [Th.put, ne x hx], fun x hx => by simp [Th.put, ne x hx], fun x hx => by simp [Th.put, ne x hx], rfl, rfl⟩
@[simp] theorem Th.put_has (θ : Th) (o b bs sz es : Nat) : (θ.put o b bs sz es).has o := .inl rfl
@[simp] theorem Th.put_blk (θ : Th) (o b bs sz es : Nat) : (θ.put o b bs sz es).blk o = b := by simp [Th.put]
@[simp] theorem Th.put_bas (θ : Th) (o b bs sz es : Nat) : (θ.put o b bs sz es).bas o = bs := by simp [Th.put]
@[simp] theorem Th.put_siz (θ : Th) (o b bs sz es : Nat) : (θ.put o b bs sz es).siz o = sz := by simp [Th.put]
@[simp] theorem Th.put_esz (θ : Th) (o b bs sz es : Nat) : (θ.put o b bs sz es).esz o = es := by simp [Th.put]

abbrev setO (h : H) (o : Nat) (a : AO) : H := setL (Option AO) (some a) 7 o h
theorem obj_set (h : H) (o : Nat) (a : AO) : obj (setO h o a) o = some a := getL_setL _ _ _ _
theorem obj_set_ne (h : H) {o o' : Nat} (a : AO) (ho : o < 2097152) (ho' : o' < 2097152) (hn : o' ≠ o) : obj (setO h o a) o' = obj h o' := getL_setL_ne _ 7 _ ho ho' hn
theorem put_eq (o : Nat) (a : AO) (h : H) (κ : H → R) : put o a h κ = κ (setO h o a) := (put_def o a h κ).trans (setK_eq _ _ _ _ _)
theorem get_true {o : Nat} {h : H} {κ : AO → R} (e : get o h κ = true) : ∃ a, obj h o = some a ∧ κ a = true := by
  rw [get_def, getK_eq] at e
  cases ha : getL (Option AO) 7 o h with
  | none => rw [ha] at e; cases e
  | some a => rw [ha] at e; exact ⟨a, ha, e⟩
/-- dead, all of them -/
def killL : List Nat → H → H
  | [], h => h
  | o :: r, h => killL r (setO h o .dead)
theorem killK_eq : ∀ (sh : List Nat) (h : H) (κ : H → R), killK sh h κ = κ (killL sh h)
  | [], _, _ => rfl
  | o :: r, h, κ => by
    show put o .dead h (fun h => killK r h κ) = _
    rw [put_eq, killK_eq r]
    rfl
theorem obj_kill : ∀ (sh : List Nat) (h : H) (o : Nat), o < 2097152 → (∀ x ∈ sh, x < 2097152) → obj (killL sh h) o = if o ∈ sh then some .dead else obj h o
  | [], _, _, _, _ => by simp [killL]
  | x :: r, h, o, ho, hs => by
    rw [killL, obj_kill r _ o ho (fun y hy => hs y (List.mem_cons_of_mem _ hy))]
    by_cases hr : o ∈ r
    · simp [hr]
    · by_cases hx : o = x
      · subst hx; simp [hr, obj_set]
      · simp [hr, hx, obj_set_ne h .dead (hs x (List.mem_cons_self ..)) ho hx]
theorem br_true {c : Bool} {a b : R} (h : br c a b = true) : (c = true ∧ a = true) ∨ (c = false ∧ b = true) := by
  cases c
  · exact .inr ⟨rfl, h⟩
  · exact .inl ⟨rfl, h⟩
theorem br_t {c : Bool} {a : R} (h : br c a false = true) : c = true ∧ a = true := by
  cases c
  · cases h
  · exact ⟨rfl, h⟩
theorem br_f {c : Bool} {b : R} (h : br c false b = true) : c = false ∧ b = true := by
  cases c
  · exact ⟨rfl, h⟩
  · cases h
theorem fnat_eq (n : Nat) (κ : Nat → R) : fnat n κ = κ n := by cases n <;> rfl
theorem fint_eq (n : Int) (κ : Int → R) : fint n κ = κ n := by
  cases n with
  | ofNat n => exact fnat_eq n fun m => κ (.ofNat m)
  | negSucc n => exact fnat_eq n fun m => κ (.negSucc m)
theorem fbool_eq (c : Bool) (κ : Bool → R) : fbool c κ = κ c := by cases c <;> rfl

section
variable {P : Program} {w0 w w' : World} {pd : List (Nat × AO)} {θ : Th} {h : H} {nx : Nat}
theorem HR.lt32 (hr : HR P w0 pd θ h nx w) {o : Nat} (ho : θ.has o) : o < 2097152 := Nat.lt_of_lt_of_le (hr.own o ho).1 hr.lim
theorem Fresh.set {h : H} {n n' o : Nat} {a : AO} (hf : Fresh h n) (hle : n ≤ n') (ho : o < n') (h32 : o < 2097152) : Fresh (setO h o a) n' := by
  intro p b hp hb
  by_cases e : p = o
  · rw [e]; exact ho
  · rw [obj_set_ne h a h32 hp e] at hb
    exact Nat.lt_of_lt_of_le (hf p b hp hb) hle
/-- only the tape goes on -/
theorem HR.same (hr : HR P w0 pd θ h nx w) (hh : w'.heap = w.heap) (hp : w'.os = w.os ∧ w'.tape = w.tape ∧ w'.output = w.output) : HR P w0 pd θ h nx w' where
  lim := hr.lim
  own o ho := by
    obtain ⟨a1, a2, a3, a, a4, a5, a6⟩ := hr.own o ho
    exact ⟨a1, a2, by rw [hh]; exact a3, a, a4, a5.mono (.refl θ) ho (by rw [hh]), a6⟩
  apart := hr.apart
  size := by rw [hh]; exact hr.size
  kept b hb hi := by rw [hh]; exact hr.kept b hb hi
  plain := ⟨hp.1.trans hr.plain.1, hp.2.1.trans hr.plain.2.1, hp.2.2.trans hr.plain.2.2⟩
  pend := hr.pend
  nodup := hr.nodup
  fresh := hr.fresh
  glo := hr.glo
/-- a new object in a new block -/
theorem HR.new (hr : HR P w0 pd θ h nx w) {ob : Obj} (hh : w'.heap = w.heap.push ob) (hp : w'.os = w.os ∧ w'.tape = w.tape ∧ w'.output = w.output) (hn : nx < 2097152)
    {a : AO} {bs sz es : Nat} (ha : OR P (θ.put nx w.heap.size bs sz es) w' nx a) (hsh : ∀ x ∈ a.sh, θ.has x) :
    HR P w0 pd (θ.put nx w.heap.size bs sz es) (setO h nx a) (nx + 1) w' ∧ θ.le (θ.put nx w.heap.size bs sz es) := by
  have hnx : ¬ θ.has nx := fun hx => Nat.lt_irrefl _ (hr.own nx hx).1
  have hle := Th.le_put hnx w.heap.size bs sz es
  have hold : ∀ b, b < w.heap.size → w'.heap[b]? = w.heap[b]? := fun b hb => by rw [hh, Array.getElem?_push_lt hb, Array.getElem?_eq_getElem hb]
  have hob : ∀ o, θ.has o → obj (setO h nx a) o = obj h o := fun o ho => obj_set_ne h a hn (hr.lt32 ho) (fun e => hnx (e ▸ ho))
  refine ⟨⟨by omega, ?_, ?_, ?_, ?_, ?_, ?_, hr.nodup, hr.fresh.set (by omega) (by omega) hn, hr.glo⟩, hle⟩
  · intro o ho
    by_cases e : o = nx
    · subst e
      exact ⟨by omega, .inl (by rw [Th.put_blk]; exact hr.size), by rw [Th.put_blk, hh]; simp, a, obj_set _ _ _, ha, fun x hx => hle.has x (hsh x hx)⟩
    · have ho' : θ.has o := ho.resolve_left e
      obtain ⟨a1, a2, a3, b, a4, a5, a6⟩ := hr.own o ho'
      refine ⟨by omega, by rw [hle.blk o ho']; exact a2, by rw [hle.blk o ho', hh]; simp; omega, b, by rw [hob o ho']; exact a4, a5.mono hle ho' (hold _ a3), fun x hx => hle.has x (a6 x hx)⟩
  · intro o o' b b' hne ho ho' hb hb' hw hl heq
    by_cases e : o = nx
    · subst e
      by_cases e' : o' = o
      · exact absurd e'.symm hne
      · have h' : θ.has o' := ho'.resolve_left e'
        rw [Th.put_blk, hle.blk o' h'] at heq
        have := (hr.own o' h').2.2.1
        omega
    · have h1 : θ.has o := ho.resolve_left e
      by_cases e' : o' = nx
      · subst e'
        rw [Th.put_blk, hle.blk o h1] at heq
        have := (hr.own o h1).2.2.1
        omega
      · have h2 : θ.has o' := ho'.resolve_left e'
        rw [hob o h1] at hb
        rw [hob o' h2] at hb'
        rw [hle.blk o h1, hle.blk o' h2] at heq
        have := hr.apart o o' b b' hne h1 h2 hb hb' hw hl heq
        refine ⟨this.1, ?_⟩
        have hx : ∀ (c : AO) (p : Nat), θ.has p → c.ext (θ.put nx w.heap.size bs sz es) p = c.ext θ p := fun c p hp => by cases c <;> simp only [AO.ext, hle.bas p hp]
        rw [hx b' o' h2, hx b o h1]; exact this.2
  · rw [hh]; simp; have := hr.size; omega
  · intro b hb hi; rw [hold b (Nat.lt_of_lt_of_le hb hr.size)]; exact hr.kept b hb hi
  · exact ⟨hp.1.trans hr.plain.1, hp.2.1.trans hr.plain.2.1, hp.2.2.trans hr.plain.2.2⟩
  · intro o b hb
    obtain ⟨p1, p2, p3⟩ := hr.pend o b hb
    exact ⟨fun hx => hx.elim (fun e => by omega) p1, by omega, by rw [obj_set_ne h a hn (Nat.lt_of_lt_of_le p2 hr.lim) (by omega)]; exact p3⟩
/-- an object changed, that may be written: what showed its cells is dead -/
theorem HR.upd (hr : HR P w0 pd θ h nx w) {o : Nat} {a a' : AO} (ho : θ.has o) (ha : obj h o = some a) (hw : a.wr = true) (hsz : w'.heap.size = w.heap.size)
    (hh : ∀ b, b ≠ θ.blk o → w'.heap[b]? = w.heap[b]?) (hp : w'.os = w.os ∧ w'.tape = w.tape ∧ w'.output = w.output) (ha' : OR P θ w' o a') (hs' : ∀ x ∈ a'.sh, θ.has x) :
    HR P w0 pd θ (killL a.sh (setO h o a')) nx w' := by
  have hsh : ∀ x ∈ a.sh, θ.has x := by
    obtain ⟨_, _, _, b, h1, _, h2⟩ := hr.own o ho
    rw [ha] at h1; injection h1 with h1; subst h1; exact h2
  have hob : ∀ p, p < 2097152 → obj (killL a.sh (setO h o a')) p = if p ∈ a.sh then some .dead else obj (setO h o a') p := fun p hp => obj_kill _ _ _ hp (fun x hx => hr.lt32 (hsh x hx))
  refine ⟨hr.lim, ?_, ?_, by rw [hsz]; exact hr.size, ?_, ⟨hp.1.trans hr.plain.1, hp.2.1.trans hr.plain.2.1, hp.2.2.trans hr.plain.2.2⟩, ?_, hr.nodup, fun p b hp hb => by
    rw [hob p hp] at hb
    split at hb
    · rename_i hm; exact (hr.own p (hsh p hm)).1
    · exact hr.fresh.set (Nat.le_refl _) (hr.own o ho).1 (hr.lt32 ho) p b hp hb, hr.glo⟩
  · intro p hpp
    obtain ⟨a1, a2, a3, b, a4, a5, a6⟩ := hr.own p hpp
    refine ⟨a1, a2, by rw [hsz]; exact a3, ?_⟩
    rw [hob p (hr.lt32 hpp)]
    by_cases hm : p ∈ a.sh
    · exact ⟨.dead, by simp [hm], trivial, fun x hx => by simp [AO.sh] at hx⟩
    · by_cases e : p = o
      · subst e
        exact ⟨a', by simp [hm, obj_set], ha', hs'⟩
      · rw [if_neg hm, obj_set_ne h a' (hr.lt32 ho) (hr.lt32 hpp) e]
        by_cases hb : θ.blk p = θ.blk o
        · cases hl : b.live with
          | true => exact absurd (hr.apart o p a b (fun e' => e e'.symm) ho hpp ha a4 hw hl hb.symm).1 hm
          | false =>
            cases b <;> simp [AO.live] at hl
            exact ⟨.dead, a4, trivial, fun x hx => by simp [AO.sh] at hx⟩
        · exact ⟨b, a4, a5.mono (.refl θ) hpp (hh _ hb), a6⟩
  · intro p q b b' hne h1 h2 hb hb' hbw hl heq
    have get : ∀ (r : Nat) (c : AO), θ.has r → obj (killL a.sh (setO h o a')) r = some c → c.live = true → r ∉ a.sh ∧ ((r = o ∧ c = a') ∨ (r ≠ o ∧ obj h r = some c)) := by
      intro r c hrr hc hcl
      rw [hob r (hr.lt32 hrr)] at hc
      by_cases hm : r ∈ a.sh
      · rw [if_pos hm] at hc; injection hc with hc; subst hc; simp [AO.live] at hcl
      · rw [if_neg hm] at hc
        refine ⟨hm, ?_⟩
        by_cases e : r = o
        · subst e; rw [obj_set] at hc; injection hc with hc; exact .inl ⟨rfl, hc.symm⟩
        · rw [obj_set_ne h a' (hr.lt32 ho) (hr.lt32 hrr) e] at hc; exact .inr ⟨e, hc⟩
    have hbl : b.live = true := by cases b <;> first | rfl | simp [AO.wr] at hbw
    obtain ⟨hm1, g1⟩ := get p b h1 hb hbl
    obtain ⟨hm2, g2⟩ := get q b' h2 hb' hl
    rcases g1 with ⟨rfl, rfl⟩ | ⟨e1, g1⟩
    · rcases g2 with ⟨rfl, rfl⟩ | ⟨e2, g2⟩
      · exact absurd rfl hne
      · exact absurd (hr.apart _ q a b' hne h1 h2 ha g2 hw hl heq).1 hm2
    · rcases g2 with ⟨rfl, rfl⟩ | ⟨e2, g2⟩
      · exact absurd (hr.apart _ p a b (fun e => hne e.symm) h2 h1 ha g1 hw hbl heq.symm).1 hm1
      · exact hr.apart p q b b' hne h1 h2 g1 g2 hbw hl heq
  · intro b hb hi
    have := (hr.own o ho).2.1
    rw [hh b (fun e => by subst e; exact this.elim (fun h => by omega) hi)]; exact hr.kept b hb hi
  · intro p b hb
    obtain ⟨p1, p2, p3⟩ := hr.pend p b hb
    refine ⟨p1, p2, ?_⟩
    rw [hob p (Nat.lt_of_lt_of_le p2 hr.lim), if_neg (fun hm => p1 (hsh p hm)), obj_set_ne h a' (hr.lt32 ho) (Nat.lt_of_lt_of_le p2 hr.lim) (fun e => p1 (e ▸ ho))]
    exact p3
end
end Go.AM
namespace Go.AM
open Go

/-! ### Lists and trees -/
theorem dropL_eq {α : Type} : ∀ (n : Nat) (l : List α), dropL α n l = l.drop n
  | 0, l => rfl
  | n + 1, [] => rfl
  | n + 1, _ :: r => dropL_eq n r
theorem takeK_eq {α : Type} : ∀ (n : Nat) (l : List α) (κ : List α → R), takeK α n l κ = if n ≤ l.length then κ (l.take n) else false
  | 0, l, κ => rfl
  | n + 1, [], κ => by simp [takeK]
  | n + 1, x :: r, κ => by
    show takeK α n r (fun l => κ (x :: l)) = _
    rw [takeK_eq n r]
    simp
theorem nthK_eq {α : Type} (κ : α → R) : ∀ (l : List α) (n : Nat), nthK α κ l n = match l[n]? with | some x => κ x | none => false
  | [], n => by simp [nthK]
  | x :: r, 0 => rfl
  | x :: r, n + 1 => by
    show nthK α κ r n = _
    rw [nthK_eq κ r n]
    simp
theorem lenN_eq {α : Type} : ∀ l : List α, lenN α l = l.length
  | [] => rfl
  | x :: r => congrArg Nat.succ (lenN_eq r)
theorem appK_eq {α : Type} (b : List α) : ∀ (a : List α) (κ : List α → R), appK α a b κ = κ (a ++ b)
  | [], _ => rfl
  | x :: r, κ => appK_eq b r fun l => κ (x :: l)
theorem ovrK_eq : ∀ (vs l : List AV) (κ : List AV → R), ovrK vs l κ = if vs.length ≤ l.length then κ (vs ++ l.drop vs.length) else false
  | [], l, κ => by simp [ovrK]
  | v :: vs, [], κ => by simp [ovrK]
  | v :: vs, x :: l, κ => by
    show ovrK vs l (fun l => κ (v :: l)) = _
    rw [ovrK_eq vs l]
    simp
theorem putLK_eq (vs : List AV) : ∀ (off : Nat) (l : List AV) (κ : List AV → R), putLK vs off l κ = if off + vs.length ≤ l.length then κ (l.take off ++ vs ++ l.drop (off + vs.length)) else false
  | 0, l, κ => by
    show ovrK vs l κ = _
    rw [ovrK_eq]
    simp
  | off + 1, [], κ => by
    show false = _
    rw [if_neg (by simp)]
  | off + 1, x :: l, κ => by
    show putLK vs off l (fun l => κ (x :: l)) = _
    rw [putLK_eq vs off l]
    have : off + 1 + vs.length = (off + vs.length) + 1 := by omega
    simp [this]
theorem cellK_eq (z : List AV) (zl d : Nat) (t : L (Option AV) d) (κ : AV → R) (i : Nat) : cellK z zl d t κ i = match cellO z zl d t i with | some v => κ v | none => false := by
  unfold cellK cellO
  rw [getK_eq]
  cases getL (Option AV) d i t with
  | some v => rfl
  | none =>
    refine (nthK_eq κ z (i % zl)).trans ?_
    cases z[i % zl]? <;> rfl
theorem cellsT_true {z : List AV} {zl d : Nat} {t : L (Option AV) d} : ∀ {n i : Nat} {κ : List AV → R}, cellsT z zl d t n i κ = true →
    ∃ vs, vs.length = n ∧ (∀ j v, vs[j]? = some v → cellO z zl d t (i + j) = some v) ∧ ∀ κ', cellsT z zl d t n i κ' = κ' vs
  | 0, i, κ, e => ⟨[], rfl, fun j v h => by simp at h, fun _ => rfl⟩
  | n + 1, i, κ, e => by
    have step : ∀ κ', cellsT z zl d t (n + 1) i κ' = cellK z zl d t (fun v => fnat (Nat.succ i) fun j => cellsT z zl d t n j fun vs => κ' (v :: vs)) i := fun _ => rfl
    rw [step, cellK_eq] at e
    cases hc : cellO z zl d t i with
    | none => rw [hc] at e; cases e
    | some v =>
      rw [hc] at e
      simp only [fnat_eq] at e
      obtain ⟨vs, h1, h2, h3⟩ := cellsT_true e
      refine ⟨v :: vs, by simp [h1], fun j u h => ?_, fun κ' => ?_⟩
      · cases j with
        | zero => simp at h; subst h; exact hc
        | succ j => have := h2 j u (by simpa using h); rwa [show i + (j + 1) = i.succ + j by omega]
      · rw [step, cellK_eq, hc]
        simp only [fnat_eq]
        exact h3 _
def setsF (d : Nat) : List AV → Nat → L (Option AV) d → L (Option AV) d
  | [], _, t => t
  | v :: vs, i, t => setsF d vs (i + 1) (setL (Option AV) (some v) d i t)
theorem setsT_eq (d : Nat) : ∀ (vs : List AV) (i : Nat) (t : L (Option AV) d) (κ : L (Option AV) d → R), setsT d vs i t κ = κ (setsF d vs i t)
  | [], _, _, _ => rfl
  | v :: vs, i, t, κ => by
    show setK (Option AV) (some v) d i t (fun t => fnat (Nat.succ i) fun j => setsT d vs j t κ) = _
    rw [setK_eq, fnat_eq, setsT_eq d vs]
    rfl
theorem getL_setsF (d : Nat) : ∀ (vs : List AV) (i : Nat) (t : L (Option AV) d) (j : Nat), i + vs.length ≤ 8 ^ d → j < 8 ^ d →
    getL (Option AV) d j (setsF d vs i t) = if i ≤ j ∧ j < i + vs.length then vs[j - i]? else getL (Option AV) d j t
  | [], i, t, j, _, _ => by simp [setsF]; omega
  | v :: vs, i, t, j, h, hj => by
    simp only [List.length_cons] at h
    rw [setsF, getL_setsF d vs (i + 1) _ j (by omega) hj]
    by_cases h1 : i = j
    · subst h1
      rw [if_neg (by omega), if_pos (by simp), getL_setL]
      simp
    · by_cases h2 : i + 1 ≤ j ∧ j < i + 1 + vs.length
      · rw [if_pos h2, if_pos (by simp; omega)]
        rw [show j - i = (j - (i + 1)) + 1 by omega]
        simp
      · rw [if_neg h2, if_neg (by simp; omega), getL_setL_ne _ _ _ (by omega) hj (by omega)]
theorem cellO_setsF {z : List AV} {zl d : Nat} {t : L (Option AV) d} {vs : List AV} {i j : Nat} (h : i + vs.length ≤ 8 ^ d) (hj : j < 8 ^ d) :
    cellO z zl d (setsF d vs i t) j = if i ≤ j ∧ j < i + vs.length then vs[j - i]? else cellO z zl d t j := by
  unfold cellO
  rw [getL_setsF d vs i t j h hj]
  by_cases h1 : i ≤ j ∧ j < i + vs.length
  · rw [if_pos h1, if_pos h1]
    have : j - i < vs.length := by omega
    simp [List.getElem?_eq_getElem this]
  · rw [if_neg h1, if_neg h1]
theorem toV_one {θ : Th} : ∀ {v : AV}, one v = true → (toV θ v).oneCell' = true
  | .i _ _, _ => rfl
  | .b _, _ => rfl
  | .p _ _, _ => rfl
  | .sl _ _ _ _, _ => rfl
  | .np, _ => rfl
  | .ns, _ => rfl
  | .s _, _ => rfl
  | .m _, _ => rfl
  | .nm, _ => rfl
  | .fn _ _, _ => rfl
  | .yl _, _ => rfl
  | .nf, _ => rfl
  | .ifc _ _, _ => rfl
  | .ni, _ => rfl
  | .l k N, _ => by show (lV k _).oneCell' = true; unfold lV; split <;> rfl
  | .q _ _ _, _ => rfl
  | .t _, _ => rfl
  | .f _ _, _ => rfl
  | .z _ _, _ => rfl
  | .x n, _ => θ.ext1 n
  | .xi n k r m, _ => by
      show (if k = 12 then tailV θ n r m else if 13 ≤ k then xoV (θ.ext n) θ.lane k r m else xiV (θ.ext n) k).oneCell' = true
      split
      · rfl
      split
      · unfold xoV
        split
        · rfl
        split
        · rfl
        split <;> rfl
      · unfold xiV
        split
        · exact θ.ext1 n
        · split <;> rfl
theorem toVs_get {θ : Th} {l : List AV} {j : Nat} : (toVs θ l)[j]? = (l[j]?).map (toV θ) := by rw [toVs_map]; simp
theorem toVs_one {θ : Th} {l : List AV} (h : l.all one = true) : ∀ u ∈ toVs θ l, u.oneCell' = true := by
  intro u hu
  rw [toVs_map] at hu
  obtain ⟨v, hv, rfl⟩ := List.mem_map.1 hu
  exact toV_one (by simpa using List.all_eq_true.1 h v hv)
theorem toVs_append {θ : Th} (a b : List AV) : toVs θ (a ++ b) = toVs θ a ++ toVs θ b := by simp [toVs_map]
theorem Oks_append {θ : Th} {a b : List AV} : Oks θ (a ++ b) ↔ Oks θ a ∧ Oks θ b := by
  simp only [Oks_iff, List.mem_append]
  exact ⟨fun h => ⟨fun v hv => h v (.inl hv), fun v hv => h v (.inr hv)⟩, fun h v hv => hv.elim (h.1 v) (h.2 v)⟩
theorem Oks_take {θ : Th} {a : List AV} (n : Nat) (h : Oks θ a) : Oks θ (a.take n) := Oks_iff.2 fun v hv => Oks_iff.1 h v (List.mem_of_mem_take hv)
theorem Oks_drop {θ : Th} {a : List AV} (n : Nat) (h : Oks θ a) : Oks θ (a.drop n) := Oks_iff.2 fun v hv => Oks_iff.1 h v (List.mem_of_mem_drop hv)
theorem all_take {α : Type} {p : α → Bool} {l : List α} (n : Nat) (h : l.all p = true) : (l.take n).all p = true := List.all_eq_true.2 fun v hv => List.all_eq_true.1 h v (List.mem_of_mem_take hv)
theorem all_drop {α : Type} {p : α → Bool} {l : List α} (n : Nat) (h : l.all p = true) : (l.drop n).all p = true := List.all_eq_true.2 fun v hv => List.all_eq_true.1 h v (List.mem_of_mem_drop hv)

/-! ### Cells of a block set -/
theorem setCells_blk (b : Nat) (ty : TypeId) (fz : Nat × Nat) : ∀ (vs : List Value) (o : Nat) (w : World) (cur : Array Value), w.heap[b]? = some (.cells cur ty fz) → o + vs.length ≤ cur.size →
    ∃ cur', (w.setCells b o vs).heap[b]? = some (.cells cur' ty fz) ∧ cur'.size = cur.size ∧ ∀ i, cur'[i]? = if o ≤ i ∧ i < o + vs.length then vs[i - o]? else cur[i]?
  | [], o, w, cur, h, _ => ⟨cur, h, rfl, fun i => by rw [if_neg (by simp)]⟩
  | v :: r, o, w, cur, h, hl => by
    have hb : b < w.heap.size := (Array.getElem?_eq_some_iff.1 h).1
    have h1 : (w.setCell ⟨b, o, none⟩ v).heap[b]? = some (.cells (cur.setIfInBounds o v) ty fz) := by
      simp [World.setCell, Array.getElem?_modify, h]
    simp only [List.length_cons] at hl
    obtain ⟨cur', h2, h3, h4⟩ := setCells_blk b ty fz r (o + 1) _ _ h1 (by simp; omega)
    refine ⟨cur', h2, by simpa using h3, fun i => ?_⟩
    rw [h4 i]
    simp only [List.length_cons]
    by_cases e : i = o
    · subst e
      rw [if_neg (by omega), if_pos (by omega), Array.getElem?_setIfInBounds_self_of_lt (by omega)]
      simp
    · by_cases e2 : o + 1 ≤ i ∧ i < o + 1 + r.length
      · rw [if_pos e2, if_pos (by omega), show i - o = (i - (o + 1)) + 1 by omega]; simp
      · rw [if_neg e2, if_neg (by omega), Array.getElem?_setIfInBounds_ne (Ne.symm e)]
theorem setCells_other (b : Nat) : ∀ (vs : List Value) (o : Nat) (w : World) (k : Nat), k ≠ b → (w.setCells b o vs).heap[k]? = w.heap[k]?
  | [], _, _, _, _ => rfl
  | v :: r, o, w, k, hk => by
    rw [World.setCells, setCells_other b r (o + 1) _ k hk]
    exact heap_setCell_other w ⟨b, o, none⟩ k v hk
theorem setCells_plain (b : Nat) : ∀ (vs : List Value) (o : Nat) (w : World), ((w.setCells b o vs).os = w.os ∧ (w.setCells b o vs).tape = w.tape ∧ (w.setCells b o vs).output = w.output) ∧ (w.setCells b o vs).heap.size = w.heap.size
  | [], _, _ => ⟨⟨rfl, rfl, rfl⟩, rfl⟩
  | v :: r, o, w => by
    obtain ⟨⟨h1, h2, h3⟩, h4⟩ := setCells_plain b r (o + 1) (w.setCell ⟨b, o, none⟩ v)
    exact ⟨⟨h1, h2, h3⟩, by rw [World.setCells, h4]; simp [World.setCell]⟩

/-- more objects -/
def Ext (h h' : H) : Prop := ∀ o a, obj h o = some a → obj h' o = some a
theorem Ext.refl (h : H) : Ext h h := fun _ _ e => e
theorem get_is {o : Nat} {h : H} {a : AO} (ha : obj h o = some a) (κ : AO → R) : get o h κ = κ a := by
  rw [get_def, getK_eq]
  show opt AO κ (obj h o) = κ a
  rw [ha]
  rfl

section
variable {P : Program} {w0 w w' : World} {pd : List (Nat × AO)} {θ : Th} {h : H} {nx : Nat}
theorem HR.obj_ (hr : HR P w0 pd θ h nx w) {o : Nat} {a : AO} (ho : θ.has o) (ha : obj h o = some a) : OR P θ w o a := by
  obtain ⟨_, _, _, b, h1, h2, _⟩ := hr.own o ho
  rw [ha] at h1; injection h1 with h1; subst h1; exact h2
/-- n cells read -/
theorem rd_ok (hr : HR P w0 pd θ h nx w) {o off n : Nat} {κ : List AV → R} (ho : θ.has o) (e : rdK o off n h κ = true) :
    ∃ vs, vs.length = n ∧ (∀ h', Ext h h' → ∀ κ', rdK o off n h' κ' = κ' vs) ∧ κ vs = true ∧ Oks θ vs ∧ vs.all one = true ∧
      ∀ j v, (toVs θ vs)[j]? = some v → w.cell? ⟨θ.blk o, θ.bas o + off + j, none⟩ = some v := by
  obtain ⟨a, ha, e1⟩ := get_true e
  have hor := hr.obj_ ho ha
  cases a with
  | sm l =>
    obtain ⟨ty, h1, h2, h3, h4⟩ := hor
    simp only [dropL_eq, takeK_eq, List.length_drop] at e1
    split at e1
    · rename_i hn
      refine ⟨(l.drop off).take n, by simp; omega, fun h' hx κ' => ?_, e1, Oks_take n (Oks_drop off h3), all_take n (all_drop off h4), fun j v hj => ?_⟩
      · unfold rdK
        rw [get_is (hx o _ ha)]
        simp only [dropL_eq, takeK_eq, List.length_drop]
        rw [if_pos hn]
      · rw [cell_of_row w _ _ _ _ _ h1, h2]
        rw [toVs_get, List.getElem?_take] at hj
        split at hj
        · rw [List.getElem?_drop] at hj
          simp [toVs_get, hj]
        · simp at hj
    · cases e1
  | st t0 l =>
    obtain ⟨h1, h2, h3, h4⟩ := hor
    simp only [dropL_eq, takeK_eq, List.length_drop] at e1
    split at e1
    · rename_i hn
      refine ⟨(l.drop off).take n, by simp; omega, fun h' hx κ' => ?_, e1, Oks_take n (Oks_drop off h3), all_take n (all_drop off h4), fun j v hj => ?_⟩
      · unfold rdK
        rw [get_is (hx o _ ha)]
        simp only [dropL_eq, takeK_eq, List.length_drop]
        rw [if_pos hn]
      · rw [cell_of_row w _ _ _ _ _ h1, h2]
        rw [toVs_get, List.getElem?_take] at hj
        split at hj
        · rw [List.getElem?_drop] at hj
          simp [toVs_get, hj]
        · simp at hj
    · cases e1
  | bt t0 l => cases e1
  | ce N es z zl d t top sh =>
    obtain ⟨c, ty, fz, h1, h2, h3, h4, h5, h6⟩ := hor
    obtain ⟨hle, e2⟩ := br_t e1
    have hle : off + n ≤ N := Nat.le_of_ble_eq_true hle
    obtain ⟨vs, k1, k2, k3⟩ := cellsT_true e2
    have kk : ∀ j v, vs[j]? = some v → Ok θ v ∧ one v = true ∧ c[θ.bas o + off + j]? = some (toV θ v) := by
      intro j v hj
      have hjl : j < n := by rw [← k1]; exact (List.getElem?_eq_some_iff.1 hj).1
      obtain ⟨u, q1, q2, q3, q4⟩ := h3 (off + j) (by omega)
      rw [k2 j v hj] at q1; injection q1 with q1; subst q1
      exact ⟨q2, q3, by rw [← q4, Nat.add_assoc]⟩
    refine ⟨vs, k1, fun h' hx κ' => ?_, by rw [k3] at e2; exact e2, Oks_iff.2 fun v hv => ?_, List.all_eq_true.2 fun v hv => ?_, fun j v hj => ?_⟩
    · unfold rdK
      rw [get_is (hx o _ ha)]
      show br (Nat.ble (off + n) N) _ false = _
      rw [Nat.ble_eq_true_of_le hle]
      exact k3 κ'
    · obtain ⟨j, hj⟩ := List.getElem?_of_mem hv
      exact (kk j v hj).1
    · obtain ⟨j, hj⟩ := List.getElem?_of_mem hv
      exact (kk j v hj).2.1
    · rw [toVs_get] at hj
      cases hv : vs[j]? with
      | none => rw [hv] at hj; cases hj
      | some u =>
        rw [hv] at hj; injection hj with hj; subst hj
        rw [cell_of_row w _ _ _ _ _ h1]; exact (kk j u hv).2.2
  | mp es c => cases e1
  | it m s1 s2 s3 => cases e1
  | lp a b c d e f => cases e1
  | df b => cases e1
  | dead => cases e1
/-- one cell read -/
theorem rd1_ok (hr : HR P w0 pd θ h nx w) {o off : Nat} {κ : AV → R} (ho : θ.has o) (e : rd1 o off h κ = true) :
    ∃ v, (∀ h', Ext h h' → ∀ κ', rd1 o off h' κ' = κ' v) ∧ κ v = true ∧ Ok θ v ∧ one v = true ∧ w.cell? ⟨θ.blk o, θ.bas o + off, none⟩ = some (toV θ v) := by
  obtain ⟨a, ha, e1⟩ := get_true e
  have hor := hr.obj_ ho ha
  cases a with
  | sm l =>
    obtain ⟨ty, h1, h2, h3, h4⟩ := hor
    simp only [nthK_eq] at e1
    cases hl : l[off]? with
    | none => rw [hl] at e1; cases e1
    | some v =>
      rw [hl] at e1
      have hm := List.mem_of_getElem? hl
      refine ⟨v, fun h' hx κ' => ?_, e1, Oks_iff.1 h3 v hm, List.all_eq_true.1 h4 v hm, ?_⟩
      · unfold rd1
        rw [get_is (hx o _ ha)]
        simp only [nthK_eq, hl]
      · rw [cell_of_row w _ _ _ _ _ h1, h2]; simp [toVs_get, hl]
  | st t0 l =>
    obtain ⟨h1, h2, h3, h4⟩ := hor
    simp only [nthK_eq] at e1
    cases hl : l[off]? with
    | none => rw [hl] at e1; cases e1
    | some v =>
      rw [hl] at e1
      have hm := List.mem_of_getElem? hl
      refine ⟨v, fun h' hx κ' => ?_, e1, Oks_iff.1 h3 v hm, List.all_eq_true.1 h4 v hm, ?_⟩
      · unfold rd1
        rw [get_is (hx o _ ha)]
        simp only [nthK_eq, hl]
      · rw [cell_of_row w _ _ _ _ _ h1, h2]; simp [toVs_get, hl]
  | bt t0 l => cases e1
  | ce N es z zl d t top sh =>
    obtain ⟨c, ty, fz, h1, h2, h3, h4, h5, h6⟩ := hor
    obtain ⟨hlt, e2⟩ := br_t e1
    have hlt : off < N := by simpa [Nat.blt_eq] using hlt
    obtain ⟨v, q1, q2, q3, q4⟩ := h3 off hlt
    rw [cellK_eq, q1] at e2
    refine ⟨v, fun h' hx κ' => ?_, e2, q2, q3, by rw [cell_of_row w _ _ _ _ _ h1]; exact q4⟩
    unfold rd1
    rw [get_is (hx o _ ha)]
    show br (Nat.blt off N) _ false = _
    rw [show Nat.blt off N = true by simpa [Nat.blt_eq] using hlt]
    show cellK z zl d t κ' off = _
    rw [cellK_eq, q1]
  | mp es c => cases e1
  | it m s1 s2 s3 => cases e1
  | lp a b c d e f => cases e1
  | df b => cases e1
  | dead => cases e1
theorem setL_same {α : Type} (x : α) : ∀ (n i : Nat) (t : L α n), getL α n i t = x → i < 8 ^ n → setL α x n i t = t
  | 0, _, _, h, _ => h.symm
  | n + 1, i, t, h, hi => by
    have hp : 0 < 8 ^ n := Nat.pow_pos (by omega)
    rw [Nat.pow_succ] at hi
    have hd : i / 8 ^ n < 8 := Nat.div_lt_of_lt_mul (by omega)
    have ih := setL_same x n (i % 8 ^ n) (ch (i / 8 ^ n) (t : N8 (L α n))) h (Nat.mod_lt _ hp)
    show sch (i / 8 ^ n) (setL α x n (i % 8 ^ n) (ch (i / 8 ^ n) (t : N8 (L α n)))) (t : N8 (L α n)) = t
    rw [ih]
    have key : ∀ (d : Nat) (t : N8 (L α n)), d < 8 → sch d (ch d t) t = t := by
      intro d t hd
      cases t
      rcases d with _ | _ | _ | _ | _ | _ | _ | _ | d <;> first | rfl | omega
    exact key _ _ hd
/-- the cells that a store wants are there, and may be written -/
def Fit (w : World) (b o n : Nat) : Prop := ∃ cur ty fz, w.heap[b]? = some (.cells cur ty fz) ∧ o + n ≤ cur.size ∧ ∀ i, i < cur.size → (fz.1 ≤ i && i < fz.2) = false
theorem Fit.store {b o : Nat} {vs : List Value} (hf : Fit w b o vs.length) (h1 : ∀ v ∈ vs, v.oneCell' = true) (P : Program) :
    (storeCells ⟨b, o, none⟩ vs 0).run P w = .ok () (w.setCells b o vs) := by
  obtain ⟨cur, ty, fz, e1, e2, e3⟩ := hf
  have := run_storeCells_cells (P := P) b o vs 0 w (fun j hj => by rw [cell_of_row w _ _ _ _ _ e1, Array.getElem?_eq_getElem (by omega)]; rfl)
    (fun j hj => by simp only [World.frozen?, e1]; exact e3 _ (by omega)) h1
  simpa using this
/-- cells written -/
theorem wr_ok (hr : HR P w0 pd θ h nx w) {o off : Nat} {vs : List AV} {κ : H → R} (ho : θ.has o) (hv : Oks θ vs) (hv1 : vs.all one = true) (e : wrK o off vs h κ = true) :
    ∃ h', κ h' = true ∧ HR P w0 pd θ h' nx (w.setCells (θ.blk o) (θ.bas o + off) (toVs θ vs)) ∧ Fit w (θ.blk o) (θ.bas o + off) (toVs θ vs).length := by
  obtain ⟨a, ha, e1⟩ := get_true e
  have hor := hr.obj_ ho ha
  cases a with
  | sm l =>
    obtain ⟨ty, h1, h2, h3, h4⟩ := hor
    simp only [putLK_eq, put_eq] at e1
    split at e1
    · rename_i hn
      have hsz : θ.bas o + off + (toVs θ vs).length ≤ (toVs θ l).toArray.size := by rw [h2]; simp; omega
      obtain ⟨cur', k1, k2, k3⟩ := setCells_blk (θ.blk o) ty (0, 0) (toVs θ vs) (θ.bas o + off) w _ h1 hsz
      refine ⟨_, e1, ?_, ⟨_, _, _, h1, hsz, fun i _ => by simp⟩⟩
      have hcur : cur' = (toVs θ (l.take off ++ vs ++ l.drop (off + vs.length))).toArray := by
        apply Array.ext_getElem?
        intro i
        rw [k3 i, h2]
        simp only [Nat.zero_add, toVs_length, List.getElem?_toArray]
        rw [toVs_get, toVs_get, toVs_get]
        have hto : (l.take off).length = off := by simp; omega
        by_cases c1 : off ≤ i ∧ i < off + vs.length
        · rw [if_pos c1, List.append_assoc, List.getElem?_append_right (by omega), hto, List.getElem?_append_left (by omega)]
        · rw [if_neg c1]
          by_cases c2 : i < off
          · rw [List.append_assoc, List.getElem?_append_left (by omega), List.getElem?_take_of_lt c2]
          · rw [List.append_assoc, List.getElem?_append_right (by omega), hto, List.getElem?_append_right (by omega), List.getElem?_drop]
            congr 2
            omega
      have hup := HR.upd hr ho ha rfl (w' := w.setCells (θ.blk o) (θ.bas o + off) (toVs θ vs)) (a' := .sm (l.take off ++ vs ++ l.drop (off + vs.length))) (setCells_plain _ _ _ _).2 (fun b hb => setCells_other _ _ _ _ b hb) (setCells_plain _ _ _ _).1
        ⟨ty, by rw [k1, hcur], h2, Oks_append.2 ⟨Oks_append.2 ⟨Oks_take _ h3, hv⟩, Oks_drop _ h3⟩, by simp only [List.all_append, all_take _ h4, hv1, all_drop _ h4, Bool.and_self]⟩ (fun x hx => by cases hx)
      exact hup
    · cases e1
  | st t0 l =>
    obtain ⟨h1, h2, h3, h4⟩ := hor
    simp only [putLK_eq, put_eq] at e1
    split at e1
    · rename_i hn
      have hsz : θ.bas o + off + (toVs θ vs).length ≤ (toVs θ l).toArray.size := by rw [h2]; simp; omega
      obtain ⟨cur', k1, k2, k3⟩ := setCells_blk (θ.blk o) t0 (0, 0) (toVs θ vs) (θ.bas o + off) w _ h1 hsz
      refine ⟨_, e1, ?_, ⟨_, _, _, h1, hsz, fun i _ => by simp⟩⟩
      have hcur : cur' = (toVs θ (l.take off ++ vs ++ l.drop (off + vs.length))).toArray := by
        apply Array.ext_getElem?
        intro i
        rw [k3 i, h2]
        simp only [Nat.zero_add, toVs_length, List.getElem?_toArray]
        rw [toVs_get, toVs_get, toVs_get]
        have hto : (l.take off).length = off := by simp; omega
        by_cases c1 : off ≤ i ∧ i < off + vs.length
        · rw [if_pos c1, List.append_assoc, List.getElem?_append_right (by omega), hto, List.getElem?_append_left (by omega)]
        · rw [if_neg c1]
          by_cases c2 : i < off
          · rw [List.append_assoc, List.getElem?_append_left (by omega), List.getElem?_take_of_lt c2]
          · rw [List.append_assoc, List.getElem?_append_right (by omega), hto, List.getElem?_append_right (by omega), List.getElem?_drop]
            congr 2
            omega
      have hup := HR.upd hr ho ha rfl (w' := w.setCells (θ.blk o) (θ.bas o + off) (toVs θ vs)) (a' := .st t0 (l.take off ++ vs ++ l.drop (off + vs.length))) (setCells_plain _ _ _ _).2 (fun b hb => setCells_other _ _ _ _ b hb) (setCells_plain _ _ _ _).1
        ⟨by rw [k1, hcur], h2, Oks_append.2 ⟨Oks_append.2 ⟨Oks_take _ h3, hv⟩, Oks_drop _ h3⟩, by simp only [List.all_append, all_take _ h4, hv1, all_drop _ h4, Bool.and_self]⟩ (fun x hx => by cases hx)
      exact hup
    · cases e1
  | bt t0 l => cases e1
  | ce N es z zl d t top sh =>
    obtain ⟨c, ty, fz, h1, h2, h3, h4, h5, h6⟩ := hor
    obtain ⟨htop, e1⟩ := br_t e1
    obtain ⟨hle, e1⟩ := br_t e1
    have hle : off + vs.length ≤ N := by have := Nat.le_of_ble_eq_true hle; rwa [lenN_eq] at this
    rw [setsT_eq, put_eq, killK_eq] at e1
    have hsz : N = 0 ∨ θ.bas o + N ≤ c.size := by
      cases N with
      | zero => exact .inl rfl
      | succ m =>
        obtain ⟨v, _, _, _, q⟩ := h3 m (by omega)
        have := (Array.getElem?_eq_some_iff.1 q).1
        exact .inr (by omega)
    have hbs : θ.bas o + off + (toVs θ vs).length ≤ c.size := by
      rw [toVs_length]
      rcases hsz with hz | hz
      · subst hz
        have h0 : off = 0 ∧ vs.length = 0 := by omega
        rcases Nat.eq_zero_or_pos es with hes | hes
        · have := (h5 hes).1; omega
        · have := (h6 (by omega)).2.2; omega
      · omega
    obtain ⟨cur', k1, k2, k3⟩ := setCells_blk (θ.blk o) ty fz (toVs θ vs) (θ.bas o + off) w _ h1 hbs
    refine ⟨_, e1, ?_, ⟨_, _, _, h1, hbs, h4.free⟩⟩
    have hx := HR.upd hr ho ha htop (w' := w.setCells (θ.blk o) (θ.bas o + off) (toVs θ vs)) (a' := .ce N es z zl d (setsF d vs off t) true []) (setCells_plain _ _ _ _).2 (fun b hb => setCells_other _ _ _ _ b hb) (setCells_plain _ _ _ _).1
      ⟨cur', ty, fz, k1, h2, fun i hi => ?_, by rw [k2]; exact h4, by rw [k2]; exact h5, by rw [k2]; exact h6⟩ (fun x hx => by cases hx)
    · exact hx
    · rw [cellO_setsF (by omega) (by omega), k3]
      by_cases c1 : off ≤ i ∧ i < off + vs.length
      · rw [if_pos c1, if_pos (by rw [toVs_length]; omega), show θ.bas o + i - (θ.bas o + off) = i - off by omega, toVs_get]
        have hl : i - off < vs.length := by omega
        refine ⟨vs[i - off], List.getElem?_eq_getElem hl, Oks_iff.1 hv _ (List.getElem_mem hl), List.all_eq_true.1 hv1 _ (List.getElem_mem hl), by rw [List.getElem?_eq_getElem hl]; rfl⟩
      · rw [if_neg c1, if_neg (by rw [toVs_length]; omega)]
        exact h3 i hi
  | mp es c => cases e1
  | it m s1 s2 s3 => cases e1
  | lp a b c d e f => cases e1
  | df b => cases e1
  | dead => cases e1
end
end Go.AM
namespace Go.AM
open Go

/-! ### What a value is taken for -/
theorem asK_true {k : Nat} {κ : Int → R} {v : AV} (e : asK k κ v = true) : ∃ n, v = .i k n ∧ κ n = true := by
  cases v <;> first | (cases e; done) | skip
  rename_i k' n
  obtain ⟨h1, h2⟩ := br_t e
  have := Nat.eq_of_beq_eq_true h1
  subst this
  exact ⟨n, rfl, h2⟩
theorem asK_i (k : Nat) (κ : Int → R) (n : Int) : asK k κ (.i k n) = κ n := by
  show br (Nat.beq k k) (κ n) false = _
  rw [Nat.beq_refl]; rfl
theorem asI_true {κ : Nat → Int → R} {v : AV} (e : asI κ v = true) : ∃ k n, v = .i k n ∧ κ k n = true := by
  cases v <;> first | (cases e; done) | skip
  exact ⟨_, _, rfl, e⟩
theorem asN_true {κ : Nat → R} {v : AV} (e : asN κ v = true) : ∃ k n, v = .i k (.ofNat n) ∧ κ n = true := by
  cases v <;> first | (cases e; done) | skip
  rename_i k n
  cases n with
  | ofNat n => exact ⟨k, n, rfl, e⟩
  | negSucc n => cases e
theorem asB_true {κ : Bool → R} {v : AV} (e : asB κ v = true) : ∃ c, v = .b c ∧ κ c = true := by
  cases v <;> first | (cases e; done) | skip
  exact ⟨_, rfl, e⟩
theorem asP_true {κ : Nat → Nat → R} {v : AV} (e : asP κ v = true) : ∃ o i, v = .p o i ∧ κ o i = true := by
  cases v <;> first | (cases e; done) | skip
  exact ⟨_, _, rfl, e⟩
theorem asS_true {κ : List Nat → R} {v : AV} (e : asS κ v = true) : ∃ l, v = .s l ∧ κ l = true := by
  cases v <;> first | (cases e; done) | skip
  exact ⟨_, rfl, e⟩
theorem asM_true {κ : Nat → R} {v : AV} (e : asM κ v = true) : ∃ o, v = .m o ∧ κ o = true := by
  cases v <;> first | (cases e; done) | skip
  exact ⟨_, rfl, e⟩
theorem asTu_true {κ : List AV → R} {v : AV} (e : asTu κ v = true) : ∃ l, v = .tu l ∧ κ l = true := by
  cases v <;> first | (cases e; done) | skip
  exact ⟨_, rfl, e⟩
theorem asAg_true {κ : List AV → R} {v : AV} (e : asAg κ v = true) : ∃ l, v = .ag l ∧ κ l = true := by
  cases v <;> first | (cases e; done) | skip
  exact ⟨_, rfl, e⟩
theorem asSl_true {κ : Nat → Nat → Nat → Option Nat → R} {v : AV} (e : asSl κ v = true) : ∃ o off len cap, v = .sl o off len cap ∧ κ o off len cap = true := by
  cases v <;> first | (cases e; done) | skip
  exact ⟨_, _, _, _, rfl, e⟩
/-- the cells of a value -/
def cellsV : AV → List AV
  | .ag l => l
  | v => [v]
theorem cells_one {u : Value} (h : u.oneCell' = true) : u.cells.toList = [u] := by
  cases u <;> first | rfl | cases h
theorem cellsK_true {κ : List AV → R} {v : AV} (e : cellsK κ v = true) : (∀ κ', cellsK κ' v = κ' (cellsV v)) ∧ κ (cellsV v) = true ∧
    ∀ {θ : Th} {u : Value}, VR θ v u → Oks θ (cellsV v) ∧ (cellsV v).all one = true ∧ u.cells.toList = toVs θ (cellsV v) := by
  cases v <;> first
    | (cases e; done)
    | exact ⟨fun _ => rfl, e, fun {θ u} h => ⟨⟨h.1, trivial⟩, rfl, by rw [h.2]; rfl⟩⟩
    | exact ⟨fun _ => rfl, e, fun {θ u} h => ⟨⟨h.1, trivial⟩, rfl, by rw [h.2]; exact cells_one (θ.ext1 _)⟩⟩
    | exact ⟨fun _ => rfl, e, fun {θ u} h => ⟨⟨h.1, trivial⟩, rfl, by rw [h.2]; exact cells_one (toV_one rfl)⟩⟩
    | exact ⟨fun _ => rfl, e, fun {θ u} h => ⟨h.1.1, h.1.2, by rw [h.2]; simp [toV, Value.cells, cellsV]⟩⟩
section
variable {θ : Th} {u : Value}
theorem VR.i {k : Nat} {n : Int} (h : VR θ (.i k n) u) : u = .int (kindOf k) n := h.2
theorem VR.b {c : Bool} (h : VR θ (.b c) u) : u = .bool c := h.2
theorem VR.p {o i : Nat} (h : VR θ (.p o i) u) : u = .pointer (some ⟨θ.blk o, θ.bas o + i, none⟩) ∧ θ.has o := ⟨h.2, h.1⟩
theorem VR.s {l : List Nat} (h : VR θ (.s l) u) : u = .string (bytesOf l) ∧ ∀ x ∈ l, x < 256 := ⟨h.2, h.1⟩
theorem VR.m {o : Nat} (h : VR θ (.m o) u) : u = .map (some (θ.blk o)) ∧ θ.has o := ⟨h.2, h.1⟩
theorem VR.ag {l : List AV} (h : VR θ (.ag l) u) : u = .agg (toVs θ l).toArray ∧ Oks θ l ∧ l.all one = true := ⟨h.2, h.1⟩
theorem VR.tu {l : List AV} (h : VR θ (.tu l) u) : u = .tuple (toVs θ l).toArray ∧ Oks θ l := ⟨h.2, h.1⟩
theorem VR.sls {o off len c : Nat} (h : VR θ (.sl o off len (some c)) u) : u = .slice (some ⟨θ.blk o, θ.bas o + off, none⟩) len c ∧ θ.has o := ⟨h.2, h.1⟩
theorem VR.sln {o off len : Nat} (h : VR θ (.sl o off len none) u) : u = .slice (some ⟨θ.blk o, θ.bas o + off, none⟩) len ((θ.siz o - off) / θ.esz o) ∧ θ.has o := ⟨h.2, h.1⟩
theorem VR.sl {o off len : Nat} {cap : Option Nat} (h : VR θ (.sl o off len cap) u) : θ.has o ∧ ∃ c, u = .slice (some ⟨θ.blk o, θ.bas o + off, none⟩) len c := by
  cases cap with
  | some c => exact ⟨h.1, c, h.2⟩
  | none => exact ⟨h.1, _, h.2⟩
theorem vr_i (θ : Th) (k : Nat) (n : Int) : VR θ (.i k n) (.int (kindOf k) n) := ⟨trivial, rfl⟩
theorem vr_b (θ : Th) (c : Bool) : VR θ (.b c) (.bool c) := ⟨trivial, rfl⟩
end

/-! ### Operands -/
theorem kind_kn (k : IntKind) : kindOf (kn k) = k := by cases k <;> rfl
theorem omap_some {α β : Type} {f : α → Option β} : ∀ {l : List α} {r : List β}, omap f l = some r → l.length = r.length ∧ ∀ (i : Nat) (x : α), l[i]? = some x → ∃ y, r[i]? = some y ∧ f x = some y
  | [], r, h => by cases h; exact ⟨rfl, fun i x h => by simp at h⟩
  | x :: l, r, h => by
    unfold omap at h
    split at h
    · rename_i y s hy hs
      injection h with h; subst h
      obtain ⟨h1, h2⟩ := omap_some hs
      refine ⟨by simp [h1], fun i z hz => ?_⟩
      cases i with
      | zero => simp at hz; subst hz; exact ⟨y, rfl, hy⟩
      | succ i => exact h2 i z (by simpa using hz)
    · cases h
theorem omap_map {α β γ : Type} {f : α → Option β} {g : β → γ} {k : α → γ} {l : List α} {r : List β} (h : omap f l = some r) (hg : ∀ x y, x ∈ l → f x = some y → g y = k x) : r.map g = l.map k := by
  obtain ⟨h1, h2⟩ := omap_some h
  apply List.ext_getElem?
  intro i
  simp only [List.getElem?_map]
  cases hl : l[i]? with
  | none =>
    have : r[i]? = none := by
      rw [List.getElem?_eq_none_iff] at hl ⊢; omega
    rw [this]; rfl
  | some x =>
    obtain ⟨y, hy, hf⟩ := h2 i x hl
    rw [hy]
    simp [hg x y (List.mem_of_getElem? hl) hf]
theorem bytesOf_toNat (s : ByteArray) : bytesOf (s.data.toList.map (·.toNat)) = s := by
  unfold bytesOf
  rw [List.map_map]
  have : (UInt8.ofNat ∘ fun x : UInt8 => x.toNat) = id := by funext x; simp
  rw [this]; simp
theorem ofV_ok (θ : Th) : ∀ {n : Nat} {v : Value} {x : AV}, ofV n v = some x → VR θ x v
  | 0, _, _, h => by simp [ofV] at h
  | n + 1, v, x, h => by
    unfold ofV at h
    split at h
    · injection h with h; subst h; exact ⟨trivial, rfl⟩
    · injection h with h; subst h; exact ⟨trivial, by simp [toV, kind_kn]⟩
    · injection h with h; subst h
      refine ⟨fun x hx => ?_, by simp [toV, bytesOf_toNat]⟩
      obtain ⟨y, _, rfl⟩ := List.mem_map.1 hx
      exact y.toNat_lt
    · injection h with h; subst h; exact ⟨trivial, rfl⟩
    · injection h with h; subst h; exact ⟨trivial, rfl⟩
    · injection h with h; subst h; exact ⟨trivial, rfl⟩
    · injection h with h; subst h; exact ⟨trivial, rfl⟩
    · injection h with h; subst h; exact ⟨trivial, rfl⟩
    · rename_i t v
      cases hv : ofV n v with
      | none => rw [hv] at h; cases h
      | some y =>
        rw [hv] at h; injection h with h; subst h
        have := ofV_ok θ hv
        exact ⟨this.1, by rw [this.2]; rfl⟩
    · rename_i cs
      split at h
      · rename_i l hl
        split at h
        · rename_i h1
          injection h with h; subst h
          refine ⟨⟨Oks_iff.2 fun y hy => ?_, h1⟩, ?_⟩
          · obtain ⟨i, hi⟩ := List.getElem?_of_mem hy
            obtain ⟨k1, k2⟩ := omap_some hl
            have hlt : i < cs.toList.length := by rw [k1]; exact (List.getElem?_eq_some_iff.1 hi).1
            obtain ⟨z, q1, q2⟩ := k2 i _ (List.getElem?_eq_getElem hlt)
            rw [hi] at q1; injection q1 with q1; subst q1
            exact (ofV_ok θ q2).1
          · have := omap_map (g := toV θ) (k := id) hl (fun x y _ hf => (ofV_ok θ hf).2.symm)
            simp only [toV, toVs_map, this, List.map_id, Array.toArray_toList]
        · cases h
      · cases h
    · rename_i cs
      cases hl : omap (ofV n) cs.toList with
      | none => rw [hl] at h; cases h
      | some l =>
        rw [hl] at h; injection h with h; subst h
        refine ⟨Oks_iff.2 fun y hy => ?_, ?_⟩
        · obtain ⟨i, hi⟩ := List.getElem?_of_mem hy
          obtain ⟨k1, k2⟩ := omap_some hl
          have hlt : i < cs.toList.length := by rw [k1]; exact (List.getElem?_eq_some_iff.1 hi).1
          obtain ⟨z, q1, q2⟩ := k2 i _ (List.getElem?_eq_getElem hlt)
          rw [hi] at q1; injection q1 with q1; subst q1
          exact (ofV_ok θ q2).1
        · have := omap_map (g := toV θ) (k := id) hl (fun x y _ hf => (ofV_ok θ hf).2.symm)
          simp only [toV, toVs_map, this, List.map_id, Array.toArray_toList]
    · cases h
/-- an operand -/
def XOk (x : XF) (y : Operand) : Prop := ∀ en, ∃ v, (∀ κ, x en κ = κ v) ∧ ∀ θ (a : Act), ER θ en a.tmps → VR θ v (a.eval y)
theorem x_ok {y : Operand} {x : X} (h : trX y = some x) : XOk (dX x) y := by
  intro en
  unfold trX at h
  split at h
  · rename_i t
    split at h
    · rename_i ht
      injection h with h; subst h
      exact ⟨getL AV 3 t en, fun κ => getK_eq κ 3 t en, fun θ a hE => hE t ht⟩
    · cases h
  · rename_i v
    cases hv : ofV 40 v with
    | none => rw [hv] at h; cases h
    | some y =>
      rw [hv] at h; injection h with h; subst h
      exact ⟨y, fun _ => rfl, fun θ a _ => ofV_ok θ hv⟩
  · injection h with h; subst h
    exact ⟨.fn _ [], fun _ => rfl, fun θ a _ => ⟨trivial, rfl⟩⟩
  · cases h
/-- operands -/
def XsOk (xs : XsF) (ys : List Operand) : Prop := ∀ en, ∃ vs, (∀ κ, xs en κ = κ vs) ∧ vs.length = ys.length ∧ ∀ θ (a : Act), ER θ en a.tmps → Oks θ vs ∧ ys.map a.eval = toVs θ vs
theorem xs_ok : ∀ {ys : List Operand} {xs : List X}, omap trX ys = some xs → XsOk (dXs xs) ys
  | [], xs, h => by
    cases h
    exact fun en => ⟨[], fun _ => rfl, rfl, fun _ _ _ => ⟨trivial, rfl⟩⟩
  | y :: ys, xs, h => by
    unfold omap at h
    split at h
    · rename_i x r hx hr
      injection h with h; subst h
      intro en
      obtain ⟨v, h1, h2⟩ := x_ok hx en
      obtain ⟨vs, k1, k3, k2⟩ := xs_ok hr en
      refine ⟨v :: vs, fun κ => ?_, by simp [k3], fun θ a hE => ?_⟩
      · show dX x en (fun v => dXs r en fun vs => κ (v :: vs)) = _
        rw [h1, k1]
      · exact ⟨⟨(h2 θ a hE).1, (k2 θ a hE).1⟩, by simp only [List.map_cons, toVs, (h2 θ a hE).2, (k2 θ a hE).2]⟩
    · cases h

/-! ### Numbers -/
theorem khi_le (k : Nat) : khi k ≤ 2 ^ (kindOf k).bits := by
  rcases k with _ | _ | _ | _ | _ | _ | _ | k <;> simp [khi, kindOf, IntKind.bits]
theorem wrap_nat {k m : Nat} (h : m < khi k) : (kindOf k).wrap (.ofNat m) = .ofNat m := by
  rcases k with _ | _ | _ | _ | _ | _ | _ | k <;> simp only [khi, kindOf] at h ⊢ <;> simp only [IntKind.wrap, IntKind.bits, IntKind.signed, Int.ofNat_eq_natCast] <;> simp <;> omega
theorem wrap_neg {k m : Nat} (h : m < klo k) : (kindOf k).wrap (.negSucc m) = .negSucc m := by
  rcases k with _ | _ | _ | _ | k <;> simp only [klo, kindOf] at h ⊢ <;> first | omega | (simp only [IntKind.wrap, IntKind.bits, IntKind.signed, Int.negSucc_eq]; simp; omega)
theorem wrN_eq (k m : Nat) (κ : Int → R) : wrN k m κ = κ ((kindOf k).wrap (.ofNat m)) := by
  unfold wrN
  rw [fnat_eq]
  cases h : Nat.blt m (khi k) with
  | true => rw [wrap_nat (by simpa [Nat.blt_eq] using h)]; rfl
  | false => exact fint_eq _ _
theorem wrG_eq (k m : Nat) (κ : Int → R) : wrG k m κ = κ ((kindOf k).wrap (.negSucc m)) := by
  unfold wrG
  rw [fnat_eq]
  cases h : Nat.blt m (klo k) with
  | true => rw [wrap_neg (by simpa [Nat.blt_eq] using h)]; rfl
  | false => exact fint_eq _ _
theorem wrap_eq (k : Nat) (n : Int) (κ : Int → R) : wrap k n κ = κ ((kindOf k).wrap n) := by
  cases n with
  | ofNat m => exact wrN_eq k m κ
  | negSucc m => exact wrG_eq k m κ
theorem arAdd_eq (k : Nat) (a b : Int) (κ : Int → R) : arAdd k a b κ = κ ((kindOf k).wrap (a + b)) := by
  unfold arAdd
  cases a <;> cases b <;> simp only [sgn] <;> first | exact wrN_eq _ _ _ | exact wrap_eq _ _ _
theorem arSub_eq (k : Nat) (a b : Int) (κ : Int → R) : arSub k a b κ = κ ((kindOf k).wrap (a - b)) := by
  unfold arSub
  cases a <;> cases b <;> simp only [sgn] <;> try exact wrap_eq _ _ _
  rename_i m n
  cases h : Nat.ble n m with
  | false => exact wrap_eq _ _ _
  | true =>
    have h := Nat.le_of_ble_eq_true h
    refine (wrN_eq _ _ _).trans ?_
    congr 2
    show ((Nat.sub m n : Nat) : Int) = (m : Int) - (n : Int)
    have : Nat.sub m n = m - n := rfl
    rw [this]; omega
theorem arMul_eq (k : Nat) (a b : Int) (κ : Int → R) : arMul k a b κ = κ ((kindOf k).wrap (a * b)) := by
  unfold arMul
  cases a <;> cases b <;> simp only [sgn] <;> first | exact wrN_eq _ _ _ | exact wrap_eq _ _ _
theorem isZ_true {b : Int} {nz : R} (e : isZ b false nz = true) : b ≠ 0 ∧ nz = true := by
  cases b with
  | ofNat n =>
    obtain ⟨h1, h2⟩ := br_f e
    refine ⟨fun h => ?_, h2⟩
    have : n = 0 := by have h : (n : Int) = 0 := h; omega
    subst this
    simp at h1
  | negSucc n => exact ⟨by simp, e⟩
theorem isZ_eq {b : Int} (h : b ≠ 0) (nz : R) : isZ b false nz = nz := by
  cases b with
  | ofNat n =>
    show br (Nat.beq n 0) false nz = nz
    have : Nat.beq n 0 = false := by
      cases n with
      | zero => exact absurd rfl h
      | succ n => rfl
    rw [this]; rfl
  | negSucc n => rfl
theorem arQuo_eq (k : Nat) (a b : Int) (κ : Int → R) (h : b ≠ 0) : arQuo k a b κ = κ ((kindOf k).wrap (a.tdiv b)) := by
  unfold arQuo
  rw [isZ_eq h]
  cases a <;> cases b <;> simp only [sgn] <;> first | exact wrN_eq _ _ _ | exact wrap_eq _ _ _
theorem arRem_eq (k : Nat) (a b : Int) (κ : Int → R) (h : b ≠ 0) : arRem k a b κ = κ (a.tmod b) := by
  unfold arRem
  rw [isZ_eq h]
  cases a <;> cases b <;> simp only [sgn] <;> first | exact fnat_eq _ _ | exact fint_eq _ _
theorem khi_pow (k : Nat) : ∃ n, khi k = 2 ^ n ∧ n ≤ (kindOf k).bits := by
  rcases k with _ | _ | _ | _ | _ | _ | _ | k
  · exact ⟨7, rfl, by decide⟩
  · exact ⟨15, rfl, by decide⟩
  · exact ⟨31, rfl, by decide⟩
  · exact ⟨63, rfl, by decide⟩
  · exact ⟨8, rfl, by decide⟩
  · exact ⟨16, rfl, by decide⟩
  · exact ⟨32, rfl, by decide⟩
  · exact ⟨64, rfl, by show 64 ≤ IntKind.u64.bits; decide⟩
theorem ofInt_nat {w m : Nat} : BitVec.ofInt w (.ofNat m) = BitVec.ofNat w m := by
  apply BitVec.eq_of_toNat_eq
  simp
theorem arBit_eq {op : BinOp} {f : Nat → Nat → Nat} {k : Nat} (hf : ∀ m n, m < khi k → n < khi k → bitsI op (kindOf k) (.ofNat m) (.ofNat n) = .ofNat (f m n)) (a b : Int) (κ : Int → R) :
    arBit op f k a b κ = κ (bitsI op (kindOf k) a b) := by
  unfold arBit
  cases a <;> cases b <;> simp only [sgn] <;> try exact fint_eq _ _
  rename_i m n
  cases h1 : Nat.blt m (khi k) with
  | false => exact fint_eq _ _
  | true =>
    cases h2 : Nat.blt n (khi k) with
    | false => exact fint_eq _ _
    | true =>
      show fnat (f m n) (fun r => κ (.ofNat r)) = _
      rw [fnat_eq, hf m n (by simpa [Nat.blt_eq] using h1) (by simpa [Nat.blt_eq] using h2)]
section
variable {k m n : Nat}
theorem toNat_lo (h : m < khi k) : (BitVec.ofNat (kindOf k).bits m).toNat = m := by
  rw [BitVec.toNat_ofNat, Nat.mod_eq_of_lt (Nat.lt_of_lt_of_le h (khi_le k))]
theorem bits_and (h1 : m < khi k) (h2 : n < khi k) : bitsI .and (kindOf k) (.ofNat m) (.ofNat n) = .ofNat (Nat.land m n) := by
  have e : (BitVec.ofNat (kindOf k).bits m &&& BitVec.ofNat (kindOf k).bits n).toNat = Nat.land m n := by rw [BitVec.toNat_and, toNat_lo h1, toNat_lo h2]; rfl
  simp only [bitsI, ofInt_nat, e]
  exact wrap_nat (Nat.lt_of_le_of_lt Nat.and_le_left h1)
theorem bits_or (h1 : m < khi k) (h2 : n < khi k) : bitsI .or (kindOf k) (.ofNat m) (.ofNat n) = .ofNat (Nat.lor m n) := by
  have e : (BitVec.ofNat (kindOf k).bits m ||| BitVec.ofNat (kindOf k).bits n).toNat = Nat.lor m n := by rw [BitVec.toNat_or, toNat_lo h1, toNat_lo h2]; rfl
  simp only [bitsI, ofInt_nat, e]
  obtain ⟨q, hq, _⟩ := khi_pow k
  rw [hq] at h1 h2
  exact wrap_nat (by rw [hq]; exact Nat.or_lt_two_pow h1 h2)
theorem bits_xor (h1 : m < khi k) (h2 : n < khi k) : bitsI .xor (kindOf k) (.ofNat m) (.ofNat n) = .ofNat (Nat.xor m n) := by
  have e : (BitVec.ofNat (kindOf k).bits m ^^^ BitVec.ofNat (kindOf k).bits n).toNat = Nat.xor m n := by rw [BitVec.toNat_xor, toNat_lo h1, toNat_lo h2]; rfl
  simp only [bitsI, ofInt_nat, e]
  obtain ⟨q, hq, _⟩ := khi_pow k
  rw [hq] at h1 h2
  exact wrap_nat (by rw [hq]; exact Nat.xor_lt_two_pow h1 h2)
theorem bits_anot (h1 : m < khi k) (h2 : n < khi k) : bitsI .andNot (kindOf k) (.ofNat m) (.ofNat n) = .ofNat (Nat.xor m (Nat.land m n)) := by
  have e0 : ∀ a b : BitVec (kindOf k).bits, a &&& ~~~b = a ^^^ (a &&& b) := by
    intro a b
    apply BitVec.eq_of_getLsbD_eq
    intro i hi
    simp only [BitVec.getLsbD_and, BitVec.getLsbD_xor, BitVec.getLsbD_not, hi, decide_true, Bool.true_and]
    cases a.getLsbD i <;> cases b.getLsbD i <;> rfl
  have e : (BitVec.ofNat (kindOf k).bits m &&& ~~~BitVec.ofNat (kindOf k).bits n).toNat = Nat.xor m (Nat.land m n) := by rw [e0, BitVec.toNat_xor, BitVec.toNat_and, toNat_lo h1, toNat_lo h2]; rfl
  simp only [bitsI, ofInt_nat, e]
  obtain ⟨q, hq, _⟩ := khi_pow k
  have h3 : Nat.land m n < khi k := Nat.lt_of_le_of_lt Nat.and_le_left h1
  rw [hq] at h1 h3
  exact wrap_nat (by rw [hq]; exact Nat.xor_lt_two_pow h1 h3)
end
theorem arAnd_eq (k : Nat) (a b : Int) (κ : Int → R) : arAnd k a b κ = κ (bitsI .and (kindOf k) a b) := arBit_eq (fun _ _ h1 h2 => bits_and h1 h2) a b κ
theorem arOr_eq (k : Nat) (a b : Int) (κ : Int → R) : arOr k a b κ = κ (bitsI .or (kindOf k) a b) := arBit_eq (fun _ _ h1 h2 => bits_or h1 h2) a b κ
theorem arXor_eq (k : Nat) (a b : Int) (κ : Int → R) : arXor k a b κ = κ (bitsI .xor (kindOf k) a b) := arBit_eq (fun _ _ h1 h2 => bits_xor h1 h2) a b κ
theorem arAnn_eq (k : Nat) (a b : Int) (κ : Int → R) : arAnn k a b κ = κ (bitsI .andNot (kindOf k) a b) := arBit_eq (fun _ _ h1 h2 => bits_anot h1 h2) a b κ
theorem kbit_eq (k : Nat) : kbit k = (kindOf k).bits := by rcases k with _ | _ | _ | _ | _ | _ | _ | k <;> rfl
theorem shl_eq (k : Nat) (a : Int) (n : Nat) (κ : Int → R) : shl k a n κ = κ ((kindOf k).wrap (a * 2 ^ min n (kindOf k).bits)) := by
  unfold shl
  rw [wrap_eq, kbit_eq]
  congr 2
theorem shr_eq (k : Nat) (a : Int) (n : Nat) (κ : Int → R) : shr k a n κ = κ (a.fdiv (2 ^ min n (kindOf k).bits)) := by
  unfold shr
  rw [kbit_eq]
  cases a with
  | ofNat m =>
    refine (fnat_eq _ _).trans ?_
    congr 1
    have : ((2 : Int) ^ min n (kindOf k).bits) = ((2 ^ min n (kindOf k).bits : Nat) : Int) := by simp
    rw [this, Int.fdiv_eq_ediv_of_nonneg _ (Int.natCast_nonneg _)]
    rfl
  | negSucc m =>
    refine (fint_eq _ _).trans ?_
    congr 2
theorem cmLt_eq (a b : Int) (κ : Bool → R) : cmLt a b κ = κ (decide (a < b)) := by
  unfold cmLt
  cases a with
  | ofNat m => cases b with
    | ofNat n =>
      show κ (Nat.blt m n) = _
      congr 1
      rw [Bool.eq_iff_iff]
      simp [Nat.blt_eq]
    | negSucc n => show κ false = _; congr 1
  | negSucc m => cases b with
    | ofNat n => show κ true = _; congr 1; symm; rw [decide_eq_true_iff]; simp only [Int.ofNat_eq_natCast, Int.negSucc_eq]; omega
    | negSucc n => rfl
theorem cmLe_eq (a b : Int) (κ : Bool → R) : cmLe a b κ = κ (decide (a ≤ b)) := by
  unfold cmLe
  cases a with
  | ofNat m => cases b with
    | ofNat n =>
      show κ (Nat.ble m n) = _
      congr 1
      rw [Bool.eq_iff_iff]
      simp
    | negSucc n => show κ false = _; congr 1; symm; rw [decide_eq_false_iff_not]; simp only [Int.ofNat_eq_natCast, Int.negSucc_eq]; omega
  | negSucc m => cases b with
    | ofNat n => show κ true = _; congr 1
    | negSucc n => rfl
theorem cmEq_eq (a b : Int) (κ : Bool → R) : cmEq a b κ = κ (a == b) := by
  unfold cmEq
  cases a with
  | ofNat m => cases b with
    | ofNat n =>
      show κ (Nat.beq m n) = _
      congr 1
      rw [Bool.eq_iff_iff]
      simp only [beq_iff_eq, Int.ofNat_eq_natCast, Int.natCast_inj]
      exact ⟨Nat.eq_of_beq_eq_true, fun h => h ▸ Nat.beq_refl _⟩
    | negSucc n => show κ false = _; congr 1
  | negSucc m => cases b with
    | ofNat n => show κ false = _; congr 1
    | negSucc n =>
      show κ (decide (Int.negSucc m = Int.negSucc n)) = _
      congr 1
theorem not'_eq (c : Bool) : not' c = !c := by cases c <;> rfl
theorem or'_eq (c d : Bool) : or' c d = (c || d) := by cases c <;> rfl
theorem eqB_eq (c d : Bool) : eqB c d = (c == d) := by cases c <;> cases d <;> rfl
theorem negc_eq (neg c : Bool) : eqB neg (not' c) = (if neg then !c else c) := by cases neg <;> cases c <;> rfl
theorem kB_eq (κ : K) (h : H) (nx : Nat) (c : Bool) : kB κ h nx c = κ (.b c) h nx := fbool_eq _ _

/-! ### Texts -/
theorem eqL_eq : ∀ (a b : List Nat), eqL a b = decide (a = b)
  | [], [] => rfl
  | [], _ :: _ => rfl
  | _ :: _, [] => rfl
  | x :: a, y :: b => by
    show (@Bool.rec (fun _ => Bool) false (eqL a b) (Nat.beq x y)) = _
    rw [eqL_eq a b]
    by_cases h : x = y
    · subst h; simp
    · have : Nat.beq x y = false := by cases hb : Nat.beq x y with
        | false => rfl
        | true => exact absurd (Nat.eq_of_beq_eq_true hb) h
      rw [this]; simp [h]
theorem bytes_toList (l : List Nat) : (bytesOf l).toList = l.map UInt8.ofNat := by
  rw [Go.ByteArray.toList_eq]; simp [bytesOf]
theorem ofNat_inj {a b : Nat} (ha : a < 256) (hb : b < 256) : UInt8.ofNat a = UInt8.ofNat b ↔ a = b := by
  refine ⟨fun h => ?_, fun h => h ▸ rfl⟩
  have := congrArg UInt8.toNat h
  simpa [Nat.mod_eq_of_lt ha, Nat.mod_eq_of_lt hb] using this
theorem map_inj : ∀ {a b : List Nat}, (∀ x ∈ a, x < 256) → (∀ x ∈ b, x < 256) → (a.map UInt8.ofNat = b.map UInt8.ofNat ↔ a = b)
  | [], [], _, _ => by simp
  | [], _ :: _, _, _ => by simp
  | _ :: _, [], _, _ => by simp
  | x :: a, y :: b, ha, hb => by
    simp only [List.map_cons, List.cons.injEq, ofNat_inj (ha x (by simp)) (hb y (by simp)), map_inj (fun z hz => ha z (List.mem_cons_of_mem _ hz)) (fun z hz => hb z (List.mem_cons_of_mem _ hz))]
theorem str_eq {a b : List Nat} (ha : ∀ x ∈ a, x < 256) (hb : ∀ x ∈ b, x < 256) : ((bytesOf a).toList == (bytesOf b).toList) = eqL a b := by
  rw [bytes_toList, bytes_toList, eqL_eq, Bool.eq_iff_iff]
  simp [map_inj ha hb]
theorem ltL_eq : ∀ {a b : List Nat}, (∀ x ∈ a, x < 256) → (∀ x ∈ b, x < 256) → Op.bytesLess (a.map UInt8.ofNat) (b.map UInt8.ofNat) = ltL a b
  | [], [], _, _ => rfl
  | [], _ :: _, _, _ => rfl
  | _ :: _, [], _, _ => rfl
  | x :: a, y :: b, ha, hb => by
    have hx := ha x (by simp)
    have hy := hb y (by simp)
    show (decide (UInt8.ofNat x < UInt8.ofNat y) || (UInt8.ofNat x == UInt8.ofNat y && Op.bytesLess (a.map UInt8.ofNat) (b.map UInt8.ofNat))) =
      (@Bool.rec (fun _ => Bool) (@Bool.rec (fun _ => Bool) false (ltL a b) (Nat.beq x y)) true (Nat.blt x y))
    rw [ltL_eq (fun z hz => ha z (by simp [hz])) (fun z hz => hb z (by simp [hz]))]
    have h1 : decide (UInt8.ofNat x < UInt8.ofNat y) = Nat.blt x y := by
      rw [Bool.eq_iff_iff, decide_eq_true_iff, UInt8.lt_iff_toNat_lt]
      simp [Nat.mod_eq_of_lt hx, Nat.mod_eq_of_lt hy, Nat.blt_eq]
    have h2 : (UInt8.ofNat x == UInt8.ofNat y) = Nat.beq x y := by
      rw [Bool.eq_iff_iff, beq_iff_eq, ofNat_inj hx hy]
      simp
    rw [h1, h2]
    cases Nat.blt x y <;> cases Nat.beq x y <;> rfl
theorem str_lt {a b : List Nat} (ha : ∀ x ∈ a, x < 256) (hb : ∀ x ∈ b, x < 256) : Op.bytesLess (bytesOf a).toList (bytesOf b).toList = ltL a b := by
  rw [bytes_toList, bytes_toList, ltL_eq ha hb]
theorem bytes_size (l : List Nat) : (bytesOf l).size = l.length := by
  show ((l.map UInt8.ofNat).toArray).size = _
  simp
theorem bytes_append (a b : List Nat) : bytesOf a ++ bytesOf b = bytesOf (a ++ b) := by
  have h : ∀ x y : ByteArray, x.data = y.data → x = y := fun x y h => by cases x; cases y; cases h; rfl
  apply h
  rw [ByteArray.data_append]
  simp [bytesOf]
end Go.AM
namespace Go.AM
open Go

theorem br_tt (a b : R) : br true a b = a := rfl
theorem br_ff (a b : R) : br false a b = b := rfl
theorem asP_pi (κ : Nat → Nat → R) (o i : Nat) : asP κ (.p o i) = κ o i := rfl
theorem khi_le64 (k : Nat) : khi k ≤ 2 ^ 64 := by
  rcases k with _ | _ | _ | _ | _ | _ | _ | k <;> simp [khi]
theorem khi_two (k : Nat) : ∃ b, khi k = 2 ^ b ∧ b ≤ 64 := by
  obtain ⟨n, h, _⟩ := khi_pow k
  refine ⟨n, h, ?_⟩
  have := khi_le64 k
  rw [h] at this
  exact (Nat.pow_le_pow_iff_right (by decide)).1 this
theorem Lim.all64 {k N : Nat} (h : Lim (khi k) N) : Lim (2 ^ 64) N := h.mono (khi_le64 k)
theorem VR.l {θ : Th} {k N : Nat} {u : Value} (h : VR θ (.l k N) u) (hk : k < 8) : Lim (khi k) N ∧ u = .int (kindOf k) (ln θ.lane N : Nat) := by
  obtain ⟨h1, h2⟩ := h
  rcases (show (k < 8 ∧ Lim (khi k) N) ∨ (k = 9 ∧ Lim 2 N) from h1) with ⟨_, h3⟩ | ⟨h3, _⟩
  · refine ⟨h3, h2.trans ?_⟩
    show lV k _ = _
    rw [lV, if_neg (by omega)]
  · omega
theorem vr_l (θ : Th) {k N : Nat} (hk : k < 8) (h : Lim (khi k) N) : VR θ (.l k N) (.int (kindOf k) (ln θ.lane N : Nat)) :=
  ⟨.inl ⟨hk, h⟩, by show _ = lV k _; rw [lV, if_neg (by omega)]⟩
theorem isL_iff {v : AV} : isL v = true ↔ ∃ k N, v = .l k N := by
  constructor
  · intro h
    cases v <;> first | exact ⟨_, _, rfl⟩ | cases h
  · rintro ⟨k, N, rfl⟩; rfl
theorem lnK_true {k : Nat} {v : AV} {κ : Nat → R} (e : lnK k v κ = true) : ∃ N, (∀ κ', lnK k v κ' = κ' N) ∧ κ N = true ∧ (isL v = true → k < 8) ∧ (∀ n, v = .i k n → ∃ m : Nat, n = (m : Int) ∧ m < khi k ∧ N = LO * m) ∧
    ∀ θ u, VR θ v u → Lim (khi k) N ∧ u = .int (kindOf k) (ln θ.lane N : Nat) := by
  unfold lnK at e
  split at e
  · rename_i k' N
    obtain ⟨h1, e1⟩ := br_t e
    obtain ⟨h2, e2⟩ := br_t e1
    have h1' := Nat.eq_of_beq_eq_true h1
    subst h1'
    have h2' : k' < 8 := by simpa [Nat.blt_eq] using h2
    refine ⟨N, fun κ' => ?_, e2, fun _ => h2', fun n hn => (by cases hn), fun θ u hu => hu.l h2'⟩
    show br (Nat.beq k' k') (br (Nat.blt k' 8) (κ' N) false) false = _
    rw [h1, h2]; rfl
  · rename_i k' n
    obtain ⟨h1, e1⟩ := br_t e
    have h1' := Nat.eq_of_beq_eq_true h1
    subst h1'
    cases n with
    | negSucc n => cases e1
    | ofNat n =>
      obtain ⟨h2, e2⟩ := br_t e1
      have h2' : n < khi k' := by simpa [Nat.blt_eq] using h2
      rw [fnat_eq, mul_is] at e2
      refine ⟨LO * n, fun κ' => ?_, e2, (fun h => by cases h), fun m hm => ?_, fun θ u hu => ?_⟩
      · have : lnK k' (.i k' (.ofNat n)) κ' = br (Nat.beq k' k') (br (Nat.blt n (khi k')) (fnat (Nat.mul LO n) κ') false) false := rfl
        rw [this, h1, h2, br_tt, br_tt, fnat_eq, mul_is]
      · injection hm with _ hm
        exact ⟨n, hm.symm, h2', rfl⟩
      · have h128 : n < 2 ^ 128 := Nat.lt_of_lt_of_le h2' (Nat.le_trans (khi_le64 k') (by decide))
        exact ⟨fun i hi => by rw [ln_LO h128 hi]; exact h2', by rw [hu.i, ln_LO h128 θ.lane_lt]; rfl⟩
  · cases e
/-- what is done in all lanes -/
def LaOk (op : BinOp) (k : Nat) (g : LaF) : Prop := ∀ A B κ, g k A B κ = true → ∃ N, (∀ κ', g k A B κ' = κ' N) ∧ κ N = true ∧
  (Lim (khi k) A → Lim (khi k) B → Lim (khi k) N ∧ ∀ (P : Program) (t : TypeId) j w, j < 256 → (binOp op t (.int (kindOf k) (ln j A : Nat)) (.int (kindOf k) (ln j B : Nat))).run P w = .ok (.int (kindOf k) (ln j N : Nat)) w)
theorem wrap_lo {k : Nat} (hk : 4 ≤ k) (m : Nat) : (kindOf k).wrap (m : Int) = ((m % khi k : Nat) : Int) := by
  rcases k with _ | _ | _ | _ | _ | _ | _ | k <;> first | omega | (simp only [khi, kindOf, IntKind.wrap, IntKind.bits, IntKind.signed]; simp)
theorem laCut_true {k N : Nat} {κ : Nat → R} (e : laCut k N κ = true) : ∃ M, (∀ κ', laCut k N κ' = κ' M) ∧ κ M = true ∧ Lim (khi k) M ∧ ∀ j, j < 256 → (kindOf k).wrap (ln j N : Nat) = ((ln j M : Nat) : Int) := by
  unfold laCut at e
  rw [fnat_eq] at e
  obtain ⟨h1, e1⟩ := br_t e
  obtain ⟨b, hb, hb64⟩ := khi_two k
  have hl : ∀ j, j < 256 → ln j (Nat.land N (lMask k)) = ln j N % khi k := by
    intro j hj
    have := ln_mask (N := N) (j := j) (b := b) (by omega) hj
    rw [← hb] at this
    exact this
  have hpos : 0 < khi k := by rw [hb]; exact Nat.pow_pos (by decide)
  refine ⟨Nat.land N (lMask k), fun κ' => ?_, e1, fun j hj => by rw [hl j hj]; exact Nat.mod_lt _ hpos, fun j hj => ?_⟩
  · unfold laCut
    rw [fnat_eq, h1]; rfl
  · rw [or'_eq, Bool.or_eq_true] at h1
    rcases h1 with h1 | h1
    · rw [hl j hj, wrap_lo (Nat.le_of_ble_eq_true h1)]
    · have h1 := Nat.eq_of_beq_eq_true h1
      have h2 : ln j N < khi k := by
        have := hl j hj
        rw [h1] at this
        rw [this]; exact Nat.mod_lt _ hpos
      rw [hl j hj, Nat.mod_eq_of_lt h2]
      exact wrap_nat h2
theorem run_and {P : Program} {t : TypeId} {w : World} (k : Nat) (a b : Int) : (binOp .and t (.int (kindOf k) a) (.int (kindOf k) b)).run P w = .ok (.int (kindOf k) (bitsI .and (kindOf k) a b)) w := by simp [binOp, Op.intBits, bitsI]
theorem laAnd_ok (k : Nat) : LaOk .and k laAnd := by
  intro A B κ e
  unfold laAnd at e
  rw [fnat_eq] at e
  refine ⟨_, fun κ' => fnat_eq _ _, e, fun ha hb => ⟨fun i hi => ?_, fun P t j w hj => ?_⟩⟩
  · rw [land_is, ln_and]; exact Nat.lt_of_le_of_lt Nat.and_le_left (ha i hi)
  · rw [land_is, ln_and]
    refine (run_and k _ _).trans ?_
    exact congrArg (fun x => Result.ok (Value.int (kindOf k) x) w) (bits_and (ha j hj) (hb j hj))
theorem run_or {P : Program} {t : TypeId} {w : World} (k : Nat) (a b : Int) : (binOp .or t (.int (kindOf k) a) (.int (kindOf k) b)).run P w = .ok (.int (kindOf k) (bitsI .or (kindOf k) a b)) w := by simp [binOp, Op.intBits, bitsI]
theorem laOr_ok (k : Nat) : LaOk .or k laOr := by
  intro A B κ e
  unfold laOr at e
  rw [fnat_eq] at e
  refine ⟨_, fun κ' => fnat_eq _ _, e, fun ha hb => ⟨fun i hi => ?_, fun P t j w hj => ?_⟩⟩
  · rw [lor_is, ln_or]
    obtain ⟨q, hq, _⟩ := khi_pow k
    have h1 := ha i hi
    have h2 := hb i hi
    rw [hq] at h1 h2 ⊢
    exact Nat.or_lt_two_pow h1 h2
  · rw [lor_is, ln_or]
    refine (run_or k _ _).trans ?_
    exact congrArg (fun x => Result.ok (Value.int (kindOf k) x) w) (bits_or (ha j hj) (hb j hj))
theorem run_xor {P : Program} {t : TypeId} {w : World} (k : Nat) (a b : Int) : (binOp .xor t (.int (kindOf k) a) (.int (kindOf k) b)).run P w = .ok (.int (kindOf k) (bitsI .xor (kindOf k) a b)) w := by simp [binOp, Op.intBits, bitsI]
theorem laXor_ok (k : Nat) : LaOk .xor k laXor := by
  intro A B κ e
  unfold laXor at e
  rw [fnat_eq] at e
  refine ⟨_, fun κ' => fnat_eq _ _, e, fun ha hb => ⟨fun i hi => ?_, fun P t j w hj => ?_⟩⟩
  · rw [xor_is, ln_xor]
    obtain ⟨q, hq, _⟩ := khi_pow k
    have h1 := ha i hi
    have h2 := hb i hi
    rw [hq] at h1 h2 ⊢
    exact Nat.xor_lt_two_pow h1 h2
  · rw [xor_is, ln_xor]
    refine (run_xor k _ _).trans ?_
    exact congrArg (fun x => Result.ok (Value.int (kindOf k) x) w) (bits_xor (ha j hj) (hb j hj))
/-- the same number in all lanes -/
theorem laC {B c : Nat} (h : Nat.beq (Nat.mul LO c) B = true) (hc : c < 2 ^ 128) {j : Nat} (hj : j < 256) : ln j B = c := by
  rw [← Nat.eq_of_beq_eq_true h]
  exact ln_LO hc hj
theorem runI_add {P : Program} {t : TypeId} {w : World} (k : Nat) (a b : Int) : (binOp .add t (.int (kindOf k) a) (.int (kindOf k) b)).run P w = .ok (.int (kindOf k) ((kindOf k).wrap (a + b))) w := by simp [binOp, Op.intArith]
theorem laAdd_ok (k : Nat) : LaOk .add k laAdd := by
  intro A B κ e
  unfold laAdd at e
  rw [fnat_eq] at e
  obtain ⟨M, k1, k2, k3, k4⟩ := laCut_true e
  refine ⟨M, fun κ' => ?_, k2, fun ha hb => ⟨k3, fun P t j w hj => ?_⟩⟩
  · unfold laAdd
    rw [fnat_eq]; exact k1 κ'
  · have hm : ln j (Nat.add A B) = ln j A + ln j B := by
      refine ln_add fun i hi => ?_
      have h3 : ln i A < 2 ^ 64 := ha.all64 i (by omega)
      have h4 : ln i B < 2 ^ 64 := hb.all64 i (by omega)
      omega
    have := k4 j hj
    rw [hm] at this
    refine (runI_add k _ _).trans ?_
    refine congrArg (fun x => Result.ok (Value.int (kindOf k) x) w) ?_
    rw [← this]
    congr 1
theorem run_mul {P : Program} {t : TypeId} {w : World} (k : Nat) (a b : Int) : (binOp .mul t (.int (kindOf k) a) (.int (kindOf k) b)).run P w = .ok (.int (kindOf k) ((kindOf k).wrap (a * b))) w := by simp [binOp, Op.intArith]
theorem run_rem {P : Program} {t : TypeId} {w : World} (k : Nat) (a : Int) {b : Int} (h : b ≠ 0) : (binOp .rem t (.int (kindOf k) a) (.int (kindOf k) b)).run P w = .ok (.int (kindOf k) (a.tmod b)) w := by simp [binOp, Op.intDiv, h]
theorem laMul_ok (k : Nat) : LaOk .mul k laMul := by
  intro A B κ e
  unfold laMul at e
  rw [fnat_eq] at e
  obtain ⟨h1, e1⟩ := br_t e
  rw [fnat_eq] at e1
  obtain ⟨M, k1, k2, k3, k4⟩ := laCut_true e1
  have hc : B % 18446744073709551616 < 2 ^ 64 := Nat.mod_lt _ (by decide)
  refine ⟨M, fun κ' => ?_, k2, fun ha hb => ⟨k3, fun P t j w hj => ?_⟩⟩
  · unfold laMul
    rw [fnat_eq, h1, br_tt, fnat_eq]; exact k1 κ'
  · rw [laC h1 (Nat.lt_trans hc (by decide)) hj]
    have hm : ln j (Nat.mul A (Nat.mod B 18446744073709551616)) = ln j A * (B % 18446744073709551616) := by
      refine ln_mul fun i hi => ?_
      have h3 : ln i A < 2 ^ 64 := ha.all64 i (by omega)
      exact Nat.lt_of_lt_of_le (Nat.mul_lt_mul'' h3 hc) (by decide)
    have := k4 j hj
    rw [hm] at this
    refine (run_mul k _ _).trans ?_
    refine congrArg (fun x => Result.ok (Value.int (kindOf k) x) w) ?_
    rw [← this]
    congr 1
/-- a test in lanes -/
theorem lbK_true {Y : Nat} {κ : AV → R} (e : lbK Y κ = true) : ∃ v, (∀ κ', lbK Y κ' = κ' v) ∧ κ v = true ∧ (Lim 2 Y → ∀ θ, VR θ v (.bool (ln θ.lane Y != 0))) := by
  unfold lbK at e
  rcases br_true e with ⟨h1, e1⟩ | ⟨h1, e1⟩
  · refine ⟨_, fun κ' => ?_, e1, fun _ θ => ?_⟩
    · unfold lbK; rw [h1]; rfl
    · have := Nat.eq_of_beq_eq_true h1
      subst this
      rw [ln_nought]; exact vr_b θ false
  · rcases br_true e1 with ⟨h2, e2⟩ | ⟨h2, e2⟩
    · refine ⟨_, fun κ' => ?_, e2, fun _ θ => ?_⟩
      · unfold lbK; rw [h1, h2]; rfl
      · have := @Nat.eq_of_beq_eq_true Y LO h2
        rw [this, ln_ones θ.lane_lt]; exact vr_b θ true
    · refine ⟨_, fun κ' => ?_, e2, fun hl θ => ⟨.inr ⟨rfl, hl⟩, rfl⟩⟩
      unfold lbK; rw [h1, h2]; rfl
theorem lim_ltm {A B : Nat} (ha : Lim (2 ^ 64) A) (hb : Lim (2 ^ 64) B) : Lim 2 (ltm A B) := by
  intro i hi
  rw [ln_ltm hi ha hb]
  split <;> decide
theorem ltm_not {A B j : Nat} (hj : j < 256) (ha : Lim (2 ^ 64) A) (hb : Lim (2 ^ 64) B) : ln j (Nat.xor LO (ltm A B)) = if ln j A < ln j B then 0 else 1 := by
  rw [xor_is, ln_xor, ln_ones hj, ln_ltm hj ha hb]
  split <;> rfl
theorem lim_not {A B : Nat} (ha : Lim (2 ^ 64) A) (hb : Lim (2 ^ 64) B) : Lim 2 (Nat.xor LO (ltm A B)) := by
  intro i hi
  rw [ltm_not hi ha hb]
  split <;> decide
theorem lim_nought : Lim (2 ^ 64) 0 := fun i _ => by rw [ln_nought]; decide
theorem laSubs_succ (k c n N : Nat) (κ : Nat → R) : laSubs k c (n + 1) N κ = fnat (Nat.xor LO (ltm N (Nat.mul LO c))) (fun Y => br (Nat.beq Y 0) (κ N) (fnat (Nat.mul Y c) fun M => br (Nat.ble M N) (fnat (Nat.sub N M) fun N' => br (Nat.beq (Nat.land N' (lMask k)) N') (laSubs k c n N' κ) false) false)) := by
  delta laSubs
  kernel_rfl
theorem laSubs_zero (k c N : Nat) (κ : Nat → R) : laSubs k c 0 N κ = false := by
  delta laSubs
  kernel_rfl
theorem laSubs_true {k c : Nat} (hc : 0 < c) (hc2 : c < 2 ^ 64) (n : Nat) : ∀ (N : Nat) (κ : Nat → R), laSubs k c n N κ = true → ∃ M, (∀ κ', laSubs k c n N κ' = κ' M) ∧ κ M = true ∧ (Lim (khi k) N → Lim (khi k) M ∧ ∀ j, j < 256 → ln j M = ln j N % c) := by
  induction n with
  | zero => intro N κ e; rw [laSubs_zero] at e; cases e
  | succ n ih =>
    intro N κ e
    rw [laSubs_succ] at e
    have hB : Lim (2 ^ 64) (Nat.mul LO c) := fun i hi => by rw [mul_is, ln_LO (Nat.lt_trans hc2 (by decide)) hi]; exact hc2
    rw [fnat_eq] at e
    have hs : ∀ κ', laSubs k c (n + 1) N κ' = br (Nat.beq (Nat.xor LO (ltm N (Nat.mul LO c))) 0) (κ' N) (fnat (Nat.mul (Nat.xor LO (ltm N (Nat.mul LO c))) c) fun M => br (Nat.ble M N) (fnat (Nat.sub N M) fun N' => br (Nat.beq (Nat.land N' (lMask k)) N') (laSubs k c n N' κ') false) false) := fun κ' => by
      rw [laSubs_succ, fnat_eq]
    have hY : Lim (2 ^ 64) N → ∀ j, j < 256 → ln j (Nat.xor LO (ltm N (Nat.mul LO c))) = if ln j N < c then 0 else 1 := fun hl j hj => by
      rw [ltm_not hj hl hB, mul_is, ln_LO (Nat.lt_trans hc2 (by decide)) hj]
    generalize Nat.xor LO (ltm N (Nat.mul LO c)) = Y at e hs hY
    rcases br_true e with ⟨b, e⟩ | ⟨b, e⟩
    · refine ⟨N, fun κ' => by rw [hs, b, br_tt], e, fun hl => ⟨hl, fun j hj => ?_⟩⟩
      have h0 := hY hl.all64 j hj
      rw [Nat.eq_of_beq_eq_true b, ln_nought] at h0
      by_cases h : ln j N < c
      · exact (Nat.mod_eq_of_lt h).symm
      · rw [if_neg h] at h0; omega
    · rw [fnat_eq] at e
      obtain ⟨b1, e⟩ := br_t e
      rw [fnat_eq] at e
      obtain ⟨b2, e⟩ := br_t e
      obtain ⟨M, m1, m2, m3⟩ := ih _ κ e
      refine ⟨M, fun κ' => ?_, m2, fun hl => ?_⟩
      · rw [hs, b, br_ff, fnat_eq, b1, br_tt, fnat_eq, b2, br_tt]; exact m1 κ'
      · have hY := hY hl.all64
        have h1 : Y * c ≤ N := Nat.le_of_ble_eq_true b1
        have hsum : (N - Y * c) + Y * c = N := Nat.sub_add_cancel h1
        obtain ⟨bb, hb, hb64⟩ := khi_two k
        have hpos : 0 < khi k := by rw [hb]; exact Nat.pow_pos (by decide)
        have hN : Lim (khi k) (N - Y * c) := fun i hi => by
          have hm := ln_mask (N := N - Y * c) (j := i) (b := bb) (by omega) hi
          rw [← hb] at hm
          have h2 : (N - Y * c) &&& (LO * (khi k - 1)) = N - Y * c := Nat.eq_of_beq_eq_true b2
          rw [h2] at hm
          rw [hm]; exact Nat.mod_lt _ hpos
        have hY1 : ∀ i, i < 256 → ln i Y ≤ 1 := fun i hi => by rw [hY i hi]; split <;> omega
        have hM : ∀ i, i < 256 → ln i (Y * c) = ln i Y * c := fun i hi => ln_mul fun i' hi' => by
          have := Nat.mul_le_mul_right c (hY1 i' (by omega))
          omega
        have hMl : ∀ i, i < 256 → ln i (Y * c) < 2 ^ 64 := fun i hi => by
          rw [hM i hi]
          have := Nat.mul_le_mul_right c (hY1 i hi)
          omega
        obtain ⟨q1, q2⟩ := m3 hN
        refine ⟨q1, fun j hj => ?_⟩
        have hadd : ln j N = ln j (N - Y * c) + ln j (Y * c) := by
          conv => lhs; rw [← hsum]
          refine ln_add fun i hi => ?_
          have h3 := hN.all64 i (by omega)
          have h4 := hMl i (by omega)
          omega
        rw [hadd, hM j hj, Nat.add_mul_mod_self_right]
        exact q2 j hj
theorem laRem_ok (k : Nat) : LaOk .rem k laRem := by
  intro A B κ e
  unfold laRem at e
  rw [fnat_eq] at e
  obtain ⟨h1, e1⟩ := br_t e
  rcases br_true e1 with ⟨h2, e2⟩ | ⟨h2, e2⟩
  rotate_left
  · obtain ⟨h3, e3⟩ := br_t e2
    have h3' : 0 < Nat.mod B 18446744073709551616 := by simpa [Nat.blt_eq] using h3
    have hc : B % 18446744073709551616 < 2 ^ 64 := Nat.mod_lt _ (by decide)
    obtain ⟨M, m1, m2, m3⟩ := laSubs_true (c := Nat.mod B 18446744073709551616) h3' hc _ _ _ e3
    refine ⟨M, fun κ' => ?_, m2, fun ha hb => ⟨(m3 ha).1, fun P t j w hj => ?_⟩⟩
    · unfold laRem
      rw [fnat_eq, h1, br_tt, h2, br_ff, h3, br_tt]; exact m1 κ'
    · rw [laC h1 (Nat.lt_trans hc (by decide)) hj, (m3 ha).2 j hj]
      exact run_rem k _ (by omega)
  rw [fnat_eq] at e2
  have hc : B % 18446744073709551616 < 2 ^ 64 := Nat.mod_lt _ (by decide)
  have h2' := Nat.eq_of_beq_eq_true h2
  refine ⟨_, fun κ' => ?_, e2, fun ha hb => ?_⟩
  · unfold laRem
    rw [fnat_eq, h1, br_tt, h2, br_tt, fnat_eq]
  · generalize hcc : Nat.mod B 18446744073709551616 = c at h1 h2' ⊢
    have hc : c < 2 ^ 64 := by rw [← hcc]; exact hc
    have hlog : Nat.log2 c < 64 := by
      rcases Nat.eq_zero_or_pos c with h0 | h0
      · subst h0; decide
      · exact (Nat.log2_lt (by omega)).2 hc
    have hl : ∀ j, j < 256 → ln j (Nat.land A (Nat.mul LO (Nat.sub c 1))) = ln j A % c := by
      intro j hj
      have := ln_mask (N := A) (j := j) (b := Nat.log2 c) (by omega) hj
      have h2'' : 2 ^ Nat.log2 c = c := h2'
      rw [h2''] at this
      exact this
    have hc0 : 0 < c := by rw [← h2']; exact Nat.pow_pos (by decide)
    refine ⟨fun i hi => ?_, fun P t j w hj => ?_⟩
    · rw [hl i hi]
      exact Nat.lt_of_le_of_lt (Nat.mod_le _ _) (ha i hi)
    · rw [laC h1 (Nat.lt_trans hc (by decide)) hj, hl j hj]
      have hne : ((c : Nat) : Int) ≠ 0 := by omega
      exact run_rem k _ hne
theorem lim_xor {b A B : Nat} (ha : Lim (2 ^ b) A) (hb : Lim (2 ^ b) B) : Lim (2 ^ b) (A ^^^ B) := fun i hi => by rw [ln_xor]; exact Nat.xor_lt_two_pow (ha i hi) (hb i hi)
theorem laEq_true {c : Nat} {x y : AV} {κ : Bool → R} (e : laEq c x y κ = true) : ∃ r, (∀ κ', laEq c x y κ' = κ' r) ∧ κ r = true ∧
    (∀ θ u v, VR θ x u → VR θ y v → ∃ a b : Nat, u = .int (kindOf c) a ∧ v = .int (kindOf c) b ∧ r = (a == b)) := by
  unfold laEq at e
  obtain ⟨A, a1, e1, _, _, a4⟩ := lnK_true e
  obtain ⟨B, b1, e2, _, _, b4⟩ := lnK_true e1
  rw [fnat_eq] at e2
  rcases br_true e2 with ⟨h1, e3⟩ | ⟨h1, e3⟩
  · refine ⟨true, fun κ' => ?_, e3, fun θ u v hu hv => ⟨_, _, (a4 θ u hu).2, (b4 θ v hv).2, ?_⟩⟩
    · unfold laEq; rw [a1, b1, fnat_eq, h1]; rfl
    · have h0 : A ^^^ B = 0 := Nat.eq_of_beq_eq_true h1
      have : A = B := by
        have h3 : (A ^^^ B) ^^^ B = 0 ^^^ B := by rw [h0]
        rwa [Nat.xor_assoc, Nat.xor_self, Nat.xor_zero, Nat.zero_xor] at h3
      rw [this]; simp
  · obtain ⟨h2, e4⟩ := br_t e3
    refine ⟨false, fun κ' => ?_, e4, fun θ u v hu hv => ⟨_, _, (a4 θ u hu).2, (b4 θ v hv).2, ?_⟩⟩
    · unfold laEq; rw [a1, b1, fnat_eq, h1]
      show br _ _ _ = _
      rw [h2]; rfl
    · have h2' : ltm 0 (A ^^^ B) = LO := Nat.eq_of_beq_eq_true h2
      have hl := ln_ltm θ.lane_lt lim_nought (lim_xor (b := 64) (a4 θ u hu).1.all64 (b4 θ v hv).1.all64)
      rw [h2', ln_ones θ.lane_lt, ln_nought, ln_xor] at hl
      by_cases hab : ln θ.lane A = ln θ.lane B
      · rw [hab, Nat.xor_self] at hl; simp at hl
      · simp [hab]
theorem lt16 {N : Nat} (hN : Lim (2 ^ 64) N) (h : Nat.beq (ltm N (Nat.mul LO 16)) LO = true) : Lim 16 N := by
  have hB : ∀ i, i < 256 → ln i (Nat.mul LO 16) = 16 := fun i hi => by rw [mul_is]; exact ln_LO (by decide) hi
  have hO : ∀ i, i < 256 → ln i LO = 1 := fun i hi => ln_ones hi
  generalize Nat.mul LO 16 = B at h hB
  generalize LO = O at h hO
  have h := Nat.eq_of_beq_eq_true h
  have hL : Lim (2 ^ 64) B := fun i hi => by rw [hB i hi]; decide
  intro i hi
  have h1 := ln_ltm hi hN hL
  rw [h, hO i hi, hB i hi] at h1
  split at h1
  · assumption
  · omega
end Go.AM
