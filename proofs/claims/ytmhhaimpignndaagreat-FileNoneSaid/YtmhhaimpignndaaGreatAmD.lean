/-
  AM, 5: what the machine's values, temporaries and objects stand for in a world. Conditions: none.
-/
import Derived.Test.YtmhhaimpignndaaGreatAmT
import Derived.Laws.Sem
namespace Go.AM
open Go

/-! ### Trees -/
def ch {α : Type} (d : Nat) : N8 α → α
  | .mk a b c d' e f g h => match d with | 0 => a | 1 => b | 2 => c | 3 => d' | 4 => e | 5 => f | 6 => g | _ => h
def sch {α : Type} (d : Nat) (y : α) : N8 α → N8 α
  | .mk a b c d' e f g h => match d with
    | 0 => .mk y b c d' e f g h | 1 => .mk a y c d' e f g h | 2 => .mk a b y d' e f g h | 3 => .mk a b c y e f g h
    | 4 => .mk a b c d' y f g h | 5 => .mk a b c d' e y g h | 6 => .mk a b c d' e f y h | _ => .mk a b c d' e f g y
theorem selG_eq {α : Type} (d : Nat) (κ : α → R) (t : N8 α) : selG α d κ t = κ (ch d t) := by
  cases t
  match d with
  | 0 => rfl
  | 1 => rfl
  | 2 => rfl
  | 3 => rfl
  | 4 => rfl
  | 5 => rfl
  | 6 => rfl
  | d + 7 => rfl
theorem selS_eq {α : Type} (d : Nat) (ih : α → (α → R) → R) (y : α) (t : N8 α) (k : N8 α → R) (h : ∀ k', ih (ch d t) k' = k' y) : selS α d ih t k = k (sch d y t) := by
  cases t
  match d with
  | 0 => exact h _
  | 1 => exact h _
  | 2 => exact h _
  | 3 => exact h _
  | 4 => exact h _
  | 5 => exact h _
  | 6 => exact h _
  | d + 7 => exact h _
theorem ch_sch {α : Type} (d : Nat) (y : α) (t : N8 α) : ch d (sch d y t) = y := by
  cases t
  match d with
  | 0 => rfl
  | 1 => rfl
  | 2 => rfl
  | 3 => rfl
  | 4 => rfl
  | 5 => rfl
  | 6 => rfl
  | d + 7 => rfl
theorem ch_sch_ne {α : Type} {d e : Nat} (y : α) (t : N8 α) (hd : d < 8) (he : e < 8) (h : e ≠ d) : ch e (sch d y t) = ch e t := by
  cases t
  rcases d with _ | _ | _ | _ | _ | _ | _ | _ | d <;> rcases e with _ | _ | _ | _ | _ | _ | _ | _ | e <;> first | rfl | omega
theorem ch_rep {α : Type} (d : Nat) (x : α) : ch d (rep8 x) = x := by
  match d with
  | 0 => rfl
  | 1 => rfl
  | 2 => rfl
  | 3 => rfl
  | 4 => rfl
  | 5 => rfl
  | 6 => rfl
  | d + 7 => rfl
/-- the value at a place -/
def getL (α : Type) : (n : Nat) → Nat → L α n → α
  | 0, _, t => t
  | n + 1, i, t => getL α n (i % 8 ^ n) (ch (i / 8 ^ n) (t : N8 (L α n)))
def setL (α : Type) (x : α) : (n : Nat) → Nat → L α n → L α n
  | 0, _, _ => x
  | n + 1, i, t => (sch (i / 8 ^ n) (setL α x n (i % 8 ^ n) (ch (i / 8 ^ n) (t : N8 (L α n)))) (t : N8 (L α n)) : N8 (L α n))
theorem getK_eq {α : Type} (κ : α → R) : ∀ (n i : Nat) (t : L α n), getK α κ n i t = κ (getL α n i t)
  | 0, _, _ => rfl
  | n + 1, i, t => (selG_eq (α := L α n) (i / 8 ^ n) (getK α κ n (i % 8 ^ n)) t).trans (getK_eq κ n _ _)
theorem setK_eq {α : Type} (x : α) : ∀ (n i : Nat) (t : L α n) (k : L α n → R), setK α x n i t k = k (setL α x n i t)
  | 0, _, _, _ => rfl
  | n + 1, i, t, k => selS_eq (α := L α n) (i / 8 ^ n) (setK α x n (i % 8 ^ n)) (setL α x n (i % 8 ^ n) (ch (i / 8 ^ n) (t : N8 (L α n)))) t k (fun k' => setK_eq x n _ _ k')
theorem getL_setL {α : Type} (x : α) : ∀ (n i : Nat) (t : L α n), getL α n i (setL α x n i t) = x
  | 0, _, _ => rfl
  | n + 1, i, t => (congrArg (getL α n (i % 8 ^ n)) (ch_sch (α := L α n) (i / 8 ^ n) _ t)).trans (getL_setL x n _ _)
theorem getL_setL_ne {α : Type} (x : α) : ∀ (n : Nat) {i j : Nat} (t : L α n), i < 8 ^ n → j < 8 ^ n → j ≠ i → getL α n j (setL α x n i t) = getL α n j t
  | 0, i, j, t, hi, hj, h => by simp at hi hj; omega
  | n + 1, i, j, t, hi, hj, h => by
    have hp : 0 < 8 ^ n := Nat.pow_pos (by omega)
    rw [Nat.pow_succ] at hi hj
    have key : ∀ t : N8 (L α n), getL α n (j % 8 ^ n) (ch (j / 8 ^ n) (sch (i / 8 ^ n) (setL α x n (i % 8 ^ n) (ch (i / 8 ^ n) t)) t)) = getL α n (j % 8 ^ n) (ch (j / 8 ^ n) t) := by
      intro t
      by_cases hd : j / 8 ^ n = i / 8 ^ n
      · rw [hd, ch_sch, getL_setL_ne x n _ (Nat.mod_lt _ hp) (Nat.mod_lt _ hp)]
        intro hm
        apply h
        rw [← Nat.div_add_mod j (8 ^ n), ← Nat.div_add_mod i (8 ^ n), hd, hm]
      · rw [ch_sch_ne _ _ (Nat.div_lt_of_lt_mul (by omega)) (Nat.div_lt_of_lt_mul (by omega)) hd]
    exact key t
theorem getL_repL {α : Type} (x : α) : ∀ (n i : Nat), getL α n i (repL α x n) = x
  | 0, _ => rfl
  | n + 1, i => (congrArg (getL α n (i % 8 ^ n)) (ch_rep (i / 8 ^ n) (repL α x n))).trans (getL_repL x n _)

/-! ### Where objects lie -/
structure Th where
  has : Nat → Prop
  blk : Nat → Nat
  bas : Nat → Nat
  siz : Nat → Nat
  esz : Nat → Nat
  /-- blocks of before that are the run's own -/
  ini : Nat → Prop
  ext : Nat → Value
  ext1 : ∀ n, (ext n).oneCell' = true
structure Th.le (θ θ' : Th) : Prop where
  has : ∀ o, θ.has o → θ'.has o
  blk : ∀ o, θ.has o → θ'.blk o = θ.blk o
  bas : ∀ o, θ.has o → θ'.bas o = θ.bas o
  siz : ∀ o, θ.has o → θ'.siz o = θ.siz o
  esz : ∀ o, θ.has o → θ'.esz o = θ.esz o
  ext : θ'.ext = θ.ext
  ini : θ'.ini = θ.ini
theorem Th.le.refl (θ : Th) : θ.le θ := ⟨fun _ h => h, fun _ _ => rfl, fun _ _ => rfl, fun _ _ => rfl, fun _ _ => rfl, rfl, rfl⟩
theorem Th.le.trans {θ θ' θ'' : Th} (h : θ.le θ') (h' : θ'.le θ'') : θ.le θ'' :=
  ⟨fun o ho => h'.has o (h.has o ho), fun o ho => (h'.blk o (h.has o ho)).trans (h.blk o ho), fun o ho => (h'.bas o (h.has o ho)).trans (h.bas o ho),
   fun o ho => (h'.siz o (h.has o ho)).trans (h.siz o ho), fun o ho => (h'.esz o (h.has o ho)).trans (h.esz o ho), h'.ext.trans h.ext, h'.ini.trans h.ini⟩
def bytesOf (l : List Nat) : ByteArray := ⟨(l.map UInt8.ofNat).toArray⟩

/-- the number that a value is -/
def xnat : Value → Int
  | .int _ w => w
  | _ => 0
/-- the length of a text that is handed in -/
def xlen : Value → Int
  | .string s => s.size
  | _ => 0
/-- kinds 0 to 7: a number; 8: a text; 9: its length -/
def xiV (e : Value) (k : Nat) : Value := if k = 8 then e else if k = 9 then .int .i64 (xlen e) else .int (kindOf k) (xnat e)
def xiOk (e : Value) (k r m : Nat) : Prop := (k < 8 ∧ ∃ w : Nat, xnat e = (w : Int) ∧ w % m = r ∧ w < 4294967296) ∨
  (8 ≤ k ∧ k ≤ 9 ∧ r < 256 ∧ ∃ s, e = .string s ∧ (s == bytesOf [r]) = false ∧ (bytesOf [r] == s) = false ∧ (m = 0 → s.size ≤ 100) ∧ (0 < m → 100 < s.size))
/-- the empty end of object o's row from element l on, the row beginning at off -/
def tailV (θ : Th) (o off l : Nat) : Value :=
  .slice (if (θ.siz o - off) / θ.esz o = l then some ⟨θ.blk o, θ.bas o + off, none⟩ else some ⟨θ.blk o, θ.bas o + off + l * θ.esz o, none⟩) 0 ((θ.siz o - off) / θ.esz o - l)
/-- the lane that the run is of -/
def Th.lane (θ : Th) : Nat := (xnat (θ.ext 65535)).toNat % 256
theorem Th.lane_lt (θ : Th) : θ.lane < 256 := Nat.mod_lt _ (by decide)
/-- a byte -/
def byV (θ : Th) : AV → UInt8
  | .i _ n => UInt8.ofNat n.toNat
  | .l _ N => UInt8.ofNat (ln θ.lane N)
  | _ => 0
def txV (θ : Th) (l : List AV) : ByteArray := ⟨(l.map (byV θ)).toArray⟩
def lV (k n : Nat) : Value := if k = 9 then .bool (n != 0) else .int (kindOf k) (n : Int)
def lOk (k N : Nat) : Prop := (k < 8 ∧ Lim (khi k) N) ∨ (k = 9 ∧ Lim 2 N)
def byOk (v : AV) : Prop := (∃ n : Nat, v = .i 4 (n : Int) ∧ n < 256) ∨ ∃ N, v = .l 4 N ∧ Lim 256 N
mutual
def toV (θ : Th) : AV → Value
  | .i k n => .int (kindOf k) n
  | .b c => .bool c
  | .p o f => .pointer (some ⟨θ.blk o, θ.bas o + f, none⟩)
  | .sl o f len cap => .slice (some ⟨θ.blk o, θ.bas o + f, none⟩) len (match cap with | some c => c | none => (θ.siz o - f) / θ.esz o)
  | .np => .pointer none
  | .ns => .slice none 0 0
  | .s l => .string (bytesOf l)
  | .m o => .map (some (θ.blk o))
  | .nm => .map none
  | .fn f caps => .func (.func f) #[] (toVs θ caps).toArray
  | .yl o => .func (.yield (θ.blk o)) #[] #[]
  | .nf => .nilFunc
  | .ifc t v => .iface t (toV θ v)
  | .ni => .nilIface
  | .x n => θ.ext n
  | .xi n k r m => if k = 12 then tailV θ n r m else xiV (θ.ext n) k
  | .l k N => lV k (ln θ.lane N)
  | .q o off N => .pointer (some ⟨θ.blk o, θ.bas o + (off + ln θ.lane N), none⟩)
  | .t l => .string (txV θ l)
  | .f n m => .int .i64 (xnat (θ.ext n) % (m : Int))
  | .z n _ => .int .i64 (xnat (θ.ext n))
  | .ag l => .agg (toVs θ l).toArray
  | .tu l => .tuple (toVs θ l).toArray
def toVs (θ : Th) : List AV → List Value
  | [] => []
  | v :: r => toV θ v :: toVs θ r
end
theorem toVs_map (θ : Th) : ∀ l, toVs θ l = l.map (toV θ)
  | [] => rfl
  | v :: r => by simp [toVs, toVs_map θ r]
@[simp] theorem toVs_length (θ : Th) (l : List AV) : (toVs θ l).length = l.length := by simp [toVs_map]
mutual
/-- all objects that a value names lie somewhere; its texts are bytes; its cells are cells -/
def Ok (θ : Th) : AV → Prop
  | .p o _ => θ.has o
  | .sl o _ _ _ => θ.has o
  | .s l => ∀ x ∈ l, x < 256
  | .m o => θ.has o
  | .fn _ caps => Oks θ caps
  | .yl o => θ.has o
  | .ifc _ v => Ok θ v
  | .xi n k r m => (k = 12 ∧ θ.has n) ∨ (k ≠ 12 ∧ xiOk (θ.ext n) k r m)
  | .l k N => lOk k N
  | .q o _ N => θ.has o ∧ Lim 16 N
  | .t l => ∀ v ∈ l, byOk v
  | .f n m => (∃ w : Nat, xnat (θ.ext n) = (w : Int)) ∧ 0 < m
  | .z n m => (m = 0 → xnat (θ.ext n) < 0) ∧ (0 < m → (m : Int) ≤ xnat (θ.ext n))
  | .ag l => Oks θ l ∧ l.all one = true
  | .tu l => Oks θ l
  | _ => True
def Oks (θ : Th) : List AV → Prop
  | [] => True
  | v :: r => Ok θ v ∧ Oks θ r
end
theorem Oks_iff {θ : Th} : ∀ {l : List AV}, Oks θ l ↔ ∀ v ∈ l, Ok θ v
  | [] => by simp [Oks]
  | v :: r => by simp [Oks, Oks_iff (l := r)]
mutual
theorem mono {θ θ' : Th} (h : θ.le θ') : ∀ (v : AV), Ok θ v → toV θ' v = toV θ v ∧ Ok θ' v
  | .i _ _, _ => ⟨rfl, trivial⟩
  | .b _, _ => ⟨rfl, trivial⟩
  | .p o f, hv => ⟨by simp only [toV, h.blk o hv, h.bas o hv], h.has o hv⟩
  | .sl o f len cap, hv => ⟨by simp only [toV, h.blk o hv, h.bas o hv, h.siz o hv, h.esz o hv], h.has o hv⟩
  | .np, _ => ⟨rfl, trivial⟩
  | .ns, _ => ⟨rfl, trivial⟩
  | .s _, hv => ⟨rfl, hv⟩
  | .m o, hv => ⟨by simp only [toV, h.blk o hv], h.has o hv⟩
  | .nm, _ => ⟨rfl, trivial⟩
  | .fn _ caps, hv => ⟨by simp only [toV, (monos h caps hv).1], (monos h caps hv).2⟩
  | .yl o, hv => ⟨by simp only [toV, h.blk o hv], h.has o hv⟩
  | .nf, _ => ⟨rfl, trivial⟩
  | .ifc _ v, hv => ⟨by simp only [toV, (mono h v hv).1], (mono h v hv).2⟩
  | .ni, _ => ⟨rfl, trivial⟩
  | .x n, _ => ⟨by simp only [toV, h.ext], trivial⟩
  | .xi n k r m, hv => by
      rcases (show (k = 12 ∧ θ.has n) ∨ (k ≠ 12 ∧ xiOk (θ.ext n) k r m) from hv) with ⟨h12, hn⟩ | ⟨h12, hv⟩
      · subst h12
        exact ⟨by simp only [toV, tailV, if_true, h.blk n hn, h.bas n hn, h.siz n hn, h.esz n hn], .inl ⟨rfl, h.has n hn⟩⟩
      · exact ⟨by simp only [toV, if_neg h12, h.ext], .inr ⟨h12, by rw [h.ext]; exact hv⟩⟩
  | .l k N, hv => ⟨by simp only [toV, Th.lane, h.ext], hv⟩
  | .q o off N, hv => ⟨by simp only [toV, h.blk o hv.1, h.bas o hv.1, Th.lane, h.ext], h.has o hv.1, hv.2⟩
  | .t l, hv => ⟨by
      simp only [toV, txV]
      have : byV θ' = byV θ := by funext v; cases v <;> simp only [byV, Th.lane, h.ext]
      rw [this], hv⟩
  | .f n m, hv => ⟨by simp only [toV, h.ext], by
      show (∃ w : Nat, xnat (θ'.ext n) = (w : Int)) ∧ 0 < m
      rw [h.ext]; exact hv⟩
  | .z n m, hv => ⟨by simp only [toV, h.ext], by
      show (m = 0 → xnat (θ'.ext n) < 0) ∧ (0 < m → (m : Int) ≤ xnat (θ'.ext n))
      rw [h.ext]; exact hv⟩
  | .ag l, hv => ⟨by simp only [toV, (monos h l hv.1).1], (monos h l hv.1).2, hv.2⟩
  | .tu l, hv => ⟨by simp only [toV, (monos h l hv).1], (monos h l hv).2⟩
theorem monos {θ θ' : Th} (h : θ.le θ') : ∀ (l : List AV), Oks θ l → toVs θ' l = toVs θ l ∧ Oks θ' l
  | [], _ => ⟨rfl, trivial⟩
  | v :: r, hv => ⟨by simp only [toVs, (mono h v hv.1).1, (monos h r hv.2).1], (mono h v hv.1).2, (monos h r hv.2).2⟩
end
theorem xi_ok {θ : Th} {n k r m : Nat} (hk : k < 8) (w : Nat) (h1 : xnat (θ.ext n) = (w : Int)) (h2 : w % m = r) (h3 : w < 4294967296) : Ok θ (.xi n k r m) := .inr ⟨by omega, .inl ⟨hk, w, h1, h2, h3⟩⟩
theorem xi_num {θ : Th} {n k r m : Nat} (hk : k < 8) (h : Ok θ (.xi n k r m)) : ∃ w : Nat, toV θ (.xi n k r m) = .int (kindOf k) (w : Int) ∧ xnat (θ.ext n) = (w : Int) ∧ w % m = r ∧ w < 4294967296 := by
  rcases (show (k = 12 ∧ θ.has n) ∨ (k ≠ 12 ∧ xiOk (θ.ext n) k r m) from h) with ⟨h12, _⟩ | ⟨h12, ⟨_, w, h1, h2, h3⟩ | ⟨h8, _⟩⟩
  · omega
  · refine ⟨w, ?_, h1, h2, h3⟩
    show (if k = 12 then _ else xiV _ _) = _
    rw [if_neg h12, xiV, if_neg (by omega), if_neg (by omega), h1]
  · omega
theorem xi_str {θ : Th} {n r m : Nat} (h : Ok θ (.xi n 8 r m)) : r < 256 ∧ ∃ s, toV θ (.xi n 8 r m) = .string s ∧ toV θ (.xi n 9 r m) = .int .i64 s.size ∧ Ok θ (.xi n 9 r m) ∧ (s == bytesOf [r]) = false ∧ (bytesOf [r] == s) = false := by
  rcases (show (8 = 12 ∧ θ.has n) ∨ (8 ≠ 12 ∧ xiOk (θ.ext n) 8 r m) from h) with ⟨h12, _⟩ | ⟨_, ⟨h8, _⟩ | ⟨_, _, hr, s, h1, h2, h3, h4, h5⟩⟩
  · omega
  · omega
  · exact ⟨hr, s, h1, by show (if 9 = 12 then _ else xiV _ _) = _; rw [if_neg (by decide), h1]; rfl, .inr ⟨by omega, .inr ⟨by omega, by omega, hr, s, h1, h2, h3, h4, h5⟩⟩, h2, h3⟩
theorem xi_len {θ : Th} {n r m : Nat} (h : Ok θ (.xi n 9 r m)) : ∃ k : Nat, toV θ (.xi n 9 r m) = .int .i64 k ∧ (m = 0 → k ≤ 100) ∧ (0 < m → 100 < k) := by
  rcases (show (9 = 12 ∧ θ.has n) ∨ (9 ≠ 12 ∧ xiOk (θ.ext n) 9 r m) from h) with ⟨h12, _⟩ | ⟨_, ⟨h8, _⟩ | ⟨_, _, hr, s, h1, h2, h3, h4, h5⟩⟩
  · omega
  · omega
  · exact ⟨s.size, by show (if 9 = 12 then _ else xiV _ _) = _; rw [if_neg (by decide), h1]; rfl, h4, h5⟩
/-- a value, as it stands in a world -/
def VR (θ : Th) (v : AV) (u : Value) : Prop := Ok θ v ∧ u = toV θ v
theorem VR.mono {θ θ' : Th} (h : θ.le θ') {v : AV} {u : Value} (hv : VR θ v u) : VR θ' v u := ⟨(AM.mono h v hv.1).2, by rw [(AM.mono h v hv.1).1]; exact hv.2⟩

/-- the temporaries -/
def ER (θ : Th) (en : Env) (tmps : Array Value) : Prop := ∀ t, t < 512 → VR θ (getL AV 3 t en) (tmps.getD t Go.undef)
theorem ER.mono {θ θ' : Th} (h : θ.le θ') {en : Env} {tmps : Array Value} (he : ER θ en tmps) : ER θ' en tmps := fun t ht => (he t ht).mono h

/-! ### Objects -/
/-- the cell at a place -/
def nthO {α : Type} : List α → Nat → Option α
  | [], _ => none
  | x :: _, 0 => some x
  | _ :: r, n + 1 => nthO r n
theorem nthO_eq {α : Type} : ∀ (l : List α) (n : Nat), nthO l n = l[n]?
  | [], n => by simp [nthO]
  | x :: _, 0 => by simp [nthO]
  | _ :: r, n + 1 => by simp [nthO, nthO_eq r n]
def cellO (z : List AV) (zl d : Nat) (t : L (Option AV) d) (i : Nat) : Option AV := match getL (Option AV) d i t with
  | some v => some v
  | none => z[i % zl]?
def meV (θ : Th) : ME → MapEntry
  | .mk k v b => { key := toV θ k, val := toV θ v, born := b }
def meOk (θ : Th) : ME → Prop
  | .mk k v _ => Ok θ k ∧ Ok θ v
def jCode : J → Option Code
  | .no => none
  | .ret => some .ret
  | .exit id => some (.exit id)
/-- nothing of n cells is shut -/
def Fz (fz : Nat × Nat) (n : Nat) : Prop := fz = (0, 0) ∨ n ≤ fz.1
theorem Fz.free {fz : Nat × Nat} {n : Nat} (h : Fz fz n) : ∀ i, i < n → (fz.1 ≤ i && i < fz.2) = false := by
  intro i hi
  rcases h with rfl | h
  · simp
  · have : ¬ (fz.1 ≤ i) := by omega
    simp [this]
/-- an object's block, and what it holds -/
def OR (P : Program) (θ : Th) (w : World) (o : Nat) : AO → Prop
  | .sm l => ∃ ty, w.heap[θ.blk o]? = some (.cells (toVs θ l).toArray ty (0, 0)) ∧ θ.bas o = 0 ∧ Oks θ l ∧ l.all one = true
  | .ce n es z zl d t _ _ => ∃ c ty fz, w.heap[θ.blk o]? = some (.cells c ty fz) ∧ n ≤ 8 ^ d ∧
      (∀ i, i < n → ∃ v, cellO z zl d t i = some v ∧ Ok θ v ∧ one v = true ∧ c[θ.bas o + i]? = some (toV θ v)) ∧
      Fz fz c.size ∧
      (es = 0 → θ.bas o = 0 ∧ c.size = n ∧ (zl ≠ 0 → fz = (0, 0))) ∧ (es ≠ 0 → θ.esz o = es ∧ n ≤ θ.siz o ∧ θ.bas o + θ.siz o ≤ c.size)
  | .mp es clock => w.heap[θ.blk o]? = some (.map (es.map (meV θ)).toArray clock) ∧ ∀ e ∈ es, meOk θ e
  | .it m since seen st => w.heap[θ.blk o]? = some (.mapIter (m.map θ.blk) since seen.toArray st) ∧ (∀ k, m = some k → θ.has k) ∧ θ.bas o = 0
  | .lp st j fn li en ds => ∃ fu code ps a b tmps, P.funcs[fn]? = some fu ∧ fu.body = some code ∧ nrf code ≤ 16 ∧ (li, ps, a, b) ∈ rfs (liOf fn) code ∧
      w.heap[θ.blk o]? = some (.loop { state := st, pending := jCode j, fn := fn, tmps := tmps, params := ps, assign := a, body := b, defers := θ.blk ds }) ∧
      ER θ en tmps ∧ fu.ntmps ≤ tmps.size ∧ θ.has ds
  | .df c => w.heap[θ.blk o]? = some (.deferred (if c then some [] else none))
  | .dead => True
theorem OR.mono {P : Program} {θ θ' : Th} {w w' : World} {o : Nat} (h : θ.le θ') (ho : θ.has o) (hw : w'.heap[θ.blk o]? = w.heap[θ.blk o]?) : ∀ {a : AO}, OR P θ w o a → OR P θ' w' o a
  | .sm l, ⟨ty, h1, h2, h3, h4⟩ => ⟨ty, by rw [h.blk o ho, hw, (monos h l h3).1]; exact h1, by rw [h.bas o ho]; exact h2, (monos h l h3).2, h4⟩
  | .ce n es z zl d t top sh, ⟨c, ty, fz, h1, h2, h3, h4, h5, h6⟩ => ⟨c, ty, fz, by rw [h.blk o ho, hw]; exact h1, h2, fun i hi => by
      obtain ⟨v, e1, e2, e3, e4⟩ := h3 i hi
      exact ⟨v, e1, (AM.mono h v e2).2, e3, by rw [h.bas o ho, (AM.mono h v e2).1]; exact e4⟩, h4, by rw [h.bas o ho]; exact h5, by rw [h.bas o ho, h.siz o ho, h.esz o ho]; exact h6⟩
  | .mp es clock, ⟨h1, h2⟩ => by
      refine ⟨?_, fun e he => ?_⟩
      · rw [h.blk o ho, hw, h1]
        congr 3
        refine List.map_congr_left fun e he => ?_
        obtain ⟨k, v, b⟩ := e
        have := h2 _ he
        simp only [meV, (AM.mono h k this.1).1, (AM.mono h v this.2).1]
      · obtain ⟨k, v, b⟩ := e
        have := h2 _ he
        exact ⟨(AM.mono h k this.1).2, (AM.mono h v this.2).2⟩
  | .it m since seen st, ⟨h1, h2, h3⟩ => by
      refine ⟨?_, fun k hk => h.has k (h2 k hk), by rw [h.bas o ho]; exact h3⟩
      rw [h.blk o ho, hw, h1]
      cases m with
      | none => rfl
      | some m => simp [h.blk m (h2 m rfl)]
  | .lp st j fn li en ds, ⟨fu, code, ps, a, b, tmps, h1, h2, h2', h3, h4, h5, h6, h7⟩ => ⟨fu, code, ps, a, b, tmps, h1, h2, h2', h3, by rw [h.blk o ho, hw, h.blk ds h7]; exact h4, h5.mono h, h6, h.has ds h7⟩
  | .df c, h1 => by show _ = _; rw [h.blk o ho, hw]; exact h1
  | .dead, _ => trivial

/-- may it be written -/
def AO.wr : AO → Bool
  | .ce _ _ _ _ _ _ top _ => top
  | .dead => false
  | _ => true
def AO.live : AO → Bool
  | .dead => false
  | _ => true
def AO.sh : AO → List Nat
  | .ce _ _ _ _ _ _ _ sh => sh
  | _ => []
/-- how far it reaches -/
def AO.ext (θ : Th) (o : Nat) : AO → Nat
  | .ce n _ _ _ _ _ _ _ => θ.bas o + n
  | _ => 0
abbrev obj (h : H) (o : Nat) : Option AO := getL (Option AO) 5 o h
/-- nothing lies behind -/
def Fresh (h : H) (nx : Nat) : Prop := ∀ o a, o < 32768 → obj h o = some a → o < nx
/-- the heap, as it lies in world w; w0: the world in which the run began; pd: objects that are to be laid still -/
structure HR (P : Program) (w0 : World) (pd : List (Nat × AO)) (θ : Th) (h : H) (nx : Nat) (w : World) : Prop where
  lim : nx ≤ 32768
  own : ∀ o, θ.has o → o < nx ∧ (w0.heap.size ≤ θ.blk o ∨ θ.ini (θ.blk o)) ∧ θ.blk o < w.heap.size ∧ ∃ a, obj h o = some a ∧ OR P θ w o a ∧ ∀ x ∈ a.sh, θ.has x
  apart : ∀ o o' a a', o ≠ o' → θ.has o → θ.has o' → obj h o = some a → obj h o' = some a' → a.wr = true → a'.live = true → θ.blk o = θ.blk o' → o' ∈ a.sh ∧ a'.ext θ o' ≤ a.ext θ o ∧ a'.wr = false
  size : w0.heap.size ≤ w.heap.size
  kept : ∀ b, b < w0.heap.size → ¬ θ.ini b → w.heap[b]? = w0.heap[b]?
  plain : w.os = w0.os ∧ w.tape = w0.tape ∧ w.output = w0.output
  pend : ∀ o a, (o, a) ∈ pd → ¬ θ.has o ∧ o < nx ∧ obj h o = some a
  nodup : (pd.map (·.1)).Nodup
  fresh : Fresh h nx
end Go.AM
