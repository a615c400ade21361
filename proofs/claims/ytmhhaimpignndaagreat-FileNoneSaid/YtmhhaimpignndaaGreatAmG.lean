/-
  AM, 8: operands, numbers, texts: what the machine works out is what the model does. Conditions: none.
-/
import Derived.Test.YtmhhaimpignndaaGreatAmF
import Derived.Laws.Strings
import Derived.Laws.StructEq
namespace Go.AM
open Go

/-! ### What a value is taken for -/
theorem asK_true {k : Nat} {κ : Int → R} {v : AV} (e : asK k κ v = true) : ∃ n, v = .i k n ∧ κ n = true := by
  cases v <;> first | (cases e; done) | skip
  rename_i k' n
  obtain ⟨h1, h2⟩ := br_t e
  have := Nat.eq_of_beq_eq_true h1
  subst this
  exact ⟨n, rfl, h2⟩
theorem asK_i (k : Nat) (κ : Int → R) (n : Int) : asK k κ (.i k n) = κ n := by
  show br (Nat.beq k k) (κ n) false = _
  rw [Nat.beq_refl]; rfl
theorem asI_true {κ : Nat → Int → R} {v : AV} (e : asI κ v = true) : ∃ k n, v = .i k n ∧ κ k n = true := by
  cases v <;> first | (cases e; done) | skip
  exact ⟨_, _, rfl, e⟩
theorem asN_true {κ : Nat → R} {v : AV} (e : asN κ v = true) : ∃ k n, v = .i k (.ofNat n) ∧ κ n = true := by
  cases v <;> first | (cases e; done) | skip
  rename_i k n
  cases n with
  | ofNat n => exact ⟨k, n, rfl, e⟩
  | negSucc n => cases e
theorem asB_true {κ : Bool → R} {v : AV} (e : asB κ v = true) : ∃ c, v = .b c ∧ κ c = true := by
  cases v <;> first | (cases e; done) | skip
  exact ⟨_, rfl, e⟩
theorem asP_true {κ : Nat → Nat → R} {v : AV} (e : asP κ v = true) : ∃ o i, v = .p o i ∧ κ o i = true := by
  cases v <;> first | (cases e; done) | skip
  exact ⟨_, _, rfl, e⟩
theorem asS_true {κ : List Nat → R} {v : AV} (e : asS κ v = true) : ∃ l, v = .s l ∧ κ l = true := by
  cases v <;> first | (cases e; done) | skip
  exact ⟨_, rfl, e⟩
theorem asM_true {κ : Nat → R} {v : AV} (e : asM κ v = true) : ∃ o, v = .m o ∧ κ o = true := by
  cases v <;> first | (cases e; done) | skip
  exact ⟨_, rfl, e⟩
theorem asTu_true {κ : List AV → R} {v : AV} (e : asTu κ v = true) : ∃ l, v = .tu l ∧ κ l = true := by
  cases v <;> first | (cases e; done) | skip
  exact ⟨_, rfl, e⟩
theorem asAg_true {κ : List AV → R} {v : AV} (e : asAg κ v = true) : ∃ l, v = .ag l ∧ κ l = true := by
  cases v <;> first | (cases e; done) | skip
  exact ⟨_, rfl, e⟩
theorem asSl_true {κ : Nat → Nat → Nat → Option Nat → R} {v : AV} (e : asSl κ v = true) : ∃ o off len cap, v = .sl o off len cap ∧ κ o off len cap = true := by
  cases v <;> first | (cases e; done) | skip
  exact ⟨_, _, _, _, rfl, e⟩
/-- the cells of a value -/
def cellsV : AV → List AV
  | .ag l => l
  | v => [v]
theorem cells_one {u : Value} (h : u.oneCell' = true) : u.cells.toList = [u] := by
  cases u <;> first | rfl | cases h
theorem cellsK_true {κ : List AV → R} {v : AV} (e : cellsK κ v = true) : (∀ κ', cellsK κ' v = κ' (cellsV v)) ∧ κ (cellsV v) = true ∧
    ∀ {θ : Th} {u : Value}, VR θ v u → Oks θ (cellsV v) ∧ (cellsV v).all one = true ∧ u.cells.toList = toVs θ (cellsV v) := by
  cases v <;> first
    | (cases e; done)
    | exact ⟨fun _ => rfl, e, fun {θ u} h => ⟨⟨h.1, trivial⟩, rfl, by rw [h.2]; rfl⟩⟩
    | exact ⟨fun _ => rfl, e, fun {θ u} h => ⟨⟨h.1, trivial⟩, rfl, by rw [h.2]; exact cells_one (θ.ext1 _)⟩⟩
    | exact ⟨fun _ => rfl, e, fun {θ u} h => ⟨⟨h.1, trivial⟩, rfl, by rw [h.2]; exact cells_one (toV_one rfl)⟩⟩
    | exact ⟨fun _ => rfl, e, fun {θ u} h => ⟨h.1.1, h.1.2, by rw [h.2]; simp [toV, Value.cells, cellsV]⟩⟩
section
variable {θ : Th} {u : Value}
theorem VR.i {k : Nat} {n : Int} (h : VR θ (.i k n) u) : u = .int (kindOf k) n := h.2
theorem VR.b {c : Bool} (h : VR θ (.b c) u) : u = .bool c := h.2
theorem VR.p {o i : Nat} (h : VR θ (.p o i) u) : u = .pointer (some ⟨θ.blk o, θ.bas o + i, none⟩) ∧ θ.has o := ⟨h.2, h.1⟩
theorem VR.s {l : List Nat} (h : VR θ (.s l) u) : u = .string (bytesOf l) ∧ ∀ x ∈ l, x < 256 := ⟨h.2, h.1⟩
theorem VR.m {o : Nat} (h : VR θ (.m o) u) : u = .map (some (θ.blk o)) ∧ θ.has o := ⟨h.2, h.1⟩
theorem VR.ag {l : List AV} (h : VR θ (.ag l) u) : u = .agg (toVs θ l).toArray ∧ Oks θ l ∧ l.all one = true := ⟨h.2, h.1⟩
theorem VR.tu {l : List AV} (h : VR θ (.tu l) u) : u = .tuple (toVs θ l).toArray ∧ Oks θ l := ⟨h.2, h.1⟩
theorem VR.sls {o off len c : Nat} (h : VR θ (.sl o off len (some c)) u) : u = .slice (some ⟨θ.blk o, θ.bas o + off, none⟩) len c ∧ θ.has o := ⟨h.2, h.1⟩
theorem VR.sln {o off len : Nat} (h : VR θ (.sl o off len none) u) : u = .slice (some ⟨θ.blk o, θ.bas o + off, none⟩) len ((θ.siz o - off) / θ.esz o) ∧ θ.has o := ⟨h.2, h.1⟩
theorem VR.sl {o off len : Nat} {cap : Option Nat} (h : VR θ (.sl o off len cap) u) : θ.has o ∧ ∃ c, u = .slice (some ⟨θ.blk o, θ.bas o + off, none⟩) len c := by
  cases cap with
  | some c => exact ⟨h.1, c, h.2⟩
  | none => exact ⟨h.1, _, h.2⟩
theorem vr_i (θ : Th) (k : Nat) (n : Int) : VR θ (.i k n) (.int (kindOf k) n) := ⟨trivial, rfl⟩
theorem vr_b (θ : Th) (c : Bool) : VR θ (.b c) (.bool c) := ⟨trivial, rfl⟩
end

/-! ### Operands -/
theorem kind_kn (k : IntKind) : kindOf (kn k) = k := by cases k <;> rfl
theorem omap_some {α β : Type} {f : α → Option β} : ∀ {l : List α} {r : List β}, omap f l = some r → l.length = r.length ∧ ∀ (i : Nat) (x : α), l[i]? = some x → ∃ y, r[i]? = some y ∧ f x = some y
  | [], r, h => by cases h; exact ⟨rfl, fun i x h => by simp at h⟩
  | x :: l, r, h => by
    unfold omap at h
    split at h
    · rename_i y s hy hs
      injection h with h; subst h
      obtain ⟨h1, h2⟩ := omap_some hs
      refine ⟨by simp [h1], fun i z hz => ?_⟩
      cases i with
      | zero => simp at hz; subst hz; exact ⟨y, rfl, hy⟩
      | succ i => exact h2 i z (by simpa using hz)
    · cases h
theorem omap_map {α β γ : Type} {f : α → Option β} {g : β → γ} {k : α → γ} {l : List α} {r : List β} (h : omap f l = some r) (hg : ∀ x y, x ∈ l → f x = some y → g y = k x) : r.map g = l.map k := by
  obtain ⟨h1, h2⟩ := omap_some h
  apply List.ext_getElem?
  intro i
  simp only [List.getElem?_map]
  cases hl : l[i]? with
  | none =>
    have : r[i]? = none := by
      rw [List.getElem?_eq_none_iff] at hl ⊢; omega
    rw [this]; rfl
  | some x =>
    obtain ⟨y, hy, hf⟩ := h2 i x hl
    rw [hy]
    simp [hg x y (List.mem_of_getElem? hl) hf]
theorem bytesOf_toNat (s : ByteArray) : bytesOf (s.data.toList.map (·.toNat)) = s := by
  unfold bytesOf
  rw [List.map_map]
  have : (UInt8.ofNat ∘ fun x : UInt8 => x.toNat) = id := by funext x; simp
  rw [this]; simp
theorem ofV_ok (θ : Th) : ∀ {n : Nat} {v : Value} {x : AV}, ofV n v = some x → VR θ x v
  | 0, _, _, h => by simp [ofV] at h
  | n + 1, v, x, h => by
    unfold ofV at h
    split at h
    · injection h with h; subst h; exact ⟨trivial, rfl⟩
    · injection h with h; subst h; exact ⟨trivial, by simp [toV, kind_kn]⟩
    · injection h with h; subst h
      refine ⟨fun x hx => ?_, by simp [toV, bytesOf_toNat]⟩
      obtain ⟨y, _, rfl⟩ := List.mem_map.1 hx
      exact y.toNat_lt
    · injection h with h; subst h; exact ⟨trivial, rfl⟩
    · injection h with h; subst h; exact ⟨trivial, rfl⟩
    · injection h with h; subst h; exact ⟨trivial, rfl⟩
    · injection h with h; subst h; exact ⟨trivial, rfl⟩
    · injection h with h; subst h; exact ⟨trivial, rfl⟩
    · rename_i t v
      cases hv : ofV n v with
      | none => rw [hv] at h; cases h
      | some y =>
        rw [hv] at h; injection h with h; subst h
        have := ofV_ok θ hv
        exact ⟨this.1, by rw [this.2]; rfl⟩
    · rename_i cs
      split at h
      · rename_i l hl
        split at h
        · rename_i h1
          injection h with h; subst h
          refine ⟨⟨Oks_iff.2 fun y hy => ?_, h1⟩, ?_⟩
          · obtain ⟨i, hi⟩ := List.getElem?_of_mem hy
            obtain ⟨k1, k2⟩ := omap_some hl
            have hlt : i < cs.toList.length := by rw [k1]; exact (List.getElem?_eq_some_iff.1 hi).1
            obtain ⟨z, q1, q2⟩ := k2 i _ (List.getElem?_eq_getElem hlt)
            rw [hi] at q1; injection q1 with q1; subst q1
            exact (ofV_ok θ q2).1
          · have := omap_map (g := toV θ) (k := id) hl (fun x y _ hf => (ofV_ok θ hf).2.symm)
            simp only [toV, toVs_map, this, List.map_id, Array.toArray_toList]
        · cases h
      · cases h
    · rename_i cs
      cases hl : omap (ofV n) cs.toList with
      | none => rw [hl] at h; cases h
      | some l =>
        rw [hl] at h; injection h with h; subst h
        refine ⟨Oks_iff.2 fun y hy => ?_, ?_⟩
        · obtain ⟨i, hi⟩ := List.getElem?_of_mem hy
          obtain ⟨k1, k2⟩ := omap_some hl
          have hlt : i < cs.toList.length := by rw [k1]; exact (List.getElem?_eq_some_iff.1 hi).1
          obtain ⟨z, q1, q2⟩ := k2 i _ (List.getElem?_eq_getElem hlt)
          rw [hi] at q1; injection q1 with q1; subst q1
          exact (ofV_ok θ q2).1
        · have := omap_map (g := toV θ) (k := id) hl (fun x y _ hf => (ofV_ok θ hf).2.symm)
          simp only [toV, toVs_map, this, List.map_id, Array.toArray_toList]
    · cases h
/-- an operand -/
def XOk (x : XF) (y : Operand) : Prop := ∀ en, ∃ v, (∀ κ, x en κ = κ v) ∧ ∀ θ (a : Act), ER θ en a.tmps → VR θ v (a.eval y)
theorem x_ok {y : Operand} {x : X} (h : trX y = some x) : XOk (dX x) y := by
  intro en
  unfold trX at h
  split at h
  · rename_i t
    split at h
    · rename_i ht
      injection h with h; subst h
      exact ⟨getL AV 3 t en, fun κ => getK_eq κ 3 t en, fun θ a hE => hE t ht⟩
    · cases h
  · rename_i v
    cases hv : ofV 40 v with
    | none => rw [hv] at h; cases h
    | some y =>
      rw [hv] at h; injection h with h; subst h
      exact ⟨y, fun _ => rfl, fun θ a _ => ofV_ok θ hv⟩
  · injection h with h; subst h
    exact ⟨.fn _ [], fun _ => rfl, fun θ a _ => ⟨trivial, rfl⟩⟩
  · cases h
/-- operands -/
def XsOk (xs : XsF) (ys : List Operand) : Prop := ∀ en, ∃ vs, (∀ κ, xs en κ = κ vs) ∧ vs.length = ys.length ∧ ∀ θ (a : Act), ER θ en a.tmps → Oks θ vs ∧ ys.map a.eval = toVs θ vs
theorem xs_ok : ∀ {ys : List Operand} {xs : List X}, omap trX ys = some xs → XsOk (dXs xs) ys
  | [], xs, h => by
    cases h
    exact fun en => ⟨[], fun _ => rfl, rfl, fun _ _ _ => ⟨trivial, rfl⟩⟩
  | y :: ys, xs, h => by
    unfold omap at h
    split at h
    · rename_i x r hx hr
      injection h with h; subst h
      intro en
      obtain ⟨v, h1, h2⟩ := x_ok hx en
      obtain ⟨vs, k1, k3, k2⟩ := xs_ok hr en
      refine ⟨v :: vs, fun κ => ?_, by simp [k3], fun θ a hE => ?_⟩
      · show dX x en (fun v => dXs r en fun vs => κ (v :: vs)) = _
        rw [h1, k1]
      · exact ⟨⟨(h2 θ a hE).1, (k2 θ a hE).1⟩, by simp only [List.map_cons, toVs, (h2 θ a hE).2, (k2 θ a hE).2]⟩
    · cases h

/-! ### Numbers -/
theorem khi_le (k : Nat) : khi k ≤ 2 ^ (kindOf k).bits := by
  rcases k with _ | _ | _ | _ | _ | _ | _ | k <;> simp [khi, kindOf, IntKind.bits]
theorem wrap_nat {k m : Nat} (h : m < khi k) : (kindOf k).wrap (.ofNat m) = .ofNat m := by
  rcases k with _ | _ | _ | _ | _ | _ | _ | k <;> simp only [khi, kindOf] at h ⊢ <;> simp only [IntKind.wrap, IntKind.bits, IntKind.signed, Int.ofNat_eq_natCast] <;> simp <;> omega
theorem wrap_neg {k m : Nat} (h : m < klo k) : (kindOf k).wrap (.negSucc m) = .negSucc m := by
  rcases k with _ | _ | _ | _ | k <;> simp only [klo, kindOf] at h ⊢ <;> first | omega | (simp only [IntKind.wrap, IntKind.bits, IntKind.signed, Int.negSucc_eq]; simp; omega)
theorem wrN_eq (k m : Nat) (κ : Int → R) : wrN k m κ = κ ((kindOf k).wrap (.ofNat m)) := by
  unfold wrN
  rw [fnat_eq]
  cases h : Nat.blt m (khi k) with
  | true => rw [wrap_nat (by simpa [Nat.blt_eq] using h)]; rfl
  | false => exact fint_eq _ _
theorem wrG_eq (k m : Nat) (κ : Int → R) : wrG k m κ = κ ((kindOf k).wrap (.negSucc m)) := by
  unfold wrG
  rw [fnat_eq]
  cases h : Nat.blt m (klo k) with
  | true => rw [wrap_neg (by simpa [Nat.blt_eq] using h)]; rfl
  | false => exact fint_eq _ _
theorem wrap_eq (k : Nat) (n : Int) (κ : Int → R) : wrap k n κ = κ ((kindOf k).wrap n) := by
  cases n with
  | ofNat m => exact wrN_eq k m κ
  | negSucc m => exact wrG_eq k m κ
theorem arAdd_eq (k : Nat) (a b : Int) (κ : Int → R) : arAdd k a b κ = κ ((kindOf k).wrap (a + b)) := by
  unfold arAdd
  cases a <;> cases b <;> simp only [sgn] <;> first | exact wrN_eq _ _ _ | exact wrap_eq _ _ _
theorem arSub_eq (k : Nat) (a b : Int) (κ : Int → R) : arSub k a b κ = κ ((kindOf k).wrap (a - b)) := by
  unfold arSub
  cases a <;> cases b <;> simp only [sgn] <;> try exact wrap_eq _ _ _
  rename_i m n
  cases h : Nat.ble n m with
  | false => exact wrap_eq _ _ _
  | true =>
    have h := Nat.le_of_ble_eq_true h
    refine (wrN_eq _ _ _).trans ?_
    congr 2
    show ((Nat.sub m n : Nat) : Int) = (m : Int) - (n : Int)
    have : Nat.sub m n = m - n := rfl
    rw [this]; omega
theorem arMul_eq (k : Nat) (a b : Int) (κ : Int → R) : arMul k a b κ = κ ((kindOf k).wrap (a * b)) := by
  unfold arMul
  cases a <;> cases b <;> simp only [sgn] <;> first | exact wrN_eq _ _ _ | exact wrap_eq _ _ _
theorem isZ_true {b : Int} {nz : R} (e : isZ b false nz = true) : b ≠ 0 ∧ nz = true := by
  cases b with
  | ofNat n =>
    obtain ⟨h1, h2⟩ := br_f e
    refine ⟨fun h => ?_, h2⟩
    have : n = 0 := by have h : (n : Int) = 0 := h; omega
    subst this
    simp at h1
  | negSucc n => exact ⟨by simp, e⟩
theorem isZ_eq {b : Int} (h : b ≠ 0) (nz : R) : isZ b false nz = nz := by
  cases b with
  | ofNat n =>
    show br (Nat.beq n 0) false nz = nz
    have : Nat.beq n 0 = false := by
      cases n with
      | zero => exact absurd rfl h
      | succ n => rfl
    rw [this]; rfl
  | negSucc n => rfl
theorem arQuo_eq (k : Nat) (a b : Int) (κ : Int → R) (h : b ≠ 0) : arQuo k a b κ = κ ((kindOf k).wrap (a.tdiv b)) := by
  unfold arQuo
  rw [isZ_eq h]
  cases a <;> cases b <;> simp only [sgn] <;> first | exact wrN_eq _ _ _ | exact wrap_eq _ _ _
theorem arRem_eq (k : Nat) (a b : Int) (κ : Int → R) (h : b ≠ 0) : arRem k a b κ = κ (a.tmod b) := by
  unfold arRem
  rw [isZ_eq h]
  cases a <;> cases b <;> simp only [sgn] <;> first | exact fnat_eq _ _ | exact fint_eq _ _
theorem khi_pow (k : Nat) : ∃ n, khi k = 2 ^ n ∧ n ≤ (kindOf k).bits := by
  rcases k with _ | _ | _ | _ | _ | _ | _ | k
  · exact ⟨7, rfl, by decide⟩
  · exact ⟨15, rfl, by decide⟩
  · exact ⟨31, rfl, by decide⟩
  · exact ⟨63, rfl, by decide⟩
  · exact ⟨8, rfl, by decide⟩
  · exact ⟨16, rfl, by decide⟩
  · exact ⟨32, rfl, by decide⟩
  · exact ⟨64, rfl, by show 64 ≤ IntKind.u64.bits; decide⟩
theorem ofInt_nat {w m : Nat} : BitVec.ofInt w (.ofNat m) = BitVec.ofNat w m := by
  apply BitVec.eq_of_toNat_eq
  simp
theorem arBit_eq {op : BinOp} {f : Nat → Nat → Nat} {k : Nat} (hf : ∀ m n, m < khi k → n < khi k → bitsI op (kindOf k) (.ofNat m) (.ofNat n) = .ofNat (f m n)) (a b : Int) (κ : Int → R) :
    arBit op f k a b κ = κ (bitsI op (kindOf k) a b) := by
  unfold arBit
  cases a <;> cases b <;> simp only [sgn] <;> try exact fint_eq _ _
  rename_i m n
  cases h1 : Nat.blt m (khi k) with
  | false => exact fint_eq _ _
  | true =>
    cases h2 : Nat.blt n (khi k) with
    | false => exact fint_eq _ _
    | true =>
      show fnat (f m n) (fun r => κ (.ofNat r)) = _
      rw [fnat_eq, hf m n (by simpa [Nat.blt_eq] using h1) (by simpa [Nat.blt_eq] using h2)]
section
variable {k m n : Nat}
theorem toNat_lo (h : m < khi k) : (BitVec.ofNat (kindOf k).bits m).toNat = m := by
  rw [BitVec.toNat_ofNat, Nat.mod_eq_of_lt (Nat.lt_of_lt_of_le h (khi_le k))]
theorem bits_and (h1 : m < khi k) (h2 : n < khi k) : bitsI .and (kindOf k) (.ofNat m) (.ofNat n) = .ofNat (Nat.land m n) := by
  have e : (BitVec.ofNat (kindOf k).bits m &&& BitVec.ofNat (kindOf k).bits n).toNat = Nat.land m n := by rw [BitVec.toNat_and, toNat_lo h1, toNat_lo h2]; rfl
  simp only [bitsI, ofInt_nat, e]
  exact wrap_nat (Nat.lt_of_le_of_lt Nat.and_le_left h1)
theorem bits_or (h1 : m < khi k) (h2 : n < khi k) : bitsI .or (kindOf k) (.ofNat m) (.ofNat n) = .ofNat (Nat.lor m n) := by
  have e : (BitVec.ofNat (kindOf k).bits m ||| BitVec.ofNat (kindOf k).bits n).toNat = Nat.lor m n := by rw [BitVec.toNat_or, toNat_lo h1, toNat_lo h2]; rfl
  simp only [bitsI, ofInt_nat, e]
  obtain ⟨q, hq, _⟩ := khi_pow k
  rw [hq] at h1 h2
  exact wrap_nat (by rw [hq]; exact Nat.or_lt_two_pow h1 h2)
theorem bits_xor (h1 : m < khi k) (h2 : n < khi k) : bitsI .xor (kindOf k) (.ofNat m) (.ofNat n) = .ofNat (Nat.xor m n) := by
  have e : (BitVec.ofNat (kindOf k).bits m ^^^ BitVec.ofNat (kindOf k).bits n).toNat = Nat.xor m n := by rw [BitVec.toNat_xor, toNat_lo h1, toNat_lo h2]; rfl
  simp only [bitsI, ofInt_nat, e]
  obtain ⟨q, hq, _⟩ := khi_pow k
  rw [hq] at h1 h2
  exact wrap_nat (by rw [hq]; exact Nat.xor_lt_two_pow h1 h2)
theorem bits_anot (h1 : m < khi k) (h2 : n < khi k) : bitsI .andNot (kindOf k) (.ofNat m) (.ofNat n) = .ofNat (Nat.xor m (Nat.land m n)) := by
  have e0 : ∀ a b : BitVec (kindOf k).bits, a &&& ~~~b = a ^^^ (a &&& b) := by
    intro a b
    apply BitVec.eq_of_getLsbD_eq
    intro i hi
    simp only [BitVec.getLsbD_and, BitVec.getLsbD_xor, BitVec.getLsbD_not, hi, decide_true, Bool.true_and]
    cases a.getLsbD i <;> cases b.getLsbD i <;> rfl
  have e : (BitVec.ofNat (kindOf k).bits m &&& ~~~BitVec.ofNat (kindOf k).bits n).toNat = Nat.xor m (Nat.land m n) := by rw [e0, BitVec.toNat_xor, BitVec.toNat_and, toNat_lo h1, toNat_lo h2]; rfl
  simp only [bitsI, ofInt_nat, e]
  obtain ⟨q, hq, _⟩ := khi_pow k
  have h3 : Nat.land m n < khi k := Nat.lt_of_le_of_lt Nat.and_le_left h1
  rw [hq] at h1 h3
  exact wrap_nat (by rw [hq]; exact Nat.xor_lt_two_pow h1 h3)
end
theorem arAnd_eq (k : Nat) (a b : Int) (κ : Int → R) : arAnd k a b κ = κ (bitsI .and (kindOf k) a b) := arBit_eq (fun _ _ h1 h2 => bits_and h1 h2) a b κ
theorem arOr_eq (k : Nat) (a b : Int) (κ : Int → R) : arOr k a b κ = κ (bitsI .or (kindOf k) a b) := arBit_eq (fun _ _ h1 h2 => bits_or h1 h2) a b κ
theorem arXor_eq (k : Nat) (a b : Int) (κ : Int → R) : arXor k a b κ = κ (bitsI .xor (kindOf k) a b) := arBit_eq (fun _ _ h1 h2 => bits_xor h1 h2) a b κ
theorem arAnn_eq (k : Nat) (a b : Int) (κ : Int → R) : arAnn k a b κ = κ (bitsI .andNot (kindOf k) a b) := arBit_eq (fun _ _ h1 h2 => bits_anot h1 h2) a b κ
theorem kbit_eq (k : Nat) : kbit k = (kindOf k).bits := by rcases k with _ | _ | _ | _ | _ | _ | _ | k <;> rfl
theorem shl_eq (k : Nat) (a : Int) (n : Nat) (κ : Int → R) : shl k a n κ = κ ((kindOf k).wrap (a * 2 ^ min n (kindOf k).bits)) := by
  unfold shl
  rw [wrap_eq, kbit_eq]
  congr 2
theorem shr_eq (k : Nat) (a : Int) (n : Nat) (κ : Int → R) : shr k a n κ = κ (a.fdiv (2 ^ min n (kindOf k).bits)) := by
  unfold shr
  rw [kbit_eq]
  cases a with
  | ofNat m =>
    refine (fnat_eq _ _).trans ?_
    congr 1
    have : ((2 : Int) ^ min n (kindOf k).bits) = ((2 ^ min n (kindOf k).bits : Nat) : Int) := by simp
    rw [this, Int.fdiv_eq_ediv_of_nonneg _ (Int.natCast_nonneg _)]
    rfl
  | negSucc m =>
    refine (fint_eq _ _).trans ?_
    congr 2
theorem cmLt_eq (a b : Int) (κ : Bool → R) : cmLt a b κ = κ (decide (a < b)) := by
  unfold cmLt
  cases a with
  | ofNat m => cases b with
    | ofNat n =>
      show κ (Nat.blt m n) = _
      congr 1
      rw [Bool.eq_iff_iff]
      simp [Nat.blt_eq]
    | negSucc n => show κ false = _; congr 1
  | negSucc m => cases b with
    | ofNat n => show κ true = _; congr 1; symm; rw [decide_eq_true_iff]; simp only [Int.ofNat_eq_natCast, Int.negSucc_eq]; omega
    | negSucc n => rfl
theorem cmLe_eq (a b : Int) (κ : Bool → R) : cmLe a b κ = κ (decide (a ≤ b)) := by
  unfold cmLe
  cases a with
  | ofNat m => cases b with
    | ofNat n =>
      show κ (Nat.ble m n) = _
      congr 1
      rw [Bool.eq_iff_iff]
      simp
    | negSucc n => show κ false = _; congr 1; symm; rw [decide_eq_false_iff_not]; simp only [Int.ofNat_eq_natCast, Int.negSucc_eq]; omega
  | negSucc m => cases b with
    | ofNat n => show κ true = _; congr 1
    | negSucc n => rfl
theorem cmEq_eq (a b : Int) (κ : Bool → R) : cmEq a b κ = κ (a == b) := by
  unfold cmEq
  cases a with
  | ofNat m => cases b with
    | ofNat n =>
      show κ (Nat.beq m n) = _
      congr 1
      rw [Bool.eq_iff_iff]
      simp only [beq_iff_eq, Int.ofNat_eq_natCast, Int.natCast_inj]
      exact ⟨Nat.eq_of_beq_eq_true, fun h => h ▸ Nat.beq_refl _⟩
    | negSucc n => show κ false = _; congr 1
  | negSucc m => cases b with
    | ofNat n => show κ false = _; congr 1
    | negSucc n =>
      show κ (decide (Int.negSucc m = Int.negSucc n)) = _
      congr 1
theorem not'_eq (c : Bool) : not' c = !c := by cases c <;> rfl
theorem or'_eq (c d : Bool) : or' c d = (c || d) := by cases c <;> rfl
theorem eqB_eq (c d : Bool) : eqB c d = (c == d) := by cases c <;> cases d <;> rfl
theorem negc_eq (neg c : Bool) : eqB neg (not' c) = (if neg then !c else c) := by cases neg <;> cases c <;> rfl
theorem kB_eq (κ : K) (h : H) (nx : Nat) (c : Bool) : kB κ h nx c = κ (.b c) h nx := fbool_eq _ _

/-! ### Texts -/
theorem eqL_eq : ∀ (a b : List Nat), eqL a b = decide (a = b)
  | [], [] => rfl
  | [], _ :: _ => rfl
  | _ :: _, [] => rfl
  | x :: a, y :: b => by
    show (@Bool.rec (fun _ => Bool) false (eqL a b) (Nat.beq x y)) = _
    rw [eqL_eq a b]
    by_cases h : x = y
    · subst h; simp
    · have : Nat.beq x y = false := by cases hb : Nat.beq x y with
        | false => rfl
        | true => exact absurd (Nat.eq_of_beq_eq_true hb) h
      rw [this]; simp [h]
theorem bytes_toList (l : List Nat) : (bytesOf l).toList = l.map UInt8.ofNat := by
  rw [Go.ByteArray.toList_eq]; simp [bytesOf]
theorem ofNat_inj {a b : Nat} (ha : a < 256) (hb : b < 256) : UInt8.ofNat a = UInt8.ofNat b ↔ a = b := by
  refine ⟨fun h => ?_, fun h => h ▸ rfl⟩
  have := congrArg UInt8.toNat h
  simpa [Nat.mod_eq_of_lt ha, Nat.mod_eq_of_lt hb] using this
theorem map_inj : ∀ {a b : List Nat}, (∀ x ∈ a, x < 256) → (∀ x ∈ b, x < 256) → (a.map UInt8.ofNat = b.map UInt8.ofNat ↔ a = b)
  | [], [], _, _ => by simp
  | [], _ :: _, _, _ => by simp
  | _ :: _, [], _, _ => by simp
  | x :: a, y :: b, ha, hb => by
    simp only [List.map_cons, List.cons.injEq, ofNat_inj (ha x (by simp)) (hb y (by simp)), map_inj (fun z hz => ha z (List.mem_cons_of_mem _ hz)) (fun z hz => hb z (List.mem_cons_of_mem _ hz))]
theorem str_eq {a b : List Nat} (ha : ∀ x ∈ a, x < 256) (hb : ∀ x ∈ b, x < 256) : ((bytesOf a).toList == (bytesOf b).toList) = eqL a b := by
  rw [bytes_toList, bytes_toList, eqL_eq, Bool.eq_iff_iff]
  simp [map_inj ha hb]
theorem ltL_eq : ∀ {a b : List Nat}, (∀ x ∈ a, x < 256) → (∀ x ∈ b, x < 256) → Op.bytesLess (a.map UInt8.ofNat) (b.map UInt8.ofNat) = ltL a b
  | [], [], _, _ => rfl
  | [], _ :: _, _, _ => rfl
  | _ :: _, [], _, _ => rfl
  | x :: a, y :: b, ha, hb => by
    have hx := ha x (by simp)
    have hy := hb y (by simp)
    show (decide (UInt8.ofNat x < UInt8.ofNat y) || (UInt8.ofNat x == UInt8.ofNat y && Op.bytesLess (a.map UInt8.ofNat) (b.map UInt8.ofNat))) =
      (@Bool.rec (fun _ => Bool) (@Bool.rec (fun _ => Bool) false (ltL a b) (Nat.beq x y)) true (Nat.blt x y))
    rw [ltL_eq (fun z hz => ha z (by simp [hz])) (fun z hz => hb z (by simp [hz]))]
    have h1 : decide (UInt8.ofNat x < UInt8.ofNat y) = Nat.blt x y := by
      rw [Bool.eq_iff_iff, decide_eq_true_iff, UInt8.lt_iff_toNat_lt]
      simp [Nat.mod_eq_of_lt hx, Nat.mod_eq_of_lt hy, Nat.blt_eq]
    have h2 : (UInt8.ofNat x == UInt8.ofNat y) = Nat.beq x y := by
      rw [Bool.eq_iff_iff, beq_iff_eq, ofNat_inj hx hy]
      simp
    rw [h1, h2]
    cases Nat.blt x y <;> cases Nat.beq x y <;> rfl
theorem str_lt {a b : List Nat} (ha : ∀ x ∈ a, x < 256) (hb : ∀ x ∈ b, x < 256) : Op.bytesLess (bytesOf a).toList (bytesOf b).toList = ltL a b := by
  rw [bytes_toList, bytes_toList, ltL_eq ha hb]
theorem bytes_size (l : List Nat) : (bytesOf l).size = l.length := by
  show ((l.map UInt8.ofNat).toArray).size = _
  simp
theorem bytes_append (a b : List Nat) : bytesOf a ++ bytesOf b = bytesOf (a ++ b) := by
  have h : ∀ x y : ByteArray, x.data = y.data → x = y := fun x y h => by cases x; cases y; cases h; rfl
  apply h
  rw [ByteArray.data_append]
  simp [bytesOf]
end Go.AM
