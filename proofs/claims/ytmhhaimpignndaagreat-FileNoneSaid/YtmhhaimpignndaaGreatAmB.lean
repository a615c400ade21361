/-
  AM, 2: what the operations do. Conditions: none.
-/
import Derived.Test.YtmhhaimpignndaaGreatAmA
namespace Go.AM
open Go

noncomputable def asK (k : Nat) (κ : Int → R) (v : AV) : R := @AV.rec (fun _ => R) (fun _ => Unit) (fun k' n => br (Nat.beq k' k) (κ n) false) (fun _ => false) (fun _ _ => false) (fun _ _ _ _ => false) (false) (false) (fun _ => false) (fun _ => false) (false) (fun _ _ _ => false) (fun _ => false) (false) (fun _ _ _ => false) (false) (fun _ => false) (fun _ _ _ _ => false) (fun _ _ => false) (fun _ _ _ => false) (fun _ _ => false) (fun _ _ => false) (fun _ _ => false) (fun _ _ => false) (fun _ _ => false) () (fun _ _ _ _ => ()) v
noncomputable def asI (κ : Nat → Int → R) (v : AV) : R := @AV.rec (fun _ => R) (fun _ => Unit) (κ) (fun _ => false) (fun _ _ => false) (fun _ _ _ _ => false) (false) (false) (fun _ => false) (fun _ => false) (false) (fun _ _ _ => false) (fun _ => false) (false) (fun _ _ _ => false) (false) (fun _ => false) (fun _ _ _ _ => false) (fun _ _ => false) (fun _ _ _ => false) (fun _ _ => false) (fun _ _ => false) (fun _ _ => false) (fun _ _ => false) (fun _ _ => false) () (fun _ _ _ _ => ()) v
noncomputable def asN (κ : Nat → R) (v : AV) : R := @AV.rec (fun _ => R) (fun _ => Unit) (fun _ n => @Int.rec (fun _ => R) κ (fun _ => false) n) (fun _ => false) (fun _ _ => false) (fun _ _ _ _ => false) (false) (false) (fun _ => false) (fun _ => false) (false) (fun _ _ _ => false) (fun _ => false) (false) (fun _ _ _ => false) (false) (fun _ => false) (fun _ _ _ _ => false) (fun _ _ => false) (fun _ _ _ => false) (fun _ _ => false) (fun _ _ => false) (fun _ _ => false) (fun _ _ => false) (fun _ _ => false) () (fun _ _ _ _ => ()) v
noncomputable def asB (κ : Bool → R) (v : AV) : R := @AV.rec (fun _ => R) (fun _ => Unit) (fun _ _ => false) (κ) (fun _ _ => false) (fun _ _ _ _ => false) (false) (false) (fun _ => false) (fun _ => false) (false) (fun _ _ _ => false) (fun _ => false) (false) (fun _ _ _ => false) (false) (fun _ => false) (fun _ _ _ _ => false) (fun _ _ => false) (fun _ _ _ => false) (fun _ _ => false) (fun _ _ => false) (fun _ _ => false) (fun _ _ => false) (fun _ _ => false) () (fun _ _ _ _ => ()) v
noncomputable def asP (κ : Nat → Nat → R) (v : AV) : R := @AV.rec (fun _ => R) (fun _ => Unit) (fun _ _ => false) (fun _ => false) (κ) (fun _ _ _ _ => false) (false) (false) (fun _ => false) (fun _ => false) (false) (fun _ _ _ => false) (fun _ => false) (false) (fun _ _ _ => false) (false) (fun _ => false) (fun _ _ _ _ => false) (fun _ _ => false) (fun _ _ _ => false) (fun _ _ => false) (fun _ _ => false) (fun _ _ => false) (fun _ _ => false) (fun _ _ => false) () (fun _ _ _ _ => ()) v
noncomputable def asS (κ : List Nat → R) (v : AV) : R := @AV.rec (fun _ => R) (fun _ => Unit) (fun _ _ => false) (fun _ => false) (fun _ _ => false) (fun _ _ _ _ => false) (false) (false) (κ) (fun _ => false) (false) (fun _ _ _ => false) (fun _ => false) (false) (fun _ _ _ => false) (false) (fun _ => false) (fun _ _ _ _ => false) (fun _ _ => false) (fun _ _ _ => false) (fun _ _ => false) (fun _ _ => false) (fun _ _ => false) (fun _ _ => false) (fun _ _ => false) () (fun _ _ _ _ => ()) v
noncomputable def asM (κ : Nat → R) (v : AV) : R := @AV.rec (fun _ => R) (fun _ => Unit) (fun _ _ => false) (fun _ => false) (fun _ _ => false) (fun _ _ _ _ => false) (false) (false) (fun _ => false) (κ) (false) (fun _ _ _ => false) (fun _ => false) (false) (fun _ _ _ => false) (false) (fun _ => false) (fun _ _ _ _ => false) (fun _ _ => false) (fun _ _ _ => false) (fun _ _ => false) (fun _ _ => false) (fun _ _ => false) (fun _ _ => false) (fun _ _ => false) () (fun _ _ _ _ => ()) v
noncomputable def asTu (κ : List AV → R) (v : AV) : R := @AV.rec (fun _ => R) (fun _ => Unit) (fun _ _ => false) (fun _ => false) (fun _ _ => false) (fun _ _ _ _ => false) (false) (false) (fun _ => false) (fun _ => false) (false) (fun _ _ _ => false) (fun _ => false) (false) (fun _ _ _ => false) (false) (fun _ => false) (fun _ _ _ _ => false) (fun _ _ => false) (fun _ _ _ => false) (fun _ _ => false) (fun _ _ => false) (fun _ _ => false) (fun _ _ => false) (fun l _ => κ l) () (fun _ _ _ _ => ()) v
noncomputable def asAg (κ : List AV → R) (v : AV) : R := @AV.rec (fun _ => R) (fun _ => Unit) (fun _ _ => false) (fun _ => false) (fun _ _ => false) (fun _ _ _ _ => false) (false) (false) (fun _ => false) (fun _ => false) (false) (fun _ _ _ => false) (fun _ => false) (false) (fun _ _ _ => false) (false) (fun _ => false) (fun _ _ _ _ => false) (fun _ _ => false) (fun _ _ _ => false) (fun _ _ => false) (fun _ _ => false) (fun _ _ => false) (fun l _ => κ l) (fun _ _ => false) () (fun _ _ _ _ => ()) v
/-- the cells of a value in a variable -/
noncomputable def cellsK (κ : List AV → R) (v : AV) : R := @AV.rec (fun _ => R) (fun _ => Unit) (fun x0 x1 => κ [(.i x0 x1 : AV)]) (fun x0 => κ [(.b x0 : AV)]) (fun x0 x1 => κ [(.p x0 x1 : AV)]) (fun x0 x1 x2 x3 => κ [(.sl x0 x1 x2 x3 : AV)]) (κ [(.np : AV)]) (κ [(.ns : AV)]) (fun x0 => κ [(.s x0 : AV)]) (fun x0 => κ [(.m x0 : AV)]) (κ [(.nm : AV)]) (fun x0 x1 _ => κ [(.fn x0 x1 : AV)]) (fun x0 => κ [(.yl x0 : AV)]) (κ [(.nf : AV)]) (fun x0 x1 _ => κ [(.ifc x0 x1 : AV)]) (κ [(.ni : AV)]) (fun x0 => κ [(.x x0 : AV)]) (fun x0 x1 x2 x3 => κ [(.xi x0 x1 x2 x3 : AV)]) (fun x0 x1 => κ [(.l x0 x1 : AV)]) (fun x0 x1 x2 => κ [(.q x0 x1 x2 : AV)]) (fun x0 _ => κ [(.t x0 : AV)]) (fun x0 x1 => κ [(.f x0 x1 : AV)]) (fun x0 x1 => κ [(.z x0 x1 : AV)]) (fun l _ => κ l) (fun _ _ => false) () (fun _ _ _ _ => ()) v

/-! ### Numbers -/
def kindOf : Nat → IntKind
  | 0 => .i8 | 1 => .i16 | 2 => .i32 | 3 => .i64 | 4 => .u8 | 5 => .u16 | 6 => .u32 | _ => .u64
def kbit : Nat → Nat
  | 0 => 8 | 1 => 16 | 2 => 32 | 3 => 64 | 4 => 8 | 5 => 16 | 6 => 32 | _ => 64
def khi : Nat → Nat
  | 0 => 128 | 1 => 32768 | 2 => 2147483648 | 3 => 9223372036854775808
  | 4 => 256 | 5 => 65536 | 6 => 4294967296 | _ => 18446744073709551616
def klo : Nat → Nat
  | 0 => 128 | 1 => 32768 | 2 => 2147483648 | 3 => 9223372036854775808 | _ => 0
/-- a number in its kind's range, as the model wraps it -/
noncomputable def wrN (k : Nat) (m : Nat) (κ : Int → R) : R := fnat m fun m => br (Nat.blt m (khi k)) (κ (.ofNat m)) (fint ((kindOf k).wrap (.ofNat m)) κ)
noncomputable def wrG (k : Nat) (m : Nat) (κ : Int → R) : R := fnat m fun m => br (Nat.blt m (klo k)) (κ (.negSucc m)) (fint ((kindOf k).wrap (.negSucc m)) κ)
noncomputable def wrap (k : Nat) (n : Int) (κ : Int → R) : R := @Int.rec (fun _ => R) (fun m => wrN k m κ) (fun m => wrG k m κ) n
abbrev ArF := Nat → Int → Int → (Int → R) → R
/-- by the signs of the two -/
noncomputable def sgn (a b : Int) (p : Nat → Nat → R) (q r s : R) : R :=
  @Int.rec (fun _ => R) (fun m => @Int.rec (fun _ => R) (fun n => p m n) (fun _ => q) b) (fun _ => @Int.rec (fun _ => R) (fun _ => r) (fun _ => s) b) a
noncomputable def arAdd (k : Nat) (a b : Int) (κ : Int → R) : R :=
  let o := wrap k (Int.add a b) κ
  sgn a b (fun m n => wrN k (Nat.add m n) κ) o o o
noncomputable def arSub (k : Nat) (a b : Int) (κ : Int → R) : R :=
  let o := wrap k (Int.sub a b) κ
  sgn a b (fun m n => br (Nat.ble n m) (wrN k (Nat.sub m n) κ) o) o o o
noncomputable def arMul (k : Nat) (a b : Int) (κ : Int → R) : R :=
  let o := wrap k (Int.mul a b) κ
  sgn a b (fun m n => wrN k (Nat.mul m n) κ) o o o
noncomputable def isZ (b : Int) (z nz : R) : R := @Int.rec (fun _ => R) (fun n => br (Nat.beq n 0) z nz) (fun _ => nz) b
noncomputable def arQuo (k : Nat) (a b : Int) (κ : Int → R) : R :=
  let o := wrap k (Int.tdiv a b) κ
  isZ b false (sgn a b (fun m n => wrN k (Nat.div m n) κ) o o o)
noncomputable def arRem (_ : Nat) (a b : Int) (κ : Int → R) : R :=
  let o := fint (Int.tmod a b) κ
  isZ b false (sgn a b (fun m n => fnat (Nat.mod m n) fun r => κ (.ofNat r)) o o o)
/-- the model's and, or, xor, and not -/
def bitsI (op : BinOp) (k : IntKind) (x y : Int) : Int :=
  let a := BitVec.ofInt k.bits x
  let b := BitVec.ofInt k.bits y
  match op with
  | .and => k.wrap (a &&& b).toNat
  | .or => k.wrap (a ||| b).toNat
  | .xor => k.wrap (a ^^^ b).toNat
  | .andNot => k.wrap (a &&& ~~~b).toNat
  | _ => 0
noncomputable def arBit (op : BinOp) (f : Nat → Nat → Nat) (k : Nat) (a b : Int) (κ : Int → R) : R :=
  let o := fint (bitsI op (kindOf k) a b) κ
  sgn a b (fun m n => br (Nat.blt m (khi k)) (br (Nat.blt n (khi k)) (fnat (f m n) fun r => κ (.ofNat r)) o) o) o o o
noncomputable def arAnd : ArF := arBit .and Nat.land
noncomputable def arOr : ArF := arBit .or Nat.lor
noncomputable def arXor : ArF := arBit .xor Nat.xor
noncomputable def arAnn : ArF := arBit .andNot fun m n => Nat.xor m (Nat.land m n)
noncomputable def shl (k : Nat) (a : Int) (n : Nat) (κ : Int → R) : R := wrap k (Int.mul a (.ofNat (Nat.pow 2 (Nat.min n (kbit k))))) κ
noncomputable def shr (k : Nat) (a : Int) (n : Nat) (κ : Int → R) : R :=
  @Int.rec (fun _ => R) (fun m => fnat (Nat.div m (Nat.pow 2 (Nat.min n (kbit k)))) fun r => κ (.ofNat r)) (fun _ => fint (Int.fdiv a (.ofNat (Nat.pow 2 (Nat.min n (kbit k))))) κ) a
noncomputable def cmLt (a b : Int) (κ : Bool → R) : R := sgn a b (fun m n => κ (Nat.blt m n)) (κ false) (κ true) (κ (decide (a < b)))
noncomputable def cmLe (a b : Int) (κ : Bool → R) : R := sgn a b (fun m n => κ (Nat.ble m n)) (κ false) (κ true) (κ (decide (a ≤ b)))
noncomputable def cmEq (a b : Int) (κ : Bool → R) : R := sgn a b (fun m n => κ (Nat.beq m n)) (κ false) (κ false) (κ (decide (a = b)))

/-! ### Numbers in lanes -/
noncomputable def lMask (k : Nat) : Nat := Nat.mul LO (Nat.sub (khi k) 1)
/-- a number of kind k, in lanes -/
noncomputable def lnK (k : Nat) (v : AV) (κ : Nat → R) : R := match v with
  | .l k' N => br (Nat.beq k' k) (br (Nat.blt k 8) (κ N) false) false
  | .i k' n => br (Nat.beq k' k) (@Int.rec (fun _ => R) (fun n => br (Nat.blt n (khi k)) (fnat (Nat.mul LO n) κ) false) (fun _ => false) n) false
  | _ => false
abbrev LaF := Nat → Nat → Nat → (Nat → R) → R
/-- a result, cut to its kind -/
noncomputable def laCut (k N : Nat) (κ : Nat → R) : R := fnat (Nat.land N (lMask k)) fun M => br (or' (Nat.ble 4 k) (Nat.beq M N)) (κ M) false
noncomputable def laAdd : LaF := fun k A B κ => fnat (Nat.add A B) fun N => laCut k N κ
noncomputable def laAnd : LaF := fun _ A B κ => fnat (Nat.land A B) κ
noncomputable def laOr : LaF := fun _ A B κ => fnat (Nat.lor A B) κ
noncomputable def laXor : LaF := fun _ A B κ => fnat (Nat.xor A B) κ
noncomputable def laMul : LaF := fun k A B κ => fnat (Nat.mod B 18446744073709551616) fun c => br (Nat.beq (Nat.mul LO c) B) (fnat (Nat.mul A c) fun N => laCut k N κ) false
noncomputable def laRem : LaF := fun _ A B κ => fnat (Nat.mod B 18446744073709551616) fun c => br (Nat.beq (Nat.mul LO c) B) (br (Nat.beq (Nat.pow 2 (Nat.log2 c)) c) (fnat (Nat.land A (Nat.mul LO (Nat.sub c 1))) κ) false) false
/-- in lanes: is it so, or not, or here and there -/
noncomputable def lbK (Y : Nat) (κ : AV → R) : R := br (Nat.beq Y 0) (κ (.b false)) (br (Nat.beq Y LO) (κ (.b true)) (κ (.l 9 Y)))
noncomputable def ltmK (A B : Nat) (κ : Nat → R) : R := fnat (ltm A B) κ
/-- are two numbers of kind c alike, one of them in lanes: in all lanes, or in none -/
noncomputable def laEq (c : Nat) (x y : AV) (κ : Bool → R) : R := lnK c x fun A => lnK c y fun B => fnat (Nat.xor A B) fun X => br (Nat.beq X 0) (κ true) (br (Nat.beq (ltm 0 X) LO) (κ false) false)
noncomputable def isL (v : AV) : Bool := match v with | .l _ _ => true | _ => false
theorem isL_i (k : Nat) (n : Int) : isL (.i k n) = false := rfl
noncomputable def isLL (a b : AV) : Bool := or' (isL a) (isL b)
theorem isLL_ii (k j : Nat) (n m : Int) : isLL (.i k n) (.i j m) = false := rfl
noncomputable def anyL (vs : List AV) : Bool := @List.rec AV (fun _ => Bool) false (fun v _ ih => or' (isL v) ih) vs
/-- where two lists of numbers of these kinds differ -/
noncomputable def laDif (ks : List Nat) : List AV → List AV → (Nat → R) → R :=
  @List.rec Nat (fun _ => List AV → List AV → (Nat → R) → R) (fun a b κ => @List.rec AV (fun _ => R) (@List.rec AV (fun _ => R) (κ 0) (fun _ _ _ => false) b) (fun _ _ _ => false) a)
    (fun c _ ih a b κ => br (Nat.blt c 8) (@List.rec AV (fun _ => R) false (fun x r _ => @List.rec AV (fun _ => R) false (fun y s _ => lnK c x fun A => lnK c y fun B => ih r s fun D => fnat (Nat.lor D (Nat.xor A B)) κ) b) a) false) ks
noncomputable def laQ (ks : List Nat) (a b : List AV) (κ : Bool → R) : R := laDif ks a b fun D => br (Nat.beq D 0) (κ true) (br (Nat.beq (ltm 0 D) LO) (κ false) false)

/-! ### Texts: their bytes' numbers -/
noncomputable def eqL (a : List Nat) : List Nat → Bool :=
  @List.rec Nat (fun _ => List Nat → Bool) (fun b => @List.rec Nat (fun _ => Bool) true (fun _ _ _ => false) b)
    (fun x _ ih b => @List.rec Nat (fun _ => Bool) false (fun y s _ => @Bool.rec (fun _ => Bool) false (ih s) (Nat.beq x y)) b) a
noncomputable def ltL (a : List Nat) : List Nat → Bool :=
  @List.rec Nat (fun _ => List Nat → Bool) (fun b => @List.rec Nat (fun _ => Bool) false (fun _ _ _ => true) b)
    (fun x _ ih b => @List.rec Nat (fun _ => Bool) false (fun y s _ => @Bool.rec (fun _ => Bool) (@Bool.rec (fun _ => Bool) false (ih s) (Nat.beq x y)) true (Nat.blt x y)) b) a

/-- are two texts in lanes alike -/
noncomputable def asT (a : List AV) : List AV → (Bool → R) → R :=
  @List.rec AV (fun _ => List AV → (Bool → R) → R) (fun b κ => @List.rec AV (fun _ => R) (κ true) (fun _ _ _ => false) b)
    (fun x _ ih b κ => @List.rec AV (fun _ => R) false (fun y s _ => laEq 4 x y fun q => br q (ih s κ) (κ false)) b) a
/-- are two texts alike; one of them may be handed in, if it is known to be another one -/
noncomputable def asSQ (x y : AV) (κ : Bool → R) : R := match x with
  | .s a => (match y with
    | .s b => κ (eqL a b)
    | .xi _ k r _ => br (Nat.beq k 8) (br (eqL a [r]) (κ false) false) false
    | _ => false)
  | .xi _ k r _ => (match y with
    | .s b => br (Nat.beq k 8) (br (eqL b [r]) (κ false) false) false
    | _ => false)
  | .t a => (match y with
    | .t b => asT a b κ
    | _ => false)
  | _ => false
/-- are two cells of a kind alike: 0 to 7 numbers, 8 texts, 9 bools -/
noncomputable def eqK (c : Nat) (x y : AV) (κ : Bool → R) : R :=
  br (Nat.blt c 8) (br (isLL x y) (laEq c x y κ) (asK c (fun a => asK c (fun b => cmEq a b κ) y) x)) (br (Nat.beq c 8) (asSQ x y κ) (asB (fun a => asB (fun b => κ (eqB a b)) y) x))
noncomputable def eqTs (ks : List Nat) : List AV → List AV → (Bool → R) → R :=
  @List.rec Nat (fun _ => List AV → List AV → (Bool → R) → R) (fun a b κ => @List.rec AV (fun _ => R) (@List.rec AV (fun _ => R) (κ true) (fun _ _ _ => false) b) (fun _ _ _ => false) a)
    (fun c _ ih a b κ => @List.rec AV (fun _ => R) false (fun x r _ => @List.rec AV (fun _ => R) false (fun y s _ => eqK c x y fun q => br q (ih r s κ) (κ false)) b) a) ks
noncomputable def headK (κ : Nat → R) (ks : List Nat) : R := @List.rec Nat (fun _ => R) false (fun c _ _ => κ c) ks
/-- are two values alike; agg: is it a struct, or an array -/
abbrev QF := AV → AV → (Bool → R) → R
noncomputable def eqT (agg : Bool) (ks : List Nat) : QF := fun x y κ =>
  @Bool.rec (fun _ => R) (headK (fun c => eqK c x y κ) ks) (asAg (fun a => asAg (fun b => br (or' (anyL a) (anyL b)) (laQ ks a b κ) (eqTs ks a b κ)) y) x) agg
/-- is a value one of these cells -/
noncomputable def kyT (agg : Bool) (ks : List Nat) (x : AV) (κ : R) : R :=
  @Bool.rec (fun _ => R) κ (asAg (fun a => eqTs ks a a fun c => br c κ false) x) agg

/-! ### Objects -/
noncomputable def none' : Option AO := none
noncomputable def get (o : Nat) (h : H) (κ : AO → R) : R := getK (Option AO) (opt AO κ) 5 o h
noncomputable def put (o : Nat) (a : AO) (h : H) (κ : H → R) : R := setK (Option AO) (some a) 5 o h κ
noncomputable def newK (a : AO) (h : H) (nx : Nat) (κ : Nat → H → Nat → R) : R :=
  br (Nat.blt nx 32768) (put nx a h fun h => fnat (Nat.succ nx) fun nx' => κ nx h nx') false
noncomputable def asMp (κ : List ME → Nat → R) (a : AO) : R := match a with | .mp es c => κ es c | _ => false
/-- a cell: the tree's, or the nought's -/
noncomputable def cellK (z : List AV) (zl d : Nat) (t : L (Option AV) d) (κ : AV → R) (i : Nat) : R :=
  getK (Option AV) (fun x => @Option.rec AV (fun _ => R) (nthK AV κ z (Nat.mod i zl)) κ x) d i t
/-- n cells from place i on -/
noncomputable def cellsT (z : List AV) (zl d : Nat) (t : L (Option AV) d) (n : Nat) : Nat → (List AV → R) → R :=
  @Nat.rec (fun _ => Nat → (List AV → R) → R) (fun _ κ => κ []) (fun _ ih i κ => cellK z zl d t (fun v => fnat (Nat.succ i) fun j => ih j fun vs => κ (v :: vs)) i) n
noncomputable def setsT (d : Nat) (vs : List AV) : Nat → L (Option AV) d → (L (Option AV) d → R) → R :=
  @List.rec AV (fun _ => Nat → L (Option AV) d → (L (Option AV) d → R) → R) (fun _ t κ => κ t) (fun v _ ih i t κ => setK (Option AV) (some v) d i t fun t => fnat (Nat.succ i) fun j => ih j t κ) vs
noncomputable def dropL (α : Type) (n : Nat) : List α → List α := @Nat.rec (fun _ => List α → List α) (fun l => l) (fun _ ih l => @List.rec α (fun _ => List α) [] (fun _ r _ => ih r) l) n
noncomputable def takeK (α : Type) (n : Nat) : List α → (List α → R) → R :=
  @Nat.rec (fun _ => List α → (List α → R) → R) (fun _ κ => κ []) (fun _ ih l κ => @List.rec α (fun _ => R) false (fun x r _ => ih r fun l => κ (x :: l)) l) n
/-- vs laid over l from its beginning on -/
noncomputable def ovrK (vs : List AV) : List AV → (List AV → R) → R :=
  @List.rec AV (fun _ => List AV → (List AV → R) → R) (fun l κ => κ l) (fun v _ ih l κ => @List.rec AV (fun _ => R) false (fun _ r _ => ih r fun l => κ (v :: l)) l) vs
noncomputable def putLK (vs : List AV) (off : Nat) : List AV → (List AV → R) → R :=
  @Nat.rec (fun _ => List AV → (List AV → R) → R) (ovrK vs) (fun _ ih l κ => @List.rec AV (fun _ => R) false (fun v r _ => ih r fun l => κ (v :: l)) l) off
noncomputable def killK (sh : List Nat) : H → (H → R) → R :=
  @List.rec Nat (fun _ => H → (H → R) → R) (fun h κ => κ h) (fun o _ ih h κ => put o .dead h fun h => ih h κ) sh
/-- n cells of object o from place off on -/
noncomputable def rdK (o off n : Nat) (h : H) (κ : List AV → R) : R :=
  get o h fun a => match a with
    | .sm l => takeK AV n (dropL AV off l) κ
    | .ce N _ z zl d t _ _ => br (Nat.ble (Nat.add off n) N) (cellsT z zl d t n off κ) false
    | _ => false
noncomputable def rd1 (o off : Nat) (h : H) (κ : AV → R) : R :=
  get o h fun a => match a with
    | .sm l => nthK AV κ l off
    | .ce N _ z zl d t _ _ => br (Nat.blt off N) (cellK z zl d t κ off) false
    | _ => false
/-- cells stored: the object must not have been appended to; what shows its cells as they were is dead -/
noncomputable def wrK (o off : Nat) (vs : List AV) (h : H) (κ : H → R) : R :=
  get o h fun a => match a with
    | .sm l => putLK vs off l fun l => put o (.sm l) h κ
    | .ce N es z zl d t top sh => br top (br (Nat.ble (Nat.add off (lenN AV vs)) N)
        (setsT d vs off t fun t => put o (.ce N es z zl d t true []) h fun h => killK sh h κ) false) false
    | _ => false

/-! ### Operations -/
noncomputable def kB (κ : K) (h : H) (nx : Nat) (c : Bool) : R := fbool c fun c => κ (.b c) h nx
noncomputable def undef : AV := .tu []
noncomputable def oMv (x : XF) : OpF := fun en h nx κ => x en fun v => κ v h nx
noncomputable def oSid (x : XF) : OpF := fun en h nx κ => x en (asS fun l => κ (.s l) h nx)
noncomputable def oPick (c x y : XF) : OpF := fun en h nx κ => c en (asB fun c => br c (x en fun v => κ v h nx) (y en fun v => κ v h nx))
noncomputable def oNc (x : XF) : OpF := fun en h nx κ => x en fun v => match v with | .np | .ni | .nf | .x _ | .xi _ _ _ _ | .l _ _ => false | v => κ v h nx
/-- + - * and so on, at kind k -/
noncomputable def oAr (f : ArF) (k : Nat) (x y : XF) : OpF := fun en h nx κ => x en (asK k fun a => y en (asK k fun b => f k a b fun r => κ (.i k r) h nx))
/-- .. in lanes, too -/
noncomputable def laV (f : ArF) (g : LaF) (k : Nat) (a b : AV) (κ : AV → R) : R := br (isLL a b) (lnK k a fun A => lnK k b fun B => g k A B fun N => κ (.l k N)) (asK k (fun a => asK k (fun b => f k a b fun r => κ (.i k r)) b) a)
noncomputable def oLa (f : ArF) (g : LaF) (k : Nat) (x y : XF) : OpF := fun en h nx κ => x en fun a => y en fun b => laV f g k a b fun v => κ v h nx
noncomputable def oRem (k : Nat) (x y : XF) : OpF := fun en h nx κ => x en fun a => match a with
  | .xi n k' r m => br (Nat.blt k' 8) (br (Nat.beq k' k) (y en (asK k fun b => @Int.rec (fun _ => R) (fun b => br (Nat.beq m 1) (br (Nat.beq k 3) (br (Nat.blt 0 b) (br (Nat.blt b 9223372036854775808) (κ (.f n b) h nx) false) false) false)
      (br (Nat.beq b m) (br (Nat.blt 0 m) (κ (.i k (.ofNat r)) h nx) false) false)) (fun _ => false) b)) false) false
  | .l k' N => oLa arRem laRem k (fun _ κ => κ (.l k' N)) y en h nx κ
  | a => asK k (fun a => y en (asK k fun b => arRem k a b fun r => κ (.i k r) h nx)) a
noncomputable def oShl (k : Nat) (x y : XF) : OpF := fun en h nx κ => x en fun a => match a with
  | .l k' A => br (Nat.beq k' k) (br (Nat.blt k 8) (y en (asN fun n => br (Nat.blt n (kbit k)) (fnat (Nat.mul A (Nat.pow 2 n)) fun N => laCut k N fun N => κ (.l k N) h nx) false)) false) false
  | a => asK k (fun a => y en (asN fun n => shl k a n fun r => κ (.i k r) h nx)) a
noncomputable def oShr (k : Nat) (x y : XF) : OpF := fun en h nx κ => x en fun a => match a with
  | .l k' A => br (Nat.beq k' k) (br (Nat.blt k 8) (y en (asN fun n => br (Nat.blt n (kbit k)) (fnat (Nat.land (Nat.shiftRight A n) LM) fun N => κ (.l k N) h nx) false)) false) false
  | a => asK k (fun a => y en (asN fun n => shr k a n fun r => κ (.i k r) h nx)) a
/-- a number handed in, held against b: is it less -/
noncomputable def zLt (m : Nat) (b : Int) (κ : Bool → R) : R := @Int.rec (fun _ => R) (fun b => br (Nat.beq m 0) (κ true) (br (Nat.ble b m) (κ false) false)) (fun _ => false) b
noncomputable def ltV (k : Nat) (a b : AV) (κ : AV → R) : R := match a with
  | .z _ m => br (Nat.beq k 3) (asK 3 (fun b => zLt m b fun c => κ (.b c)) b) false
  | a => br (isLL a b) (lnK k a fun A => lnK k b fun B => ltmK A B fun Y => lbK Y κ) (asK k (fun a => asK k (fun b => cmLt a b fun c => fbool c fun c => κ (.b c)) b) a)
noncomputable def oLt (k : Nat) (x y : XF) : OpF := fun en h nx κ => x en fun a => y en fun b => ltV k a b fun v => κ v h nx
noncomputable def oLe (k : Nat) (x y : XF) : OpF := fun en h nx κ => x en (asK k fun a => y en (asK k fun b => cmLe a b (kB κ h nx)))
/-- the length of a text that is handed in is held against 100 -/
noncomputable def oGt (k : Nat) (x y : XF) : OpF := fun en h nx κ => x en fun a => match a with
  | .xi _ k' _ m => br (Nat.beq k' 9) (br (Nat.beq k 3) (y en (asK 3 fun b => cmEq b (.ofNat 100) fun c => br c (br (Nat.blt 0 m) (κ (.b true) h nx) (κ (.b false) h nx)) false)) false) false
  | a => asK k (fun a => y en (asK k fun b => cmLt b a (kB κ h nx))) a
noncomputable def geV (k : Nat) (a b : AV) (κ : AV → R) : R := match a with
  | .z _ m => br (Nat.beq k 3) (asK 3 (fun b => zLt m b fun c => κ (.b (not' c))) b) false
  | a => br (isLL a b) (lnK k a fun A => lnK k b fun B => ltmK A B fun Y => fnat (Nat.xor LO Y) fun Y => lbK Y κ) (asK k (fun a => asK k (fun b => cmLe b a fun c => fbool c fun c => κ (.b c)) b) a)
noncomputable def oGe (k : Nat) (x y : XF) : OpF := fun en h nx κ => x en fun a => y en fun b => geV k a b fun v => κ v h nx
noncomputable def eqV (neg : Bool) (k : Nat) (a b : AV) (κ : AV → R) : R :=
  br (isLL a b) (laEq k a b fun c => κ (.b (eqB neg (not' c)))) (asK k (fun a => asK k (fun b => cmEq a b fun c => fbool (eqB neg (not' c)) fun c => κ (.b c)) b) a)
noncomputable def oEq (neg : Bool) (k : Nat) (x y : XF) : OpF := fun en h nx κ => x en fun a => y en fun b => eqV neg k a b fun v => κ v h nx
noncomputable def oSS (f : List Nat → List Nat → Bool) (x y : XF) : OpF := fun en h nx κ => x en (asS fun a => y en (asS fun b => kB κ h nx (f a b)))
noncomputable def oSQ (neg : Bool) (x y : XF) : OpF := fun en h nx κ => x en fun a => y en fun b => asSQ a b fun c => κ (.b (eqB neg (not' c))) h nx
noncomputable def sEq (a b : List Nat) : Bool := eqL a b
noncomputable def sNe (a b : List Nat) : Bool := not' (eqL a b)
noncomputable def sLt (a b : List Nat) : Bool := ltL a b
noncomputable def sLe (a b : List Nat) : Bool := or' (ltL a b) (eqL a b)
noncomputable def sGt (a b : List Nat) : Bool := not' (or' (ltL a b) (eqL a b))
noncomputable def sGe (a b : List Nat) : Bool := not' (ltL a b)
noncomputable def oCat (x y : XF) : OpF := fun en h nx κ => x en (asS fun a => y en (asS fun b =>
  br (Nat.blt (Nat.add (lenN Nat a) (lenN Nat b)) 9223372036854775808) (appK Nat a b fun l => κ (.s l) h nx) false))
noncomputable def oBB (neg : Bool) (x y : XF) : OpF := fun en h nx κ => x en (asB fun a => y en (asB fun b => kB κ h nx (eqB neg (not' (eqB a b)))))
noncomputable def oEqs (neg : Bool) (q : QF) (x y : XF) : OpF := fun en h nx κ => x en fun a => y en fun b => q a b fun c => kB κ h nx (eqB neg (not' c))
/-- an object of the call's own, that nothing was appended to -/
noncomputable def sole (o : Nat) (h : H) (κ : R) : R := get o h fun a => match a with
  | .sm l => (match l with | [] => false | _ => κ)
  | .ce n es _ zl _ _ top sh => br (Nat.beq es 0) (br top (br (Nat.blt 0 zl) (match sh with | [] => κ | _ => false) false) false) false
  | _ => false
/-- with nil, or of pointers; tc: 0 pointers, 1 slices, 2 maps, 3 functions, 4 interfaces -/
noncomputable def oEqn (neg : Bool) (tc : Nat) (x y : XF) : OpF := fun en h nx κ => x en fun a => y en fun b =>
  let f (c : Bool) : R := kB κ h nx (eqB neg (not' c))
  match tc, a with
  | 0, .np => (match b with | .np => f true | .p _ _ => f false | _ => false)
  | 0, .p o i => (match b with | .np => f false | .p o' i' => br (Nat.beq o o') (f (Nat.beq i i')) (sole o h (sole o' h (f false))) | _ => false)
  | 1, .ns => (match b with | .ns => f true | .sl _ _ _ _ => f false | _ => false)
  | 1, .sl _ _ _ _ => (match b with | .ns => f false | _ => false)
  | 2, .nm => (match b with | .nm => f true | .m _ => f false | _ => false)
  | 2, .m _ => (match b with | .nm => f false | _ => false)
  | 3, .nf => (match b with | .nf => f true | .fn _ _ => f false | _ => false)
  | 3, .fn _ _ => (match b with | .nf => f false | _ => false)
  | 4, .ni => (match b with | .ni => f true | .ifc _ _ => f false | _ => false)
  | 4, .ifc _ _ => (match b with | .ni => f false | _ => false)
  | _, _ => false
noncomputable def oNt (x : XF) : OpF := fun en h nx κ => x en (asB fun c => kB κ h nx (not' c))
noncomputable def oNg (x : XF) : OpF := fun en h nx κ => x en (asI fun k n => wrap k (Int.sub 0 n) fun r => κ (.i k r) h nx)
def ones (k : Nat) : Int := match k with | 0 | 1 | 2 | 3 => .negSucc 0 | k => .ofNat (Nat.sub (khi k) 1)
noncomputable def oCm (x : XF) : OpF := fun en h nx κ => x en fun v => match v with
  | .l k A => br (Nat.ble 4 k) (br (Nat.blt k 8) (fnat (Nat.xor (lMask k) A) fun N => κ (.l k N) h nx) false) false
  | v => asI (fun k n => arXor k (ones k) n fun r => κ (.i k r) h nx) v
noncomputable def oCvi (k : Nat) (x : XF) : OpF := fun en h nx κ => x en fun v => match v with
  | .xi n k' r m => br (Nat.blt k' 8) (br (Nat.beq k 3) (κ (.xi n 3 r m) h nx) false) false
  | .l k' A => br (Nat.blt k' 8) (br (Nat.blt k 8) (laCut k A fun N => κ (.l k N) h nx) false) false
  | v => asI (fun _ n => wrap k n fun r => κ (.i k r) h nx) v
/-- bytes' numbers -/
noncomputable def bytesK (vs : List AV) : (List Nat → R) → R :=
  @List.rec AV (fun _ => (List Nat → R) → R) (fun κ => κ []) (fun v _ ih κ => asK 4 (fun n => @Int.rec (fun _ => R) (fun m => br (Nat.blt m 256) (ih fun l => κ (m :: l)) false) (fun _ => false) n) v) vs
/-- a byte -/
noncomputable def isBy (v : AV) : Bool := match v with
  | .l k _ => Nat.beq k 4
  | .i k n => @Bool.rec (fun _ => Bool) false (@Int.rec (fun _ => Bool) (fun n => Nat.blt n 256) (fun _ => false) n) (Nat.beq k 4)
  | _ => false
noncomputable def allBy (vs : List AV) : Bool := @List.rec AV (fun _ => Bool) true (fun v _ ih => @Bool.rec (fun _ => Bool) false ih (isBy v)) vs
noncomputable def oB2s (x : XF) : OpF := fun en h nx κ => x en fun v => match v with
  | .ns => κ (.s []) h nx
  | .sl o off len _ => rdK o off len h fun vs => br (anyL vs) (br (allBy vs) (κ (.t vs) h nx) false) (bytesK vs fun l => κ (.s l) h nx)
  | _ => false
noncomputable def ofBytes (l : List Nat) (κ : List AV → R) : R :=
  @List.rec Nat (fun _ => (List AV → R) → R) (fun κ => κ []) (fun m _ ih κ => ih fun vs => κ (.i 4 (.ofNat m) :: vs)) l κ
/-- how deep a tree of n cells is -/
noncomputable def deep (n : Nat) : Nat :=
  @Bool.rec (fun _ => Nat) (@Bool.rec (fun _ => Nat) (@Bool.rec (fun _ => Nat) (@Bool.rec (fun _ => Nat) (@Bool.rec (fun _ => Nat) (@Bool.rec (fun _ => Nat) n 7 (Nat.ble n 2097152)) 5 (Nat.ble n 32768)) 4 (Nat.ble n 4096)) 3 (Nat.ble n 512)) 2 (Nat.ble n 64)) 1 (Nat.ble n 8)
noncomputable def E (d : Nat) : L (Option AV) d := repL (Option AV) none d
noncomputable def fdeep (n : Nat) (κ : Nat → R) : R := fnat (deep n) κ
/-- a new object of n cells, these all (few: listed) -/
noncomputable def newL (l : List AV) (n : Nat) (h : H) (nx : Nat) (κ : Nat → H → Nat → R) : R :=
  br (Nat.ble n 16) (newK (.sm l) h nx κ) (newK (.ce n 0 l n (deep n) (E (deep n)) true []) h nx κ)
noncomputable def oS2b (x : XF) : OpF := fun en h nx κ => x en (asS fun l => ofBytes l fun vs => fnat (lenN Nat l) fun n => newK (.ce n 1 vs n (deep n) (E (deep n)) true []) h nx fun o h nx => κ (.sl o 0 n none) h nx)
noncomputable def asSl (κ : Nat → Nat → Nat → Option Nat → R) (v : AV) : R := match v with | .sl o off len cap => κ o off len cap | _ => false
noncomputable def oS2a (x : XF) (n : Nat) : OpF := fun en h nx κ => x en (asSl fun o off len _ => br (Nat.ble n len) (κ (.p o off) h nx) false)
noncomputable def oUptr (x : XF) : OpF := fun en h nx κ => x en fun v => match v with
  | .np => κ .np h nx
  | .p o off => rd1 o off h fun _ => κ (.p o off) h nx
  | _ => false
noncomputable def oMki (t : Nat) (x : XF) : OpF := fun en h nx κ => x en fun v => κ (.ifc t v) h nx
noncomputable def oMkf (f : Nat) (xs : XsF) : OpF := fun en h nx κ => xs en fun vs => κ (.fn f vs) h nx
noncomputable def oExt (x : XF) (n : Nat) : OpF := fun en h nx κ => x en (asTu fun l => nthK AV (fun v => κ v h nx) l n)
noncomputable def oFa (x : XF) (off : Nat) : OpF := fun en h nx κ => x en (asP fun o i => fnat (Nat.add i off) fun j => κ (.p o j) h nx)
noncomputable def oFld (x : XF) (off n : Nat) : OpF := fun en h nx κ => x en (asAg fun l => takeK AV n (dropL AV off l) fun vs => κ (.ag vs) h nx)
noncomputable def oFl1 (x : XF) (off : Nat) : OpF := fun en h nx κ => x en (asAg fun l => nthK AV (fun v => κ v h nx) l off)
noncomputable def oIas (x y : XF) (size : Nat) : OpF := fun en h nx κ => x en (asSl fun o off len _ => y en (asN fun i => br (Nat.blt i len) (fnat (Nat.add off (Nat.mul i size)) fun j => κ (.p o j) h nx) false))
/-- a place of sixteen -/
noncomputable def qK (o off len size k N : Nat) (κ : AV → R) : R := br (Nat.beq len 16) (br (Nat.beq size 1) (br (Nat.blt k 8) (br (Nat.beq (ltm N (Nat.mul LO 16)) LO) (κ (.q o off N)) false) false) false) false
noncomputable def oIaa (x y : XF) (len size : Nat) : OpF := fun en h nx κ => x en (asP fun o off => y en fun i => match i with
  | .l k N => qK o off len size k N fun v => κ v h nx
  | i => asN (fun i => br (Nat.blt i len) (fnat (Nat.add off (Nat.mul i size)) fun j => κ (.p o j) h nx) false) i)
noncomputable def oIxs (x y : XF) : OpF := fun en h nx κ => x en (asS fun l => y en (asN fun i => nthK Nat (fun c => κ (.i 4 (.ofNat c)) h nx) l i))
noncomputable def oLens (x : XF) : OpF := fun en h nx κ => x en fun v => match v with
  | .xi n k r m => br (Nat.beq k 8) (κ (.xi n 9 r m) h nx) false
  | v => asS (fun l => fnat (lenN Nat l) fun n => κ (.i 3 (.ofNat n)) h nx) v
noncomputable def oLenl (x : XF) : OpF := fun en h nx κ => x en fun v => match v with
  | .sl _ _ len _ => κ (.i 3 (.ofNat len)) h nx
  | .ns => κ (.i 3 (.ofNat 0)) h nx
  | .xi _ k _ _ => br (Nat.beq k 12) (κ (.i 3 (.ofNat 0)) h nx) false
  | _ => false
noncomputable def oLenm (x : XF) : OpF := fun en h nx κ => x en fun v => match v with
  | .nm => κ (.i 3 (.ofNat 0)) h nx
  | .m o => get o h (asMp fun es _ => fnat (lenN ME es) fun n => κ (.i 3 (.ofNat n)) h nx)
  | _ => false
noncomputable def mmK (mx : Bool) (vs : List AV) : AV → (AV → R) → R :=
  @List.rec AV (fun _ => AV → (AV → R) → R) (fun a κ => κ a) (fun v _ ih a κ => asI (fun k x => asI (fun _ y => @Bool.rec (fun _ => R)
    (cmLt y x fun c => br c (ih (.i k y) κ) (ih (.i k x) κ)) (cmLt x y fun c => br c (ih (.i k y) κ) (ih (.i k x) κ)) mx) v) a) vs
noncomputable def oMm (mx : Bool) (xs : XsF) : OpF := fun en h nx κ => xs en fun vs => match vs with | [] => false | v :: vs => mmK mx vs v fun v => κ v h nx
noncomputable def oLd (x : XF) (n : Nat) : OpF := fun en h nx κ => x en (asP fun o off => rdK o off n h fun vs => κ (.ag vs) h nx)
/-- numbers of kind k -/
noncomputable def natsK (k : Nat) (vs : List AV) : (List Nat → R) → R :=
  @List.rec AV (fun _ => (List Nat → R) → R) (fun κ => κ []) (fun v _ ih κ => lnK k v fun n => ih fun l => κ (n :: l)) vs
/-- of each two the one that the mask tells -/
noncomputable def foldK (m : Nat) (l : List Nat) : (List Nat → R) → R :=
  @List.rec Nat (fun _ => Option Nat → (List Nat → R) → R) (fun _ κ => κ []) (fun y _ ih o κ => @Option.rec Nat (fun _ => R) (ih (some y) κ)
    (fun x => fnat (Nat.xor x (Nat.land (Nat.xor x y) m)) fun z => ih none fun l => κ (z :: l)) o) l none
noncomputable def bitM (N b : Nat) : Nat := Nat.mul (Nat.land (Nat.shiftRight N b) LO) 18446744073709551615
noncomputable def muxK (N : Nat) (l : List Nat) (κ : Nat → R) : R := fnat (bitM N 0) fun m0 => foldK m0 l fun l => fnat (bitM N 1) fun m1 => foldK m1 l fun l => fnat (bitM N 2) fun m2 => foldK m2 l fun l =>
  fnat (bitM N 3) fun m3 => foldK m3 l fun l => headK κ l
noncomputable def muxV (N : Nat) (vs : List AV) (κ : AV → R) : R := match vs with
  | .i k n :: r => br (Nat.blt k 8) (natsK k (.i k n :: r) fun l => muxK N l fun M => κ (.l k M)) false
  | _ => false
noncomputable def ldV (h : H) (p : AV) (κ : AV → R) : R := match p with
  | .q o off N => rdK o off 16 h fun vs => muxV N vs κ
  | p => asP (fun o off => rd1 o off h κ) p
noncomputable def oLd1 (x : XF) : OpF := fun en h nx κ => x en fun p => ldV h p fun v => κ v h nx
noncomputable def oSt (x y : XF) (n : Nat) : OpF := fun en h nx κ => x en (asP fun o off => y en (cellsK fun l => br (Nat.beq (lenN AV l) n) (wrK o off l h fun h => κ undef h nx) false))
noncomputable def oAl (z : List AV) (n : Nat) : OpF := fun _ h nx κ => newL z n h nx fun o h nx => κ (.p o 0) h nx
noncomputable def oBx (x : XF) : OpF := fun en h nx κ => x en (cellsK fun l => fnat (lenN AV l) fun n => newL l n h nx fun o h nx => κ (.p o 0) h nx)
/-- the parts of a literal -/
abbrev PtF := Env → List AV → (List AV → R) → R
noncomputable def pNil : PtF := fun _ l κ => κ l
noncomputable def pPt (off size : Nat) (x : XF) (r : PtF) : PtF := fun en l κ => x en (cellsK fun vs => br (Nat.beq (lenN AV vs) size) (putLK vs off l fun l => r en l κ) false)
noncomputable def oBld (z : List AV) (ps : PtF) : OpF := fun en h nx κ => ps en z fun l => κ (.ag l) h nx
noncomputable def oBsl (z : List AV) (n len : Nat) (ps : PtF) : OpF := fun en h nx κ => ps en z fun l => newL l n h nx fun o h nx => κ (.sl o 0 len (some len)) h nx
noncomputable def oMks (x y : XF) (size : Nat) (z : List AV) (bytes : Nat) : OpF := fun en h nx κ => x en (asN fun l => y en (asN fun c =>
  br (Nat.ble l c) (br (Nat.ble c 9223372036854775807) (br (Nat.ble (Nat.mul bytes c) 281474976710656)
    (fnat (Nat.mul c size) fun n => newK (.ce n 0 z size (deep n) (E (deep n)) true []) h nx fun o h nx => κ (.sl o 0 l (some c)) h nx) false) false) false))
noncomputable def oMkm : OpF := fun _ h nx κ => newK (.mp [] 0) h nx fun o h nx => κ (.m o) h nx
noncomputable def fndK (q : QF) (k : AV) (es : List ME) (nf : R) (κ : AV → R) : R :=
  @List.rec ME (fun _ => R) nf (fun e _ ih => match e with | .mk k' v _ => q k k' fun c => br c (κ v) ih) es
noncomputable def oLkp (g : Bool) (ks : List Nat) (x k : XF) (ok : Bool) (z : AV) : OpF := fun en h nx κ => x en fun a => k en fun k => kyT g ks k (
    let no := br ok (κ (.tu [z, .b false]) h nx) (κ z h nx)
    match a with
    | .nm => no
    | .m o => get o h (asMp fun es _ => fndK (eqT g ks) k es no fun v => br ok (κ (.tu [v, .b true]) h nx) (κ v h nx))
    | _ => false)
/-- a map's entries with that of key k given value v; without one: nf -/
noncomputable def updK (q : QF) (k v : AV) (es : List ME) (nf : R) : (List ME → R) → R :=
  @List.rec ME (fun _ => (List ME → R) → R) (fun _ => nf) (fun e r ih κ => match e with | .mk k' v' b => q k k' fun c => br c (κ (.mk k v b :: r)) (ih fun r => κ (.mk k' v' b :: r))) es
noncomputable def oMpu (g : Bool) (ks : List Nat) (x k v : XF) : OpF := fun en h nx κ => x en (asM fun o => k en fun k => v en fun v => kyT g ks k (
  get o h (asMp fun es c => updK (eqT g ks) k v es
    (appK ME es [.mk k v c] fun es => fnat (Nat.succ c) fun c' => put o (.mp es c') h fun h => κ undef h nx)
    fun es => put o (.mp es c) h fun h => κ undef h nx)))
/-- a map's entry of key k: its key laid anew, its value and stamp told -/
noncomputable def entK (q : QF) (k : AV) (es : List ME) (nf : R) : (List ME → AV → Nat → R) → R :=
  @List.rec ME (fun _ => (List ME → AV → Nat → R) → R) (fun _ => nf) (fun e r ih κ => match e with | .mk k' v' b => q k k' fun c => br c (κ (.mk k v' b :: r) v' b) (ih fun r v b' => κ (.mk k' v' b :: r) v b')) es
noncomputable def oMpe (g : Bool) (ks : List Nat) (x k : XF) (z : AV) : OpF := fun en h nx κ => x en (asM fun o => k en fun k => kyT g ks k (
  get o h (asMp fun es c => entK (eqT g ks) k es
    (appK ME es [.mk k z c] fun es => fnat (Nat.succ c) fun c' => put o (.mp es c') h fun h => κ (.tu [z, .i 3 (.ofNat c)]) h nx)
    fun es v b => put o (.mp es c) h fun h => κ (.tu [v, .i 3 (.ofNat b)]) h nx)))
noncomputable def ensK (s : Nat) (v : AV) (es : List ME) : (List ME → R) → R :=
  @List.rec ME (fun _ => (List ME → R) → R) (fun _ => false) (fun e r ih κ => match e with | .mk k' v' b => br (Nat.beq b s) (κ (.mk k' v b :: r)) (ih fun r => κ (.mk k' v' b :: r))) es
noncomputable def oEns (x s v : XF) : OpF := fun en h nx κ => x en (asM fun o => s en (asN fun s => v en fun v =>
  get o h (asMp fun es c => ensK s v es fun es => put o (.mp es c) h fun h => κ undef h nx)))
/-- a bound; without one: what stands for it -/
abbrev BdF := Env → Nat → (Nat → R) → R
noncomputable def bNo : BdF := fun _ d κ => κ d
noncomputable def bX (x : XF) : BdF := fun en _ κ => x en (asN κ)
noncomputable def cutK (o off len c l hh m size : Nat) (h : H) (nx : Nat) (κ : K) : R :=
  br (Nat.ble hh m) (br (Nat.ble m c) (br (Nat.beq m l) (κ (.sl o off 0 (some 0)) h nx)
    (fnat (Nat.add off (Nat.mul l size)) fun j => fnat (Nat.sub hh l) fun n => fnat (Nat.sub m l) fun c => κ (.sl o j n (some c)) h nx)) false) false
/-- a cut of a row whose end is not known: mx: is there a bound of it -/
noncomputable def cutN (o off l hh size : Nat) (h : H) (nx : Nat) (κ : K) : R :=
  get o h fun a => match a with
    | .ce N es z zl d t top sh => br (Nat.beq es size) (br (Nat.beq size 0) false (br (Nat.ble (Nat.add off (Nat.mul hh size)) N)
        (br (Nat.ble (Nat.add off (Nat.mul (Nat.succ l) size)) N) (fnat (Nat.add off (Nat.mul l size)) fun j => fnat (Nat.sub hh l) fun n => κ (.sl o j n none) h nx)
          (br top (put o (.ce N es z zl d t true (nx :: sh)) h fun h => newK (.ce 0 size [] 0 0 none false []) h nx fun o h nx => κ (.sl o 0 0 none) h nx) false)) false)) false
    | _ => false
/-- .. with a bound of its end -/
noncomputable def cutM (o off len l hh m size : Nat) (h : H) (nx : Nat) (κ : K) : R :=
  get o h fun a => match a with
    | .ce N es z zl d t top sh => br (Nat.beq es size) (br (Nat.beq size 0) false (br (Nat.ble (Nat.add off (Nat.mul m size)) N) (cutK o off len m l hh m size h nx κ) false)) false
    | _ => false
noncomputable def oSlc (x : XF) (lo hi mx : BdF) (nomax : Bool) (size : Nat) : OpF := fun en h nx κ => x en fun a => match a with
    | .ns => lo en 0 fun l => hi en 0 fun hh => mx en 0 fun m => br (Nat.beq l 0) (br (Nat.beq hh 0) (br (Nat.beq m 0) (κ .ns h nx) false) false) false
    | .sl o off len cap => lo en 0 fun l => hi en len fun hh => br (Nat.ble l hh) (match cap with
        | some c => mx en c fun m => cutK o off len c l hh m size h nx κ
        | none => br nomax (cutN o off l hh size h nx κ) (mx en 0 fun m => cutM o off len l hh m size h nx κ)) false
    | _ => false
/-- a cut of a row whose end is not known, that lays nothing new -/
noncomputable def cutR (o off l hh size : Nat) (h : H) (nx : Nat) (κ : K) : R :=
  get o h fun a => match a with
    | .ce N es z zl d t top sh => br (Nat.beq es size) (br (Nat.beq size 0) false (br (Nat.ble (Nat.add off (Nat.mul hh size)) N)
        (br (Nat.ble (Nat.add off (Nat.mul (Nat.succ l) size)) N) (fnat (Nat.add off (Nat.mul l size)) fun j => fnat (Nat.sub hh l) fun n => κ (.sl o j n none) h nx) (br (Nat.beq hh l) (κ (.xi o 12 off l) h nx) false)) false)) false
    | _ => false
noncomputable def oSlr (x : XF) (lo hi mx : BdF) (nomax : Bool) (size : Nat) : OpF := fun en h nx κ => x en fun a => match a with
    | .ns => lo en 0 fun l => hi en 0 fun hh => mx en 0 fun m => br (Nat.beq l 0) (br (Nat.beq hh 0) (br (Nat.beq m 0) (κ .ns h nx) false) false) false
    | .sl o off len cap => lo en 0 fun l => hi en len fun hh => br (Nat.ble l hh) (match cap with
        | some c => mx en c fun m => cutK o off len c l hh m size h nx κ
        | none => br nomax (cutR o off l hh size h nx κ) (mx en 0 fun m => cutM o off len l hh m size h nx κ)) false
    | _ => false
noncomputable def oSls (x : XF) (lo hi : BdF) : OpF := fun en h nx κ => x en (asS fun s => lo en 0 fun l => fnat (lenN Nat s) fun n => hi en n fun hh =>
  br (Nat.ble l hh) (br (Nat.ble hh n) (takeK Nat (Nat.sub hh l) (dropL Nat l s) fun s => κ (.s s) h nx) false) false)
noncomputable def oSla (x : XF) (lo hi mx : BdF) (len size : Nat) : OpF := fun en h nx κ => x en (asP fun o off => lo en 0 fun l => hi en len fun hh => mx en len fun m =>
  br (Nat.ble l hh) (cutK o off len len l hh m size h nx κ) false)
/-- what is appended: its cells, and how many -/
noncomputable def srcK (y : AV) (size : Nat) (h : H) (κ : List AV → Nat → R) : R :=
  match y with
  | .ns => κ [] 0
  | .sl o off len _ => fnat (Nat.mul len size) fun n => rdK o off n h fun vs => κ vs len
  | .s l => br (Nat.beq size 1) (ofBytes l fun vs => fnat (lenN Nat l) fun n => κ vs n) false
  | _ => false
noncomputable def fits (size need bytes : Nat) (κ : R) : R := br (Nat.beq size 0) false (br (Nat.ble need 1073741824) (br (Nat.ble (Nat.mul need bytes) 70368744177664) κ false) false)
/-- a new row, no one's else -/
noncomputable def growK (old new : List AV) (size bytes : Nat) (h : H) (nx : Nat) (need : Nat) (κ : K) : R :=
  fits size need bytes (appK AV old new fun l => fnat (Nat.mul need size) fun n => newK (.ce n size l n (deep n) (E (deep n)) true []) h nx fun o h nx => κ (.sl o 0 need none) h nx)
/-- a tree made deeper -/
noncomputable def deepr (d : Nat) (t : L (Option AV) d) : L (Option AV) (Nat.succ d) := (N8.mk t (E d) (E d) (E d) (E d) (E d) (E d) (E d) : N8 (L (Option AV) d))
/-- a row behind what it was, laid over its tree -/
noncomputable def moreK (n size : Nat) (z : List AV) (zl d : Nat) (t : L (Option AV) d) (N : Nat) (new : List AV) (o : Nat) (sh : List Nat) (need : Nat) (h : H) (nx : Nat) (κ : K) : R :=
  setsT d new N t fun t => newK (.ce n size z zl d t true (o :: sh)) h nx fun o h nx => κ (.sl o 0 need none) h nx
noncomputable def appN (o off len m size bytes : Nat) (new : List AV) (h : H) (nx : Nat) (κ : K) : R :=
  fnat (Nat.add len m) fun need => get o h fun a => match a with
    | .ce N es z zl d t top sh => br (Nat.beq es size) (br (Nat.beq size 0) false
      (br (Nat.ble (Nat.add off (Nat.mul need size)) N) (wrK o (Nat.add off (Nat.mul len size)) new h fun h => κ (.sl o off need none) h nx)
      (fits size need bytes (br top (br (Nat.beq (Nat.add off (Nat.mul len size)) N)
        (put o (.ce N es z zl d t false sh) h fun h => fnat (Nat.mul need size) fun n =>
          (match off with
           | 0 => br (Nat.ble n (Nat.pow 8 d)) (moreK n size z zl d t N new o sh need h nx κ) (br (Nat.ble n (Nat.pow 8 (Nat.succ d))) (moreK n size z zl (Nat.succ d) (deepr d t) N new o sh need h nx κ)
             (cellsT z zl d t (Nat.mul len size) 0 fun old => appK AV old new fun l => newK (.ce n size l n (deep n) (E (deep n)) true (o :: sh)) h nx fun o h nx => κ (.sl o 0 need none) h nx))
           | _ => cellsT z zl d t (Nat.mul len size) off fun old => appK AV old new fun l => newK (.ce n size l n (deep n) (E (deep n)) true (o :: sh)) h nx fun o h nx => κ (.sl o 0 need none) h nx)) false) false)))) false
    | _ => false
noncomputable def oApn (x y : XF) (size bytes : Nat) : OpF := fun en h nx κ => x en fun a => y en fun b => srcK b size h fun new m => match a with
    | .ns => @Nat.rec (fun _ => R) (κ .ns h nx) (fun _ _ => growK [] new size bytes h nx m κ) m
    | .sl o off len cap => (match cap with
      | some c => fnat (Nat.add len m) fun need => br (Nat.ble need c) (wrK o (Nat.add off (Nat.mul len size)) new h fun h => κ (.sl o off need (some c)) h nx)
          (rdK o off (Nat.mul len size) h fun old => growK old new size bytes h nx need κ)
      | none => appN o off len m size bytes new h nx κ)
    | _ => false
/-- what is appended is known -/
noncomputable def apnK (a : AV) (new : List AV) (m size bytes : Nat) (h : H) (nx : Nat) (κ : K) : R := match a with
    | .ns => @Nat.rec (fun _ => R) (κ .ns h nx) (fun _ _ => growK [] new size bytes h nx m κ) m
    | .sl o off len cap => (match cap with
      | some c => fnat (Nat.add len m) fun need => br (Nat.ble need c) (wrK o (Nat.add off (Nat.mul len size)) new h fun h => κ (.sl o off need (some c)) h nx)
          (rdK o off (Nat.mul len size) h fun old => growK old new size bytes h nx need κ)
      | none => appN o off len m size bytes new h nx κ)
    | _ => false
noncomputable def repK (z : List AV) (n : Nat) : (List AV → R) → R := @Nat.rec (fun _ => (List AV → R) → R) (fun κ => κ []) (fun _ ih κ => ih fun l => appK AV z l κ) n
/-- noughts appended -/
noncomputable def oApz (x y : XF) (size bytes : Nat) (z : List AV) : OpF := fun en h nx κ => x en fun a => y en (asN fun m => br (Nat.ble m 1073741824) (br (Nat.ble (Nat.mul m bytes) 70368744177664)
  (repK z m fun new => apnK a new m size bytes h nx κ) false) false)
/-- a row's cells made noughts -/
noncomputable def oClr (x : XF) (z : List AV) : OpF := fun en h nx κ => x en fun a => match a with
    | .ns => κ undef h nx
    | .sl o off len _ => @Nat.rec (fun _ => R) (κ undef h nx) (fun _ _ => repK z len fun vs => wrK o off vs h fun h => κ undef h nx) len
    | _ => false
/-- a row of bytes that a text may share -/
noncomputable def oMsh (x : XF) : OpF := fun en h nx κ => x en fun a => match a with
    | .sl o off len cap => get o h fun ob => (match ob with
      | .ce n es z zl d t top sh => br top (br (or' (Nat.blt 0 es) (Nat.beq zl 0)) (put o (.ce n es z zl d t true []) h fun h => killK sh h fun h => κ (.sl o off len cap) h nx)
          (cellsT z zl d t n 0 fun l => put o (.ce n es l 0 (deep n) (E (deep n)) true []) h fun h => killK sh h fun h => κ (.sl o off len cap) h nx)) false
      | .sm l => fnat (lenN AV l) fun n => put o (.ce n 0 l 0 (deep n) (E (deep n)) true []) h fun h => κ (.sl o off len cap) h nx
      | _ => false)
    | _ => false
noncomputable def lastK (l : List Nat) (κ : Nat → R) : R := @List.rec Nat (fun _ => R → R) (fun d => d) (fun n _ ih _ => ih (κ n)) l false
noncomputable def bornK (b : Nat) (κ : AV → AV → R) (es : List ME) : R := @List.rec ME (fun _ => R) false (fun e _ ih => match e with | .mk k v b' => br (Nat.beq b' b) (κ k v) ih) es
/-- the entry at which an iteration stands -/
noncomputable def oEty (x : XF) : OpF := fun en h nx κ => x en (asP fun r off => br (Nat.beq off 0) (get r h fun it => match it with
  | .it (some m) _ seen st => lastK seen fun b => get m h (asMp fun es c => br (Nat.beq c st) (bornK b (fun k v => κ (.tu [k, v]) h nx) es) false)
  | _ => false) false)
/-- what is copied, as far as there is room: its cells, and how many there are -/
noncomputable def srcN (y : AV) (size lim : Nat) (h : H) (κ : List AV → Nat → R) : R :=
  match y with
  | .ns => κ [] 0
  | .sl o off len _ => fnat (Nat.mul (Nat.min len lim) size) fun n => rdK o off n h fun vs => κ vs len
  | .s l => br (Nat.beq size 1) (ofBytes l fun vs => fnat (lenN Nat l) fun n => κ vs n) false
  | _ => false
noncomputable def oCpy (x y : XF) (size : Nat) : OpF := fun en h nx κ => x en fun a => y en fun b => match a with
    | .ns => srcN b size 0 h fun _ _ => κ (.i 3 (.ofNat 0)) h nx
    | .sl o off len _ => srcN b size len h fun new m => fnat (Nat.min m len) fun n => takeK AV (Nat.mul n size) new fun new => wrK o off new h fun h => κ (.i 3 (.ofNat n)) h nx
    | _ => false
noncomputable def delK (q : QF) (k : AV) (es : List ME) : (List ME → R) → R :=
  @List.rec ME (fun _ => (List ME → R) → R) (fun κ => κ []) (fun e r ih κ => match e with | .mk k' v' b => q k k' fun c => br c (κ r) (ih fun r => κ (.mk k' v' b :: r))) es
noncomputable def oDlt (g : Bool) (ks : List Nat) (x k : XF) : OpF := fun en h nx κ => x en fun a => k en fun k => kyT g ks k (match a with
    | .nm => κ undef h nx
    | .m o => get o h (asMp fun es c => delK (eqT g ks) k es fun es => put o (.mp es c) h fun h => κ undef h nx)
    | _ => false)
noncomputable def oAld (k : Nat) (x : XF) : OpF := fun en h nx κ => x en (asP fun o off => rd1 o off h (asK k fun n => κ (.i k n) h nx))
noncomputable def oAst (x y : XF) : OpF := fun en h nx κ => x en (asP fun o off => y en (asI fun k n => wrK o off [.i k n] h fun h => κ undef h nx))
noncomputable def oAcs (k : Nat) (x y z : XF) : OpF := fun en h nx κ => x en (asP fun o off => y en (asI fun _ n' => z en (asI fun k'' m => rd1 o off h (asK k fun n =>
    cmEq n n' fun c => br c (wrK o off [.i k'' m] h fun h => κ (.b true) h nx) (κ (.b false) h nx)))))
noncomputable def oAad (k : Nat) (x y : XF) : OpF := fun en h nx κ => x en (asP fun o off => y en (asI fun _ m => rd1 o off h (asK k fun n =>
    wrap k (Int.add n m) fun r => wrK o off [.i k r] h fun h => κ (.i k r) h nx)))
noncomputable def oNop : OpF := fun _ h nx κ => κ undef h nx
noncomputable def oNopp (x : XF) : OpF := fun en h nx κ => x en (asP fun _ _ => κ undef h nx)
noncomputable def oBad : OpF := fun _ _ _ _ => false
noncomputable def oRng (x : XF) : OpF := fun en h nx κ => x en fun a => match a with
  | .nm => newK (.it none 0 [] 0) h nx fun o h nx => κ (.p o 0) h nx
  | .m o => get o h (asMp fun _ c => newK (.it (some o) c [] c) h nx fun o h nx => κ (.p o 0) h nx)
  | _ => false
noncomputable def memN (n : Nat) (l : List Nat) : Bool := @List.rec Nat (fun _ => Bool) false (fun x _ ih => @Bool.rec (fun _ => Bool) ih true (Nat.beq x n)) l
/-- the entries that an iteration has not seen, by their stamps -/
noncomputable def leftL (seen : List Nat) (es : List ME) : List ME := @List.rec ME (fun _ => List ME) [] (fun e _ ih => match e with | .mk _ _ b => @Bool.rec (fun _ => List ME) (e :: ih) ih (memN b seen)) es
noncomputable def anyBelow (c : Nat) (es : List ME) : Bool := @List.rec ME (fun _ => Bool) false (fun e _ ih => match e with | .mk _ _ b => @Bool.rec (fun _ => Bool) ih true (Nat.blt b c)) es
/-- the next of an iteration: whichever may come; an iteration that is over is not looked at again -/
noncomputable def forkN (r m since : Nat) (seen : List Nat) (h : H) (nx : Nat) (κ : K) (clock : Nat) (l : List ME) : R :=
  @List.rec ME (fun _ => R) true (fun e _ ih => match e with | .mk k v b => br (Nat.blt b since) (br (appK Nat seen [b] fun seen => put r (.it (some m) since seen clock) h fun h => κ (.tu [.b true, k, v]) h nx) ih false) false) l
noncomputable def nxtK (r m since : Nat) (seen : List Nat) (h : H) (nx : Nat) (κ : K) (es : List ME) (clock : Nat) : R := match leftL seen es with
  | [] => put r .dead h fun h => κ (.tu [.b false]) h nx
  | [.mk k v b] => br (Nat.blt b since) (appK Nat seen [b] fun seen => put r (.it (some m) since seen clock) h fun h => κ (.tu [.b true, k, v]) h nx) false
  | l => forkN r m since seen h nx κ clock l
noncomputable def oNxt (x : XF) : OpF := fun en h nx κ => x en (asP fun r off => br (Nat.beq off 0) (get r h fun it => match it with
  | .it none _ _ _ => κ (.tu [.b false]) h nx
  | .it (some m) since seen last => get m h (asMp fun es clock => match seen with
      | [] => nxtK r m since seen h nx κ es clock
      | _ => (match es with | [] => nxtK r m since seen h nx κ es clock | _ => br (anyBelow last es) (nxtK r m since seen h nx κ es clock) false))
  | _ => false) false)

/-! ### Operands, stretches -/
noncomputable def xC (v : AV) : XF := fun _ κ => κ v
noncomputable def xT (t : Nat) : XF := fun en κ => getK AV κ 3 t en
noncomputable def xsN : XsF := fun _ κ => κ []
noncomputable def xsC (x : XF) (xs : XsF) : XsF := fun en κ => x en fun v => xs en fun vs => κ (v :: vs)
noncomputable def dN : DsF := fun _ en κ => κ en
noncomputable def dT (t : Nat) : DsF := fun v => setK AV v 3 t
noncomputable def gN : GdF := fun _ a _ => a
noncomputable def gG (x : XF) (want : Bool) : GdF := fun en a b => x en fun v => match v with | .b c => br (eqB c want) a b | .tu _ => b | _ => false
noncomputable def sNil : SegF := fun en h nx κ => κ en h nx
noncomputable def sOp (d : DsF) (f : OpF) (r : SegF) : SegF := fun en h nx κ => f en h nx fun v h nx => d v en fun en => r en h nx κ
noncomputable def sOpG (g : GdF) (d : DsF) (f : OpF) (r : SegF) : SegF := fun en h nx κ =>
  g en (f en h nx fun v h nx => d v en fun en => r en h nx κ) (d undef en fun en => r en h nx κ)
end Go.AM
