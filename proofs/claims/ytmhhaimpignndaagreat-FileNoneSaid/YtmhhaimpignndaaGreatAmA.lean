/-
  AM, 1: a machine that runs closed calls in the kernel: its values, trees, heaps, code. Conditions: none.
-/
import Derived.Test.YtmhhaimpignndaaGreatAmLn
namespace Go.AM
open Go

/-- what a run answers: did it go through -/
abbrev R := Bool

/-! ### Trees with eight branches: 'L α n' has 8^n places -/
inductive N8 (α : Type) where
  | mk (a b c d e f g h : α)
def L (α : Type) : Nat → Type
  | 0 => α
  | n + 1 => N8 (L α n)

noncomputable def g80 (α : Type) (κ : α → R) (t : N8 α) : R := @N8.rec α (fun _ => R) (fun a b c d e f g h => κ a) t
noncomputable def s80 (α : Type) (ih : α → (α → R) → R) (t : N8 α) (k : N8 α → R) : R := @N8.rec α (fun _ => R) (fun a b c d e f g h => ih a fun y => k (.mk y b c d e f g h)) t
noncomputable def g81 (α : Type) (κ : α → R) (t : N8 α) : R := @N8.rec α (fun _ => R) (fun a b c d e f g h => κ b) t
noncomputable def s81 (α : Type) (ih : α → (α → R) → R) (t : N8 α) (k : N8 α → R) : R := @N8.rec α (fun _ => R) (fun a b c d e f g h => ih b fun y => k (.mk a y c d e f g h)) t
noncomputable def g82 (α : Type) (κ : α → R) (t : N8 α) : R := @N8.rec α (fun _ => R) (fun a b c d e f g h => κ c) t
noncomputable def s82 (α : Type) (ih : α → (α → R) → R) (t : N8 α) (k : N8 α → R) : R := @N8.rec α (fun _ => R) (fun a b c d e f g h => ih c fun y => k (.mk a b y d e f g h)) t
noncomputable def g83 (α : Type) (κ : α → R) (t : N8 α) : R := @N8.rec α (fun _ => R) (fun a b c d e f g h => κ d) t
noncomputable def s83 (α : Type) (ih : α → (α → R) → R) (t : N8 α) (k : N8 α → R) : R := @N8.rec α (fun _ => R) (fun a b c d e f g h => ih d fun y => k (.mk a b c y e f g h)) t
noncomputable def g84 (α : Type) (κ : α → R) (t : N8 α) : R := @N8.rec α (fun _ => R) (fun a b c d e f g h => κ e) t
noncomputable def s84 (α : Type) (ih : α → (α → R) → R) (t : N8 α) (k : N8 α → R) : R := @N8.rec α (fun _ => R) (fun a b c d e f g h => ih e fun y => k (.mk a b c d y f g h)) t
noncomputable def g85 (α : Type) (κ : α → R) (t : N8 α) : R := @N8.rec α (fun _ => R) (fun a b c d e f g h => κ f) t
noncomputable def s85 (α : Type) (ih : α → (α → R) → R) (t : N8 α) (k : N8 α → R) : R := @N8.rec α (fun _ => R) (fun a b c d e f g h => ih f fun y => k (.mk a b c d e y g h)) t
noncomputable def g86 (α : Type) (κ : α → R) (t : N8 α) : R := @N8.rec α (fun _ => R) (fun a b c d e f g h => κ g) t
noncomputable def s86 (α : Type) (ih : α → (α → R) → R) (t : N8 α) (k : N8 α → R) : R := @N8.rec α (fun _ => R) (fun a b c d e f g h => ih g fun y => k (.mk a b c d e f y h)) t
noncomputable def g87 (α : Type) (κ : α → R) (t : N8 α) : R := @N8.rec α (fun _ => R) (fun a b c d e f g h => κ h) t
noncomputable def s87 (α : Type) (ih : α → (α → R) → R) (t : N8 α) (k : N8 α → R) : R := @N8.rec α (fun _ => R) (fun a b c d e f g h => ih h fun y => k (.mk a b c d e f g y)) t
noncomputable def selG (α : Type) (d : Nat) : (α → R) → N8 α → R := @Nat.rec (fun _ => (α → R) → N8 α → R) (g80 α) (fun d _ => @Nat.rec (fun _ => (α → R) → N8 α → R) (g81 α) (fun d _ => @Nat.rec (fun _ => (α → R) → N8 α → R) (g82 α) (fun d _ => @Nat.rec (fun _ => (α → R) → N8 α → R) (g83 α) (fun d _ => @Nat.rec (fun _ => (α → R) → N8 α → R) (g84 α) (fun d _ => @Nat.rec (fun _ => (α → R) → N8 α → R) (g85 α) (fun d _ => @Nat.rec (fun _ => (α → R) → N8 α → R) (g86 α) (fun d _ => g87 α) d) d) d) d) d) d) d
noncomputable def selS (α : Type) (d : Nat) : (α → (α → R) → R) → N8 α → (N8 α → R) → R := @Nat.rec (fun _ => (α → (α → R) → R) → N8 α → (N8 α → R) → R) (s80 α) (fun d _ => @Nat.rec (fun _ => (α → (α → R) → R) → N8 α → (N8 α → R) → R) (s81 α) (fun d _ => @Nat.rec (fun _ => (α → (α → R) → R) → N8 α → (N8 α → R) → R) (s82 α) (fun d _ => @Nat.rec (fun _ => (α → (α → R) → R) → N8 α → (N8 α → R) → R) (s83 α) (fun d _ => @Nat.rec (fun _ => (α → (α → R) → R) → N8 α → (N8 α → R) → R) (s84 α) (fun d _ => @Nat.rec (fun _ => (α → (α → R) → R) → N8 α → (N8 α → R) → R) (s85 α) (fun d _ => @Nat.rec (fun _ => (α → (α → R) → R) → N8 α → (N8 α → R) → R) (s86 α) (fun d _ => s87 α) d) d) d) d) d) d) d
/-- the value at place i of a tree, handed on -/
noncomputable def getK (α : Type) (κ : α → R) (n : Nat) : Nat → L α n → R :=
  @Nat.rec (fun n => Nat → L α n → R) (fun _ => κ) (fun n ih i => selG (L α n) (Nat.div i (Nat.pow 8 n)) (ih (Nat.mod i (Nat.pow 8 n)))) n
noncomputable def sB (α : Type) (x : α) (_ : α) (k : α → R) : R := k x
/-- the tree with x at place i, handed on -/
noncomputable def setK (α : Type) (x : α) (n : Nat) : Nat → L α n → (L α n → R) → R :=
  @Nat.rec (fun n => Nat → L α n → (L α n → R) → R) (fun _ => sB α x) (fun n ih i => selS (L α n) (Nat.div i (Nat.pow 8 n)) (ih (Nat.mod i (Nat.pow 8 n)))) n
def rep8 {α : Type} (x : α) : N8 α := .mk x x x x x x x x
/-- one value at all places -/
def repL (α : Type) (x : α) : (n : Nat) → L α n
  | 0 => x
  | n + 1 => (rep8 (repL α x n) : N8 (L α n))

/-! ### Values; kinds of numbers by their place in i8 i16 i32 i64 u8 u16 u32 u64 -/
inductive AV where
  | i (k : Nat) (n : Int)
  | b (b : Bool)
  | p (o off : Nat)
  | sl (o off len : Nat) (cap : Option Nat)
  | np
  | ns
  | s (l : List Nat)
  | m (o : Nat)
  | nm
  | fn (f : Nat) (caps : List AV)
  | yl (o : Nat)
  | nf
  | ifc (t : Nat) (v : AV)
  | ni
  /-- a value handed in, of which nothing is asked -/
  | x (n : Nat)
  /-- a number handed in, of kind k now: when divided by m it leaves r -/
  | xi (n k r m : Nat)
  /-- numbers of kind k in lanes (9: bools) -/
  | l (k N : Nat)
  /-- a place of sixteen, from off on, told by a number in lanes -/
  | q (o off N : Nat)
  /-- a text, of bytes in lanes too -/
  | t (l : List AV)
  /-- what a number handed in leaves when divided by m -/
  | f (n m : Nat)
  /-- a number handed in: below nought (m: 0), or m at least -/
  | z (n m : Nat)
  | ag (l : List AV)
  | tu (l : List AV)

/-- what is put off -/
inductive AD where
  | fn (f : Nat) (args : List AV)
  | col (o : Nat)
/-- how a round was left -/
inductive J where
  | no
  | ret
  | exit (id : Nat)
inductive ME where
  | mk (k v : AV) (born : Nat)
/-- 'ce n es z zl d t top sh': n cells (es 0: these are all; else the elements' size), those of t where there is one, else of z, again and again; may it be written; whose rows may be this one's, as they were; 'sm l': few cells, all listed -/
inductive AO where
  | ce (n : Nat) (es : Nat) (z : List AV) (zl : Nat) (d : Nat) (t : L (Option AV) d) (top : Bool) (sh : List Nat)
  | sm (l : List AV)
  | mp (es : List ME) (clock : Nat)
  | it (m : Option Nat) (since : Nat) (seen : List Nat) (stepped : Nat)
  | lp (st : LoopState) (j : J) (fn : Nat) (li : Nat) (en : L AV 3) (ds : Nat)
  | df (open_ : Bool)
  | dead

abbrev Env := L AV 3
abbrev H := L (Option AO) 5
abbrev K := AV → H → Nat → R
abbrev OpF := Env → H → Nat → K → R
abbrev SegF := Env → H → Nat → (Env → H → Nat → R) → R
abbrev XF := Env → (AV → R) → R
abbrev XsF := Env → (List AV → R) → R
abbrev GdF := Env → R → R → R
abbrev DsF := AV → Env → (Env → R) → R
abbrev ResF := Env → H → (AV → R) → R
abbrev AssF := List AV → Env → (Env → R) → R

/-- a region: a stretch of operations that call nothing, and the call behind it -/
inductive Rg where
  | fin (s : SegF)
  | call (s : SegF) (g : GdF) (d : DsF) (f : Nat) (xs : XsF) (r : Rg)
  | calv (s : SegF) (g : GdF) (d : DsF) (x : XF) (xs : XsF) (r : Rg)
  | dfr (s : SegF) (g : GdF) (d : DsF) (x : XF) (xs : XsF) (r : Rg)
  | rcv (s : SegF) (g : GdF) (d : DsF) (r : Rg)
  /-- a method of an interface value; tbl: by its type, the function -/
  | inv (s : SegF) (g : GdF) (d : DsF) (tbl : List (Nat × Nat)) (x : XF) (xs : XsF) (r : Rg)
inductive C where
  | skip
  | rg (r : Rg)
  | seq (a b : C)
  | cond (x : XF) (a b : C)
  | blk (id : Nat) (a : C)
  | loop (a : C)
  | rf (x : XF) (li : Nat)
  | exit (id : Nat)
  | sc (a : C)
  | bad
  | ret
  /-- a piece that is done at once; the piece itself -/
  | spl (s : SegF) (c : C)
inductive T where
  | c (c : C)
  | rg (r : Rg)
  | blk (id : Nat)
  | lp (c : C)
  | wt (d : DsF) (r : Rg)
  | rt
  | sc
  | irf (o : Nat)
  | erf (o : Nat)
  | br
/-- a call told by its contract -/
abbrev SpF := List AV → H → Nat → (AV → H → Nat → R) → R
inductive AFn where
  | mk (c : C) (res : ResF)
  | sp (s : SpF)
inductive ALp where
  | mk (ps : AssF) (a b : C)
/-- functions and loops by their numbers; lv: are pieces done at once -/
inductive Tb where
  | mk (f : L (Option AFn) 4) (l : L (Option ALp) 5) (lv : Bool)
inductive Fr where
  | mk (fn : Nat) (df : List AD) (kd : Bool) (rd : Option Nat)
inductive AFr where
  | mk (en : Env) (td : List T) (fr : Fr)
inductive ASt where
  | mk (en : Env) (td : List T) (fr : Fr) (cs : List AFr) (h : H) (nx : Nat)
  | fin (v : AV) (h : H) (nx : Nat)

/-! ### Working out -/
noncomputable def br (c : Bool) (a b : R) : R := @Bool.rec (fun _ => R) b a c
noncomputable def fnat (n : Nat) (κ : Nat → R) : R := @Nat.rec (fun _ => R) (κ 0) (fun m _ => κ (Nat.succ m)) n
noncomputable def fint (n : Int) (κ : Int → R) : R := @Int.rec (fun _ => R) (fun m => fnat m fun m => κ (.ofNat m)) (fun m => fnat m fun m => κ (.negSucc m)) n
noncomputable def fbool (c : Bool) (κ : Bool → R) : R := @Bool.rec (fun _ => R) (κ false) (κ true) c
noncomputable def opt (α : Type) (κ : α → R) (x : Option α) : R := @Option.rec α (fun _ => R) false κ x
/-- the value of a list's place -/
noncomputable def nthK (α : Type) (κ : α → R) (l : List α) : Nat → R :=
  @List.rec α (fun _ => Nat → R) (fun _ => false) (fun x _ ih n => @Nat.rec (fun _ => R) (κ x) (fun m _ => ih m) n) l
noncomputable def lenN (α : Type) (l : List α) : Nat := @List.rec α (fun _ => Nat) 0 (fun _ _ ih => Nat.succ ih) l
noncomputable def not' (c : Bool) : Bool := @Bool.rec (fun _ => Bool) true false c
noncomputable def or' (c d : Bool) : Bool := @Bool.rec (fun _ => Bool) d true c
noncomputable def eqB (c d : Bool) : Bool := @Bool.rec (fun _ => Bool) (not' d) d c
noncomputable def appK (α : Type) (a b : List α) (κ : List α → R) : R := @List.rec α (fun _ => (List α → R) → R) (fun κ => κ b) (fun x _ ih κ => ih fun r => κ (x :: r)) a κ
end Go.AM
