/-
  AM, 4: a program's functions as the machine's code: first as data, then as what these do. Conditions: none.
-/
import Derived.Test.YtmhhaimpignndaaGreatAmC
namespace Go.AM
open Go

inductive X where
  | t (t : Nat)
  | c (v : AV)
inductive Gd where
  | n
  | g (t : Nat) (b : Bool)
inductive Ds where
  | n
  | d (t : Nat)
inductive Pt where
  | mk (off size : Nat) (x : X)
/-- operations that call nothing -/
inductive I where
  | mv (x : X)
  | sid (x : X)
  | pick (c x y : X)
  | nc (x : X)
  | bin (op : BinOp) (k : Nat) (x y : X)
  | bs (op : BinOp) (x y : X)
  | bb (neg : Bool) (x y : X)
  | eqs (neg : Bool) (g : Bool) (ks : List Nat) (x y : X)
  | eqn (neg : Bool) (tc : Nat) (x y : X)
  | nt (x : X)
  | ng (x : X)
  | cm (x : X)
  | cvi (k : Nat) (x : X)
  | b2s (x : X)
  | s2b (x : X)
  | uptr (x : X)
  | s2a (x : X) (n : Nat)
  | mki (t : Nat) (x : X)
  | mkf (f : Nat) (caps : List X)
  | ext (x : X) (n : Nat)
  | fa (x : X) (off : Nat)
  | fld (x : X) (off n : Nat)
  | fl1 (x : X) (off : Nat)
  | ias (x y : X) (size : Nat)
  | iaa (x y : X) (len size : Nat)
  | ixs (x y : X)
  | lens (x : X)
  | lenl (x : X)
  | lenm (x : X)
  | mm (mx : Bool) (xs : List X)
  | ld (x : X) (n : Nat)
  | ld1 (x : X)
  | st (x y : X) (n : Nat)
  | al (z : List AV) (n : Nat)
  | bx (x : X)
  | bld (z : List AV) (ps : List Pt)
  | bsl (z : List AV) (n : Nat) (len : Nat) (ps : List Pt)
  | mks (x y : X) (size : Nat) (z : List AV) (bytes : Nat)
  | mkm
  | lkp (g : Bool) (ks : List Nat) (x k : X) (ok : Bool) (z : AV)
  | mpu (g : Bool) (ks : List Nat) (x k v : X)
  | mpe (g : Bool) (ks : List Nat) (x k : X) (z : AV)
  | ens (x s v : X)
  | slc (x : X) (lo hi mx : Option X) (size : Nat)
  | slr (x : X) (lo hi mx : Option X) (size : Nat)
  | sls (x : X) (lo hi : Option X)
  | sla (x : X) (lo hi mx : Option X) (len size : Nat)
  | apn (x y : X) (size bytes : Nat)
  | apz (x y : X) (size bytes : Nat) (z : List AV)
  | clr (x : X) (z : List AV)
  | msh (x : X)
  | ety (x : X)
  | cpy (x y : X) (size : Nat)
  | dlt (g : Bool) (ks : List Nat) (x k : X)
  | ald (k : Nat) (x : X)
  | ast (x y : X)
  | acs (k : Nat) (x y z : X)
  | aad (k : Nat) (x y : X)
  | nop
  | nopp (x : X)
  | bad
  | rng (x : X)
  | nxt (x : X)
/-- a region: its operations in their order; rck: one is made again, and must answer as it did -/
inductive DR where
  | nil
  | op (g : Gd) (d : Ds) (i : I) (r : DR)
  | call (g : Gd) (d : Ds) (f : Nat) (xs : List X) (r : DR)
  | calv (g : Gd) (d : Ds) (x : X) (xs : List X) (r : DR)
  | dfr (g : Gd) (d : Ds) (x : X) (xs : List X) (r : DR)
  | rcv (g : Gd) (d : Ds) (r : DR)
  | inv (g : Gd) (d : Ds) (tbl : List (Nat × Nat)) (x : X) (xs : List X) (r : DR)
  | rck (g : Gd) (t : Nat) (i : I) (r : DR)
inductive DC where
  | skip
  | rg (r : DR)
  | seq (a b : DC)
  | cond (x : X) (a b : DC)
  | blk (id : Nat) (a : DC)
  | loop (a : DC)
  | rf (x : X) (li : Nat)
  | exit (id : Nat)
  | sc (a : DC)
  | bad
  | ret
inductive DS where
  | t (t : Nat)
  | c (t : Nat) (n : Nat)
  | c1 (t : Nat)

def kn : IntKind → Nat
  | .i8 => 0 | .i16 => 1 | .i32 => 2 | .i64 => 3 | .u8 => 4 | .u16 => 5 | .u32 => 6 | .u64 => 7
def omap {α β : Type} (f : α → Option β) : List α → Option (List β)
  | [] => some []
  | x :: r => match f x, omap f r with
    | some y, some s => some (y :: s)
    | _, _ => none
/-- a value of one cell -/
def one : AV → Bool
  | .ag _ => false
  | .tu _ => false
  | _ => true
/-- a constant -/
def ofV : Nat → Value → Option AV
  | 0, _ => none
  | n + 1, v => match v with
    | .bool b => some (.b b)
    | .int k i => some (.i (kn k) i)
    | .string s => some (.s (s.data.toList.map (·.toNat)))
    | .pointer none => some .np
    | .slice none 0 0 => some .ns
    | .map none => some .nm
    | .nilFunc => some .nf
    | .nilIface => some .ni
    | .iface t v => (ofV n v).map (.ifc t)
    | .agg cs => (match omap (ofV n) cs.toList with | some l => if l.all one then some (.ag l) else none | none => none)
    | .tuple cs => (omap (ofV n) cs.toList).map .tu
    | _ => none
def cellsA : AV → List AV
  | .ag l => l
  | v => [v]
section
variable (P : Program) (nt : Nat)
def trX : Operand → Option X
  | .tmp t => if t < 512 then some (.t t) else none
  | .const v => (ofV 40 v).map .c
  | .func f => some (.c (.fn f []))
  | .global _ => none
def trXs (xs : Array Operand) : Option (List X) := omap trX xs.toList
def sizeT (t : TypeId) : Option Nat := (P.info? t).map (·.size)
def bytesT (t : TypeId) : Option Nat := (P.info? t).map (·.bytes)
/-- the nought of a type, cell by cell -/
def zeroT (t : TypeId) : Option (List AV) := match P.info? t with
  | some i => match i.zero with
    | some v => match ofV 40 v with
      | some x => if (cellsA x).all one then some (cellsA x) else none
      | none => none
    | none => none
  | none => none
def zeroV (t : TypeId) : Option AV := match P.info? t with
  | some i => match i.zero with
    | some v => ofV 40 v
    | none => none
  | none => none
def aggT (t : TypeId) : Option Bool := (P.underlying t).map fun | .struct _ | .array _ _ => true | _ => false
/-- the kind of a type's one cell -/
def flatC (t : TypeId) : Option Nat := match P.underlying t with
  | some (.int k) => some (kn k)
  | some .string => some 8
  | some .bool => some 9
  | _ => none
/-- fields of one cell each, one behind the other -/
def flatFs : List Field → Nat → Option (List Nat)
  | [], _ => some []
  | f :: r, n => if f.name != "_" && Nat.beq f.offset n then (match flatC P f.type, flatFs r (n + 1) with
      | some c, some cs => some (c :: cs)
      | _, _ => none) else none
/-- a type whose values are alike where their cells are: numbers, texts, bools, and structs and arrays of these -/
def flatT (t : TypeId) : Option (Bool × List Nat) := match P.underlying t with
  | some (.struct fs) => if P.stoodInHeld t = true then none else if P.eqGuardType P.depth t = true then none else (flatFs P fs.toList 0).map fun ks => (true, ks)
  | some (.array n e) => if P.eqGuardType P.depth t = true then none else if sizeT P e = some 1 then (flatC P e).map fun c => (true, List.replicate n c) else none
  | _ => (flatC P t).map fun c => (false, [c])
def optX : Option Operand → Option (Option X)
  | none => some none
  | some x => (trX x).map some
def kindT (t : TypeId) : Option IntKind := match P.underlying t with | some (.int k) => some k | _ => none
def isU8 (t : TypeId) : Bool := match P.underlying t with | some (.int .u8) => true | _ => false
def parts (place : Nat → Option (Nat × Nat)) (ps : List (Nat × Operand)) : Option (List Pt) :=
  omap (fun q => match place q.1, trX q.2 with
    | some (off, size), some x => some (.mk off size x)
    | _, _ => none) ps
def rep {α : Type} : Nat → List α → List α
  | 0, _ => []
  | n + 1, l => l ++ rep n l
def trExt (name : String) (xs : List X) : I :=
  match xs with
  | [] => if name == "internal/race.Disable" then .nop else if name == "internal/race.Enable" then .nop else .bad
  | [x] => if name == "sync/atomic.LoadUint32" then .ald (kn .u32) x else if name == "sync/atomic.LoadInt32" then .ald (kn .i32) x
    else if name == "sync/atomic.LoadInt64" then .ald (kn .i64) x else if name == "sync/atomic.LoadUint64" then .ald (kn .u64) x
    else if name == "internal/race.Acquire" then .nopp x else if name == "internal/race.Release" then .nopp x else if name == "internal/race.ReleaseMerge" then .nopp x else .bad
  | [x, y] => if name == "sync/atomic.StoreUint32" then .ast x y else if name == "sync/atomic.StoreInt32" then .ast x y else if name == "sync/atomic.StoreInt64" then .ast x y
    else if name == "sync/atomic.AddInt32" then .aad (kn .i32) x y else if name == "sync/atomic.AddInt64" then .aad (kn .i64) x y else if name == "sync/atomic.AddUint32" then .aad (kn .u32) x y else .bad
  | [x, y, z] => if name == "sync/atomic.CompareAndSwapInt32" then .acs (kn .i32) x y z else if name == "sync/atomic.CompareAndSwapInt64" then .acs (kn .i64) x y z
    else if name == "sync/atomic.CompareAndSwapUint32" then .acs (kn .u32) x y z else .bad
  | _ => .bad
def bad {α : Type} (d : α) : Option α → α
  | some x => x
  | none => d
def map2 {α β γ : Type} (f : α → β → γ) : Option α → Option β → Option γ
  | some a, some b => some (f a b)
  | _, _ => none
def map3 {α β γ δ : Type} (f : α → β → γ → δ) : Option α → Option β → Option γ → Option δ
  | some a, some b, some c => some (f a b c)
  | _, _, _ => none
/-- a builtin's call -/
def trB (b : Builtin) (ts : List TypeId) (xs : List X) : I :=
  match b, ts, xs with
  | .len, [t], [x] => (match P.underlying t with | some .string => .lens x | some (.slice _) => .lenl x | some (.map _ _) => .lenm x | _ => .bad)
  | .min, _, _ => .mm false xs
  | .max, _, _ => .mm true xs
  | .append, [t, u], [x, y] => (match P.underlying t, P.underlying u with
      | some (.slice e), some (.slice _) => bad .bad (map3 (fun s b z => if z.length == s then .apn x y s b else .bad) (sizeT P e) (bytesT P e) (zeroT P e))
      | some (.slice e), some .string => bad .bad (map3 (fun s b z => if z.length == s then .apn x y s b else .bad) (sizeT P e) (bytesT P e) (zeroT P e))
      | some (.slice e), some (.int _) => bad .bad (map3 (fun s b z => if z.length == s then .apz x y s b z else .bad) (sizeT P e) (bytesT P e) (zeroT P e))
      | _, _ => .bad)
  | .clear, [t], [x] => (match P.underlying t with
      | some (.slice e) => bad .bad ((zeroT P e).map (.clr x))
      | _ => .bad)
  | .copy, t :: _, [x, y] => (match P.underlying t with
      | some (.slice e) => bad .bad ((sizeT P e).map (.cpy x y))
      | _ => .bad)
  | .delete, t :: _, [x, k] => (match P.underlying t with
      | some (.map kt _) => (match flatT P kt with | some (g, ks) => .dlt g ks x k | none => .bad)
      | _ => .bad)
  | _, _, _ => .bad
def isC : Operand → Bool
  | .const _ => true
  | _ => false
def trBin (op : BinOp) (t : TypeId) (x y : Operand) : I :=
  bad .bad (map2 (fun a b => match P.underlying t with
    | some (.int k) => .bin op (kn k) a b
    | some .string => .bs op a b
    | some .bool => (match op with | .eql => .bb false a b | .neq => .bb true a b | _ => .bad)
    | some (.struct _) => (match op with
        | .eql => (match flatT P t with | some (g, ks) => .eqs false g ks a b | none => .bad)
        | .neq => (match flatT P t with | some (g, ks) => .eqs true g ks a b | none => .bad)
        | _ => .bad)
    | some (.array _ _) => (match op with
        | .eql => (match flatT P t with | some (g, ks) => .eqs false g ks a b | none => .bad)
        | .neq => (match flatT P t with | some (g, ks) => .eqs true g ks a b | none => .bad)
        | _ => .bad)
    | some (.interface _) => if isC x || isC y then (match op with | .eql => .eqn false 4 a b | .neq => .eqn true 4 a b | _ => .bad) else .bad
    | some (.pointer e) => if bad 0 (sizeT P e) == 0 then .bad else (match op with | .eql => .eqn false 0 a b | .neq => .eqn true 0 a b | _ => .bad)
    | some (.slice _) => (match op with | .eql => .eqn false 1 a b | .neq => .eqn true 1 a b | _ => .bad)
    | some (.map _ _) => (match op with | .eql => .eqn false 2 a b | .neq => .eqn true 2 a b | _ => .bad)
    | some (.func _ _ _) => (match op with | .eql => .eqn false 3 a b | .neq => .eqn true 3 a b | _ => .bad)
    | _ => .bad) (trX x) (trX y))
/-- a slice expression -/
def trSl (dr : Bool) (t : TypeId) (x : Operand) (lo hi mx : Option Operand) : Option I := match P.underlying t with
      | some (.slice e) => (match trX x, sizeT P e with
          | some x, some s => map3 (fun l h m => if dr then .slr x l h m s else .slc x l h m s) (optX lo) (optX hi) (optX mx)
          | _, _ => none)
      | some .string => (match mx with | none => map3 .sls (trX x) (optX lo) (optX hi) | some _ => none)
      | some (.array n e) => (match trX x, sizeT P e with
          | some x, some s => map3 (fun l h m => .sla x l h m n s) (optX lo) (optX hi) (optX mx)
          | _, _ => none)
      | _ => none
/-- dr: in a drawn region -/
def trI (dr : Bool) (op : Op) : I :=
  match op with
  | .move x => bad .bad ((trX x).map .mv)
  | .assign x => bad .bad ((trX x).map .mv)
  | .pick c x y => bad .bad (map3 .pick (trX c) (trX x) (trX y))
  | .alloc e => bad .bad ((zeroT P e).map fun z => .al z z.length)
  | .box e x => bad .bad ((trX x).map .bx)
  | .build t ps => bad .bad (match P.underlying t, zeroT P t with
      | some (.struct fs), some z => if fs.toList.all (fun f => (sizeT P f.type).isSome) then (parts (fun i => match fs[i]? with | some f => (sizeT P f.type).map (fun s => (f.offset, s)) | none => none) ps.toList).map (.bld z) else none
      | some (.array _ e), some z => if (sizeT P e).isSome then (parts (fun i => (sizeT P e).map (fun s => (i * s, s))) ps.toList).map (.bld z) else none
      | _, _ => none)
  | .buildSlice t len ps => bad .bad (match P.underlying t with
      | some (.slice e) => (match zeroT P e, sizeT P e with
          | some z, some s => if z.length == s && decide (len * s ≤ 2 ^ 24) then (parts (fun i => some (i * s, s)) ps.toList).map (.bsl (rep len z) (len * s) len) else none
          | _, _ => none)
      | _ => none)
  | .load t x => bad .bad (map3 (fun x s g => if g then .ld x s else .ld1 x) (trX x) (sizeT P t) (aggT P t))
  | .store t x y => bad .bad (map3 .st (trX x) (trX y) (sizeT P t))
  | .nilCheck x => bad .bad ((trX x).map .nc)
  | .binOp op t x y _ => trBin P op t x y
  | .unOp op _ x => bad .bad ((trX x).map fun x => match op with | .not => .nt x | .neg => .ng x | .xor => .cm x | .plus => .bad)
  | .convert s d x => bad .bad ((trX x).map fun x => match P.underlying s, P.underlying d with
      | some (.int _), some (.int k) => .cvi (kn k) x
      | some (.slice e), some .string => if isU8 P e then .b2s x else .bad
      | some .string, some (.slice e) => if isU8 P e then .s2b x else .bad
      | some .string, some .string => .sid x
      | some (.slice e), some (.slice _) => if s == d && isU8 P e then .msh x else .bad
      | some (.pointer e), some .unsafePointer => if bad 0 (sizeT P e) == 0 then .bad else .uptr x
      | _, _ => .bad)
  | .sliceToArrayPointer t x => bad .bad (match P.underlying t with | some (.array n _) => (trX x).map fun x => .s2a x n | _ => none)
  | .makeInterface t x => bad .bad ((trX x).map fun x => match P.underlying t with | some (.interface _) => .bad | some _ => .mki t x | none => .bad)
  | .makeFunc (.func f) first cs => if first.size == 0 then bad .bad ((trXs cs).map (.mkf f)) else .bad
  | .makeMap _ none => .mkm
  | .makeSlice t x y => bad .bad (match P.underlying t with
      | some (.slice e) => (match zeroT P e, sizeT P e with
          | some z, some s => if z.length == s && decide (0 < s) then map3 (fun x y b => .mks x y s z b) (trX x) (trX y) (bytesT P e) else none
          | _, _ => none)
      | _ => none)
  | .slice t x lo hi mx => (match hi, mx with | none, some _ => .bad | _, _ => bad .bad (trSl P dr t x lo hi mx))
  | .fieldAddr t x f => bad .bad (match P.underlying t with
      | some (.struct fs) => (match fs[f]? with
          | some f => if bad 0 (sizeT P f.type) == 0 then none else (trX x).map (.fa · f.offset)
          | none => none)
      | _ => none)
  | .field t x f => bad .bad (match P.underlying t with
      | some (.struct fs) => (match fs[f]? with
          | some f => map3 (fun x s g => if g then .fld x f.offset s else .fl1 x f.offset) (trX x) (sizeT P f.type) (aggT P f.type)
          | none => none)
      | _ => none)
  | .indexAddr t x y => bad .bad (match P.underlying t with
      | some (.slice e) => map3 .ias (trX x) (trX y) (sizeT P e)
      | some (.array n e) => map3 (fun x y s => .iaa x y n s) (trX x) (trX y) (sizeT P e)
      | _ => none)
  | .index t x y => bad .bad (match P.underlying t with
      | some .string => map2 .ixs (trX x) (trX y)
      | _ => none)
  | .lookup t x k ok => bad .bad (match P.underlying t with
      | some (.map kt e) => (match flatT P kt with | some (g, ks) => map3 (fun x k z => .lkp g ks x k ok z) (trX x) (trX k) (zeroV P e) | none => none)
      | _ => none)
  | .mapUpdate t m k v => bad .bad (match P.underlying t with
      | some (.map kt _) => (match flatT P kt with | some (g, ks) => map3 (.mpu g ks) (trX m) (trX k) (trX v) | none => none)
      | _ => none)
  | .insert t m k v => bad .bad (match P.underlying t with
      | some (.map kt _) => (match flatT P kt with | some (g, ks) => map3 (.mpu g ks) (trX m) (trX k) (trX v) | none => none)
      | _ => none)
  | .mapEntry t m k => bad .bad (match P.underlying t with
      | some (.map kt e) => (match flatT P kt with | some (g, ks) => map3 (.mpe g ks) (trX m) (trX k) (zeroV P e) | none => none)
      | _ => none)
  | .entryStore _ m s v => bad .bad (map3 .ens (trX m) (trX s) (trX v))
  | .range t x => bad .bad (match P.underlying t with | some (.map _ _) => (trX x).map .rng | _ => none)
  | .entry x => bad .bad ((trX x).map .ety)
  | .next x s => if s then .bad else bad .bad ((trX x).map .nxt)
  | .extract x n => bad .bad ((trX x).map (.ext · n))
  | .call c => (match c.callee, trXs c.args with
      | .builtin b, some xs => trB P b c.argTypes.toList xs
      | .value (.func f), some xs => (match P.funcs[f]? with | some fn => if fn.body.isNone && (fn.origin == fn.name || fn.origin == "") then trExt fn.name xs else .bad | none => .bad)
      | _, _ => .bad)
  | _ => .bad
/-- where an operation's answer goes; 'none': nowhere that is -/
def trD (o : Oper) : Option Ds := match o.dst with | some d => if d < nt then some (.d d) else none | none => some .n
def trG (ops : Array Oper) (o : Oper) : Option Gd := match o.guard with
  | none => some .n
  | some (j, b) => match (ops[j]?).bind (·.dst) with
    | some d => if d < 512 then some (.g d b) else none
    | none => none
def hasBody (f : FuncId) : Bool := match P.funcs[f]? with | some fn => fn.body.isSome && !(fn.name == "runtime.NumGoroutine") | none => false
/-- what an operation is, without its guard and its place -/
inductive DH where
  | op (i : I)
  | call (f : Nat) (xs : List X)
  | calv (x : X) (xs : List X)
  | dfr (x : X) (xs : List X)
  | rcv
  | inv (tbl : List (Nat × Nat)) (x : X) (xs : List X)
  | bad
def mrOk (t : TypeId) (pr : Bool) : Bool := match P.underlying t with | some (.pointer _) => pr | some _ => !pr | none => false
/-- whose method of a name is which function -/
def mtab (name : String) : List (Nat × Nat) := (List.range P.types.size).filterMap fun t => match P.info? t with
  | some i => (match i.methods.find? (·.name == name) with
      | some m => (match m.func with
          | some (f, pr) => if m.path.isEmpty && hasBody P f && mrOk P t pr then some (t, f) else none
          | none => none)
      | none => none)
  | none => none
def trH (dr : Bool) (op : Op) : DH := match op with
  | .call c => (match c.callee, trXs c.args with
    | .builtin .recover, some [] => .rcv
    | .value (.func f), some xs => if hasBody P f then .call f xs else .op (trI P dr op)
    | .value (.tmp t), some xs => if t < 512 then .calv (.t t) xs else .bad
    | .invoke x name, some xs => (match trX x with | some x => .inv (mtab P name) x xs | none => .bad)
    | _, _ => .op (trI P dr op))
  | .defer c => (match c.callee, trXs c.args with
    | .value (.func f), some xs => if hasBody P f then .dfr (.c (.fn f [])) xs else .bad
    | .value (.tmp t), some xs => if t < 512 then .dfr (.t t) xs else .bad
    | _, _ => .bad)
  | op => .op (trI P dr op)
def putH (g : Gd) (d : Ds) (h : DH) (r : DR) : DR := match h with
  | .op i => .op g d i r
  | .call f xs => .call g d f xs r
  | .calv x xs => .calv g d x xs r
  | .dfr x xs => .dfr g d x xs r
  | .rcv => .rcv g d r
  | .inv tbl x xs => .inv g d tbl x xs r
  | .bad => .op .n .n .bad .nil
/-- one operation laid ahead of a region -/
def trO (dr : Bool) (ops : Array Oper) (o : Oper) (r : DR) : DR :=
  match trG ops o, trD nt o with
  | some g, some d => putH g d (trH P dr o.op) r
  | _, _ => .op .n .n .bad .nil
def trOs (ops : Array Oper) : List Oper → DR
  | [] => .nil
  | o :: r => trO P nt false ops o (trOs ops r)
/-- 0: plain; 1: reads; 2: lays new; 3: acts -/
def clsI : I → Nat
  | .mv _ | .sid _ | .pick .. | .nc _ | .bin .. | .bs .. | .bb .. | .fl1 .. | .eqs .. | .nt _ | .ng _ | .cm _ | .cvi .. | .mki .. | .mkf .. | .ext .. | .fa .. | .fld .. | .ias .. | .iaa .. | .ixs .. | .mm .. | .bld .. | .sls .. | .sla .. | .s2a .. => 0
  | .ld .. | .ld1 _ | .lens _ | .lenl _ | .lenm _ | .lkp .. | .b2s _ | .slr .. => 1
  | .al .. | .bx .. | .bsl .. | .mks .. => 2
  | _ => 3
def clsH : DH → Nat
  | .op i => clsI i
  | _ => 3
def cls (o : Oper) : Nat := clsH (trH P true o.op)
def memb (n : Nat) : List Nat → Bool
  | [] => false
  | m :: r => Nat.beq m n || memb n r
def firstBy (f : Nat → Bool) : List Nat → Option Nat
  | [] => none
  | m :: r => if f m then some m else firstBy f r
/-- a drawn region's order: (again, place); again: it is read once more -/
def orderOf (ops : Array Oper) (b : Array Nat) : Nat → List Nat → List (Bool × Nat) → Option (List (Bool × Nat))
  | 0, _, acc => some acc.reverse
  | n + 1, done, acc =>
    let ready (i : Nat) : Bool := !(memb i done) && (match ops[i]? with | some o => o.after.toList.all fun e => !Region.binds .any e || memb e.on done | none => false)
    match firstBy (fun i => ready i && (match ops[i]? with | some o => cls P o < 3 | none => false)) (List.range ops.size) with
    | some i => orderOf ops b n (i :: done) ((false, i) :: acc)
    | none => match firstBy ready (List.range ops.size) with
      | none => some acc.reverse
      | some i =>
        let again := done.reverse.filter fun j => !((b.getD i 0).testBit j) && (match ops[j]? with | some o => cls P o == 1 | none => false)
        orderOf ops b n (i :: done) ((again.map fun j => (true, j)).reverse ++ ((false, i) :: acc))
/-- the places that are read -/
def rdX : X → List Nat
  | .t t => [t]
  | .c _ => []
def rdO : Option X → List Nat
  | some x => rdX x
  | none => []
def rdI : I → List Nat
  | .mv x | .sid x | .nc x | .nt x | .ng x | .cm x | .cvi _ x | .b2s x | .s2b x | .uptr x | .s2a x _ | .mki _ x | .ext x _ | .fa x _ | .fld x _ _ | .fl1 x _ | .lens x | .lenl x | .lenm x | .ld x _ | .ld1 x | .bx x | .ald _ x | .nopp x | .rng x | .nxt x | .clr x _ | .msh x | .ety x => rdX x
  | .pick c x y => rdX c ++ rdX x ++ rdX y
  | .bin _ _ x y | .bs _ x y | .bb _ x y | .eqs _ _ _ x y | .eqn _ _ x y | .ias x y _ | .iaa x y _ _ | .ixs x y | .st x y _ | .mks x y _ _ _ | .lkp _ _ x y _ _ | .mpe _ _ x y _ | .apn x y _ _ | .apz x y _ _ _ | .cpy x y _ | .dlt _ _ x y | .ast x y | .aad _ x y => rdX x ++ rdX y
  | .mkf _ xs | .mm _ xs => xs.flatMap rdX
  | .bld _ ps | .bsl _ _ _ ps => ps.flatMap fun | .mk _ _ x => rdX x
  | .mpu _ _ x k v => rdX x ++ rdX k ++ rdX v
  | .ens x k v => rdX x ++ rdX k ++ rdX v
  | .acs _ x k v => rdX x ++ rdX k ++ rdX v
  | .slc x l h m _ => rdX x ++ rdO l ++ rdO h ++ rdO m
  | .slr x l h m _ => rdX x ++ rdO l ++ rdO h ++ rdO m
  | .sls x l h => rdX x ++ rdO l ++ rdO h
  | .sla x l h m _ _ => rdX x ++ rdO l ++ rdO h ++ rdO m
  | .al .. | .mkm | .nop | .bad => []
def rdH : DH → List Nat
  | .op i => rdI i
  | .call _ xs => xs.flatMap rdX
  | .calv x xs => rdX x ++ xs.flatMap rdX
  | .dfr x xs => rdX x ++ xs.flatMap rdX
  | .rcv => []
  | .inv _ x xs => rdX x ++ xs.flatMap rdX
  | .bad => []
def rdG : Option Gd → List Nat
  | some (.g t _) => [t]
  | _ => []
def rdOf (ops : Array Oper) (o : Oper) : List Nat := rdH (trH P true o.op) ++ rdG (trG ops o)
/-- may operation i be carried out where those of 'done' are; what it reads is written, if at all, by operations that come before it, or behind it, whatever the order -/
def fitL (ops : Array Oper) (b : Array Nat) (done : List Nat) (i : Nat) : Bool := match ops[i]? with
  | some o => !memb i done && (trG ops o).isSome && (trD nt o).isSome && ((rdOf P ops o).all fun t => Nat.blt t 512) && (o.after.toList.all fun e => !Region.binds .any e || memb e.on done) &&
      (List.range ops.size).all fun j => match ops[j]? with
        | some o' => (match o'.dst with
          | some d => (!memb d (rdOf P ops o) || (b.getD i 0).testBit j || (b.getD j 0).testBit i) && (Nat.beq i j || match o.dst with | some d' => !Nat.beq d' d | none => true)
          | none => true)
        | none => true
  | none => false
/-- all that write what operation i reads come before it -/
def fitB (ops : Array Oper) (b : Array Nat) (i : Nat) : Bool := match ops[i]? with
  | some o => (List.range ops.size).all fun j => match ops[j]? with
      | some o' => (match o'.dst with
        | some d => !memb d (rdOf P ops o) || (b.getD i 0).testBit j
        | none => true)
      | none => true
  | none => false
def isNil {α : Type} : List α → Bool
  | [] => true
  | _ => false
def clsAt (ops : Array Oper) (i : Nat) : Nat := match ops[i]? with | some o => cls P o | none => 3
/-- a drawn region's order, looked at: done: what has been carried out; st: what is to be read once more -/
def okL (ops : Array Oper) (b : Array Nat) : List (Bool × Nat) → List Nat → List Nat → Bool
  | [], done, st => isNil st && (List.range ops.size).all fun i => memb i done
  | (true, j) :: l, done, st => memb j done && Nat.beq (clsAt P ops j) 1 && fitB P ops b j && okL ops b l done (st.filter fun k => !Nat.beq k j)
  | (false, i) :: l, done, st => fitL P nt ops b done i &&
      (if clsAt P ops i < 3 then okL ops b l (i :: done) st
       else isNil st && (l.all fun q => q.1 || (b.getD q.2 0).testBit i) && okL ops b l (i :: done) (done.filter fun j => Nat.beq (clsAt P ops j) 1 && !((b.getD i 0).testBit j)))
def trDr (ops : Array Oper) : List (Bool × Nat) → DR
  | [] => .nil
  | (false, i) :: r => (match ops[i]? with | some o => trO P nt true ops o (trDr ops r) | none => .op .n .n .bad .nil)
  | (true, i) :: r => (match ops[i]? with
      | some o => (match trG ops o, o.dst with
        | some g, some d => if d < nt then .rck g d (trI P true o.op) (trDr ops r) else .op .n .n .bad .nil
        | _, _ => .op .n .n .bad .nil)
      | none => .op .n .n .bad .nil)
/-- an order, each place worked out -/
def frcN {α : Type} : Nat → (Nat → α) → α
  | 0, κ => κ 0
  | n + 1, κ => κ (n + 1)
def frcB {α : Type} : Bool → (Bool → α) → α
  | false, κ => κ false
  | true, κ => κ true
def frcL {α : Type} : List (Bool × Nat) → (List (Bool × Nat) → α) → α
  | [], κ => κ []
  | (c, n) :: l, κ => frcB c fun c => frcN n fun n => frcL l fun l => κ ((c, n) :: l)
theorem frcL_eq {α : Type} : ∀ (l : List (Bool × Nat)) (κ : List (Bool × Nat) → α), frcL l κ = κ l
  | [], _ => rfl
  | (c, n) :: l, κ => by
    have h1 : ∀ κ : Bool → α, frcB c κ = κ c := fun κ => by cases c <;> rfl
    have h2 : ∀ κ : Nat → α, frcN n κ = κ n := fun κ => by cases n <;> rfl
    simp only [frcL, h1, h2, frcL_eq l]
def trR (ops : Array Oper) (draw : Bool) : DR :=
  if draw then
    match orderOf P ops (Region.before ops) (ops.size + 1) [] [] with
      | some l => frcL l fun l => if okL P nt ops (Region.before ops) l [] [] then trDr P nt ops l else .op .n .n .bad .nil
      | none => .op .n .n .bad .nil
  else trOs P nt ops ops.toList
/-- how many ranges over functions -/
def nrf : Code → Nat
  | .seq a b => nrf a + nrf b
  | .cond _ a b => nrf a + nrf b
  | .block _ a => nrf a
  | .loop a => nrf a
  | .scope a => nrf a
  | .rangeFunc _ _ a b => 1 + nrf a + nrf b
  | _ => 0
def trC : Nat → Code → DC
  | _, .skip => .skip
  | _, .region _ ops draw => .rg (trR P nt ops draw)
  | k, .seq a b => .seq (trC k a) (trC (k + nrf a) b)
  | k, .cond x a b => (match trX x with | some x => .cond x (trC k a) (trC (k + nrf a) b) | none => .bad)
  | k, .block id a => .blk id (trC k a)
  | k, .loop a => .loop (trC k a)
  | k, .rangeFunc f _ _ _ => (match trX f with | some x => .rf x k | none => .bad)
  | _, .exit id => .exit id
  | k, .scope a => .sc (trC k a)
  | _, .label _ => .skip
  | _, .goto _ => .bad
  | _, .ret => .ret
  | _, .refuse _ => .bad
/-- the ranges over functions, in their order: the variables, the assignment, the body -/
def rfs : Nat → Code → List (Nat × Array Nat × Code × Code)
  | k, .seq a b => rfs k a ++ rfs (k + nrf a) b
  | k, .cond _ a b => rfs k a ++ rfs (k + nrf a) b
  | k, .block _ a => rfs k a
  | k, .loop a => rfs k a
  | k, .scope a => rfs k a
  | k, .rangeFunc _ ps a b => (k, ps, a, b) :: (rfs (k + 1) a ++ rfs (k + 1 + nrf a) b)
  | _, _ => []
end
def trRs (P : Program) : ResultVar → DS
  | .tmp t => .t t
  | .cell t ty => if aggT P ty == some true then .c t (bad 0 (sizeT P ty)) else .c1 t

/-! ### What the data do -/
noncomputable def dX : X → XF
  | .t t => xT t
  | .c v => xC v
noncomputable def dXs : List X → XsF
  | [] => xsN
  | x :: r => xsC (dX x) (dXs r)
noncomputable def dB : Option X → BdF
  | none => bNo
  | some x => bX (dX x)
noncomputable def dP : List Pt → PtF
  | [] => pNil
  | .mk off size x :: r => pPt off size (dX x) (dP r)
noncomputable def dBin (op : BinOp) (k : Nat) (x y : XF) : OpF := match op with
  | .add => oLa arAdd laAdd k x y
  | .sub => oAr arSub k x y
  | .mul => oLa arMul laMul k x y
  | .quo => oAr arQuo k x y
  | .rem => oRem k x y
  | .and => oLa arAnd laAnd k x y
  | .or => oLa arOr laOr k x y
  | .xor => oLa arXor laXor k x y
  | .andNot => oAr arAnn k x y
  | .shl => oShl k x y
  | .shr => oShr k x y
  | .eql => oEq false k x y
  | .neq => oEq true k x y
  | .lss => oLt k x y
  | .leq => oLe k x y
  | .gtr => oGt k x y
  | .geq => oGe k x y
noncomputable def dBs (op : BinOp) (x y : XF) : OpF := match op with
  | .add => oCat x y
  | .eql => oSQ false x y
  | .neq => oSQ true x y
  | .lss => oSS sLt x y
  | .leq => oSS sLe x y
  | .gtr => oSS sGt x y
  | .geq => oSS sGe x y
  | _ => oBad
noncomputable def dI : I → OpF
  | .mv x => oMv (dX x)
  | .sid x => oSid (dX x)
  | .pick c x y => oPick (dX c) (dX x) (dX y)
  | .nc x => oNc (dX x)
  | .bin op k x y => dBin op k (dX x) (dX y)
  | .bs op x y => dBs op (dX x) (dX y)
  | .bb g x y => oBB g (dX x) (dX y)
  | .eqs n g ks x y => oEqs n (eqT g ks) (dX x) (dX y)
  | .eqn n tc x y => oEqn n tc (dX x) (dX y)
  | .nt x => oNt (dX x)
  | .ng x => oNg (dX x)
  | .cm x => oCm (dX x)
  | .cvi k x => oCvi k (dX x)
  | .b2s x => oB2s (dX x)
  | .s2b x => oS2b (dX x)
  | .uptr x => oUptr (dX x)
  | .s2a x n => oS2a (dX x) n
  | .mki t x => oMki t (dX x)
  | .mkf f xs => oMkf f (dXs xs)
  | .ext x n => oExt (dX x) n
  | .fa x o => oFa (dX x) o
  | .fld x o n => oFld (dX x) o n
  | .fl1 x o => oFl1 (dX x) o
  | .ias x y s => oIas (dX x) (dX y) s
  | .iaa x y l s => oIaa (dX x) (dX y) l s
  | .ixs x y => oIxs (dX x) (dX y)
  | .lens x => oLens (dX x)
  | .lenl x => oLenl (dX x)
  | .lenm x => oLenm (dX x)
  | .mm b xs => oMm b (dXs xs)
  | .ld x n => oLd (dX x) n
  | .ld1 x => oLd1 (dX x)
  | .st x y n => oSt (dX x) (dX y) n
  | .al z n => oAl z n
  | .bx x => oBx (dX x)
  | .bld z ps => oBld z (dP ps)
  | .bsl z n l ps => oBsl z n l (dP ps)
  | .mks x y s z b => oMks (dX x) (dX y) s z b
  | .mkm => oMkm
  | .lkp g ks x k ok z => oLkp g ks (dX x) (dX k) ok z
  | .mpu g ks x k v => oMpu g ks (dX x) (dX k) (dX v)
  | .mpe g ks x k z => oMpe g ks (dX x) (dX k) z
  | .ens x s v => oEns (dX x) (dX s) (dX v)
  | .slc x l h m s => oSlc (dX x) (dB l) (dB h) (dB m) (match m with | none => true | some _ => false) s
  | .slr x l h m s => oSlr (dX x) (dB l) (dB h) (dB m) (match m with | none => true | some _ => false) s
  | .sls x l h => oSls (dX x) (dB l) (dB h)
  | .sla x l h m n s => oSla (dX x) (dB l) (dB h) (dB m) n s
  | .apn x y s b => oApn (dX x) (dX y) s b
  | .apz x y s b z => oApz (dX x) (dX y) s b z
  | .clr x z => oClr (dX x) z
  | .msh x => oMsh (dX x)
  | .ety x => oEty (dX x)
  | .cpy x y s => oCpy (dX x) (dX y) s
  | .dlt g ks x k => oDlt g ks (dX x) (dX k)
  | .ald k x => oAld k (dX x)
  | .ast x y => oAst (dX x) (dX y)
  | .acs k x y z => oAcs k (dX x) (dX y) (dX z)
  | .aad k x y => oAad k (dX x) (dX y)
  | .nop => oNop
  | .nopp x => oNopp (dX x)
  | .bad => oBad
  | .rng x => oRng (dX x)
  | .nxt x => oNxt (dX x)
noncomputable def dD : Ds → DsF
  | .n => dN
  | .d t => dT t
noncomputable def dG : Gd → GdF
  | .n => gN
  | .g t b => gG (xT t) b
/-- a stretch laid ahead of a region -/
noncomputable def ahead (f : SegF → SegF) : Rg → Rg
  | .fin s => .fin (f s)
  | .call s g d n xs r => .call (f s) g d n xs r
  | .calv s g d x xs r => .calv (f s) g d x xs r
  | .dfr s g d x xs r => .dfr (f s) g d x xs r
  | .rcv s g d r => .rcv (f s) g d r
  | .inv s g d tbl x xs r => .inv (f s) g d tbl x xs r
noncomputable def dR : DR → Rg
  | .nil => .fin sNil
  | .op g d i r => (match g with
    | .n => ahead (sOp (dD d) (dI i)) (dR r)
    | g => ahead (sOpG (dG g) (dD d) (dI i)) (dR r))
  | .rck g t i r => ahead (sAg (dG g) (xT t) (dI i)) (dR r)
  | .call g d f xs r => .call sNil (dG g) (dD d) f (dXs xs) (dR r)
  | .calv g d x xs r => .calv sNil (dG g) (dD d) (dX x) (dXs xs) (dR r)
  | .dfr g d x xs r => .dfr sNil (dG g) (dD d) (dX x) (dXs xs) (dR r)
  | .rcv g d r => .rcv sNil (dG g) (dD d) (dR r)
  | .inv g d tbl x xs r => .inv sNil (dG g) (dD d) tbl (dX x) (dXs xs) (dR r)
noncomputable def dC : DC → C
  | .skip => .skip
  | .rg r => .rg (dR r)
  | .seq a b => .seq (dC a) (dC b)
  | .cond x a b => .cond (dX x) (dC a) (dC b)
  | .blk id a => .blk id (dC a)
  | .loop a => .loop (dC a)
  | .rf x li => .rf (dX x) li
  | .exit id => .exit id
  | .sc a => .sc (dC a)
  | .bad => .bad
  | .ret => .ret
/-- what a call answers -/
noncomputable def r1 : DS → ResF
  | .t t => fun en _ κ => xT t en κ
  | .c t n => fun en h κ => xT t en (asP fun o off => rdK o off n h fun l => κ (.ag l))
  | .c1 t => fun en h κ => xT t en (asP fun o off => rd1 o off h κ)
noncomputable def rsL : List DS → Env → H → (List AV → R) → R
  | [] => fun _ _ κ => κ []
  | d :: r => fun en h κ => r1 d en h fun v => rsL r en h fun vs => κ (v :: vs)
noncomputable def dRs : List DS → ResF
  | [d] => r1 d
  | ds => fun en h κ => rsL ds en h fun vs => κ (.tu vs)
noncomputable def dA : List Nat → AssF
  | [] => asN0
  | t :: r => asC t (dA r)
/-- a function's loops' first number -/
def liOf (f : Nat) : Nat := f * 16
def dsOk : DS → Bool
  | .t t => Nat.blt t 512
  | .c t _ => Nat.blt t 512
  | .c1 t => Nat.blt t 512
def rvOk (P : Program) : ResultVar → Bool
  | .tmp _ => true
  | .cell _ ty => (aggT P ty).isSome && (sizeT P ty).isSome
noncomputable def trF (P : Program) (f : FuncId) : Option AFn := match P.funcs[f]? with
  | some fn => (match fn.body with
    | some c => if Nat.ble fn.ntmps 512 && (fn.results.toList.map (trRs P)).all dsOk && fn.results.toList.all (rvOk P) && Nat.ble (nrf c) 16 && !(fn.name == "runtime.NumGoroutine") then some (.mk (dC (trC P fn.ntmps (liOf f) c)) (dRs (fn.results.toList.map (trRs P)))) else none
    | none => none)
  | none => none
/-- a loop by its number -/
noncomputable def trL (P : Program) (li : Nat) : Option ALp := match P.funcs[li / 16]? with
  | some fn => (match fn.body with
    | some c => (match (rfs (liOf (li / 16)) c).filter (fun x => Nat.beq x.1 li) with
      | [(_, ps, a, b)] => if ps.toList.all (fun t => Nat.blt t fn.ntmps) && (trF P (li / 16)).isSome then some (.mk (dA ps.toList) (dC (trC P fn.ntmps (li + 1) a)) (dC (trC P fn.ntmps (li + 1 + nrf a) b))) else none
      | _ => none)
    | none => none)
  | none => none
end Go.AM
