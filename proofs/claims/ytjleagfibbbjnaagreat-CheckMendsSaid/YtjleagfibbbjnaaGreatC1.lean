/- A part of the proof of this: the program mends a meta as the document does, and what was handed in stays what it was. Conditions: none. Joined of DenA, DenB, DenC, DenD, DenE, DenF, DenG, DenH, DenI, DenJ, DenK, DenR, DenN. -/
import GoSem.Claim
import GoSem.ClaimData
import Derived.Orders
import Derived.WalkKit
import Derived.Maps.AppendAt
import Derived.Deep.AppendSrc
import Derived.Laws.Tables
import Derived.Laws.MakeOwn
import Derived.Great.BuildSlice
namespace Go.Den
open Go
inductive Ct where
 | int (k:IntKind) | bool | str | sl (m:Bool) (cs:List Ct) | oth
inductive U where
 | i (n:Int) | b (x:Bool) | s (x:ByteArray) | l (xs:List U)
def U.int:U→Int | .i n=>n | _=>0
def U.bool:U→Bool | .b x=>x | _=>false
def U.str:U→ByteArray | .s x=>x | _=>.empty
def U.list:U→List U | .l xs=>xs | _=>[]
def nth {α:Type} (d:α):List α→Nat→α
 | [],_=>d
 | x :: _,0=>x
 | _ :: r,n + 1=>nth d r n
abbrev U.at (l:List U) (k:Nat):U:=nth (.i 0) l k
@[simp] theorem U.int_i (n:Int):(U.i n).int=n:=rfl
@[simp] theorem U.bool_b (x:Bool):(U.b x).bool=x:=rfl
@[simp] theorem U.str_s (x:ByteArray):(U.s x).str=x:=rfl
@[simp] theorem U.list_l (x:List U):(U.l x).list=x:=rfl
@[simp] theorem bo {α:Type} (d x:α) (l:List α):nth d (x :: l) 0=x:=rfl
@[simp] theorem aZ {α:Type} (d x:α) (l:List α) (n:Nat):nth d (x :: l) (n + 1)=nth d l n:=rfl
@[simp] theorem kK {α:Type} (d:α) (n:Nat):nth d [] n=d:=by cases n<;>rfl
@[simp] theorem aD {α:Type} (d:α) (l:List α) (n:Nat):nth d l.tail n=nth d l (n + 1):=by cases l<;>simp [nth]
@[simp] theorem bW {α:Type} (d:α):∀ (k:Nat) (l:List α) (n:Nat),nth d (l.drop k) n=nth d l (k + n)
 | 0,l,n=>by simp
 | k + 1,[],n=>by simp
 | k + 1,x :: l,n=>by rw [List.drop_succ_cons,bW d k l n,show k + 1 + n=(k + n) + 1 by omega];rfl
inductive SV where
 | val (c:Ct) (u:U)
 | agg (cs:List SV)
 | nil
 | own (id:Nat)
 | ptr (id:Nat) (off:Nat)
 | aptr (id sz idx off:Nat)
 | osl (id j z:Nat)
 | rptr (cs:List Ct) (us:List U)
 | nilp
 | tup (l:List SV)
 | clo (f:FuncId) (cs:List SV)
 | mp (id:Nat)
 | ifc (t:TypeId) (v:SV)
 | nili
 | und
 | unk
inductive Obj where
 | box (cells:List SV)
 | arr (e:TypeId) (xs:List U)
 | map (t:TypeId) (es:List (U × U))
structure St where
 env:List (Nat × SV)
 objs:List (Nat × Obj)
def get:List (Nat × SV)→Nat→SV
 | [],_=>.unk
 | (k,v) :: r,t=>bif Nat.beq k t then v else get r t
def az:List (Nat × Obj)→Nat→Option Obj
 | [],_=>none
 | (k,v) :: r,t=>bif Nat.beq k t then some v else az r t
def dV:List (Nat × Obj)→Nat→List (Nat × Obj)
 | [],_=>[]
 | (k,v) :: r,t=>bif Nat.beq k t then dV r t else (k,v) :: dV r t
def St.set (σ:St) (t:Nat) (v:SV):St:=⟨(t,v) :: σ.env,σ.objs⟩
def St.setO (σ:St) (t:Nat) (v:Obj):St:=⟨σ.env,(t,v) :: dV σ.objs t⟩
def SV.sub (id : Nat) (x : SV) : SV → SV
  | .own i => bif Nat.beq i id then x else .own i
  | .ptr i o => bif Nat.beq i id then .unk else .ptr i o
  | .aptr i z j o => bif Nat.beq i id then .unk else .aptr i z j o
  | .osl i j z => bif Nat.beq i id then .unk else .osl i j z
  | .agg cs => .agg (subs id x cs)
  | .tup cs => .tup (subs id x cs)
  | .clo f cs => .clo f (subs id x cs)
  | .mp i => bif Nat.beq i id then .unk else .mp i
  | .ifc t v => .ifc t (SV.sub id x v)
  | v => v
  where subs (id : Nat) (x : SV) : List SV → List SV
    | [] => []
    | v :: r => SV.sub id x v :: subs id x r
def qB (id:Nat) (x:SV):List (Nat × SV)→List (Nat × SV)
 | []=>[]
 | (t,v) :: r=>(t,SV.sub id x v) :: qB id x r
def mY (id:Nat) (x:SV):List (Nat × Obj)→List (Nat × Obj)
 | []=>[]
 | (t,.box cs) :: r=>(t,.box (SV.sub.subs id x cs)) :: mY id x r
 | (t,o) :: r=>(t,o) :: mY id x r
def St.kill (σ:St) (id:Nat):St:=⟨qB id .unk σ.env,mY id .unk σ.objs⟩
def St.new (σ:St) (id:Nat) (o:Obj):St:=(σ.kill id).setO id o
def St.freeze (σ:St) (id:Nat) (x:SV):St:=⟨qB id x σ.env,mY id x (dV σ.objs id)⟩
def dF (m:Bool) (u:U):List U:=match m with | true=>u.list | false=>[u]
def ofElem (m:Bool) (us:List U):U:=match m with | true=>.l us | false=>U.at us 0
@[simp] theorem Iz (u:U):dF true u=u.list:=rfl
@[simp] theorem Hb (u:U):dF false u=[u]:=rfl
@[simp] theorem He (us:List U):ofElem true us = .l us:=rfl
@[simp] theorem GH (us:List U):ofElem false us=U.at us 0:=rfl
def inK (k:IntKind) (n:Int):Bool:=decide (k.min≤n) && decide (n≤k.max)
mutual

def okC:Ct→U→Prop
 | .int k,u=>k.min≤u.int∧u.int≤k.max
 | .bool,_=>True
 | .str,u=>u.str.size≤maxLen
 | .sl m cs,u=>u.list.length≤maxLen∧∀ k,k < u.list.length→Bh cs (dF m (U.at u.list k))
 | .oth,_=>True
def Bh:List Ct→List U→Prop
 | [],_=>True
 | c :: cs,us=>okC c (U.at us 0)∧Bh cs us.tail
end
def okS : SV → Prop
  | .val c u => okC c u
  | .agg cs => okSs cs
  | .tup cs => okSs cs
  | .clo _ cs => okSs cs
  | .ifc _ v => okS v
  | .rptr cs us => Bh cs us
  | _ => True
  where okSs : List SV → Prop
    | [] => True
    | v :: r => okS v ∧ okSs r
def ofConst:Value→SV
 | .int k n=>bif inK k n then .val (.int k) (.i n) else .unk
 | .bool b=>.val .bool (.b b)
 | .string s=>bif Nat.ble s.size maxLen then .val .str (.s s) else .unk
 | .slice none 0 0=>.nil
 | .pointer none=>.nilp
 | .nilIface=>.nili
 | _=>.unk
def py:List Value→List SV
 | []=>[]
 | v :: r=>ofConst v :: py r
def St.ev (σ:St):Operand→SV
 | .tmp t=>get σ.env t
 | .const v=>ofConst v
 | .func f=>.clo f []
 | .global _=>.unk
def Ct.beq : Ct → Ct → Bool
  | .int .i64, .int .i64 => true
  | .int .u8, .int .u8 => true
  | .int .u32, .int .u32 => true
  | .int .u64, .int .u64 => true
  | .int .i32, .int .i32 => true
  | .int .u16, .int .u16 => true
  | .int .i8, .int .i8 => true
  | .int .i16, .int .i16 => true
  | .bool, .bool => true
  | .str, .str => true
  | .sl true a, .sl true b => beqs a b
  | .sl false a, .sl false b => beqs a b
  | _, _ => false
  where beqs : List Ct → List Ct → Bool
    | [], [] => true
    | a :: r, b :: s => match a.beq b with | true => beqs r s | false => false
    | _, _ => false
def nu (f:TypeId→Option (Bool × List Ct)):List Field→Option (List Ct)
 | []=>some []
 | d :: r=>match f d.type,nu f r with
  | some (_,cs),some ds=>some (cs ++ ds)
  | _,_=>none
def cts (P:Program):Nat→TypeId→Option (Bool × List Ct)
 | 0,_=>none
 | n + 1,t=>match P.underlying t with
  | some (.int k)=>some (false,[.int k])
  | some .bool=>some (false,[.bool])
  | some .string=>some (false,[.str])
  | some (.slice e)=>match cts P n e with
   | some (m,cs)=>some (false,[.sl m cs])
   | none=>none
  | some (.struct fs)=>match nu (cts P n) fs.toList with
   | some cs=>some (true,cs)
   | none=>none
  | some _=>some (false,[.oth])
  | none=>none
def vu (f:TypeId→List (Option TypeId)):List Field→List (Option TypeId)
 | []=>[]
 | d :: r=>f d.type ++ vu f r
def ss (P:Program):Nat→TypeId→List (Option TypeId)
 | 0,_=>[]
 | n + 1,t=>match P.underlying t with
  | some (.slice e)=>[some e]
  | some (.struct fs)=>vu (ss P n) fs.toList
  | _=>[none]
abbrev Cs (P:Program) (t:TypeId):Option (Bool × List Ct):=cts P 8 t
def okO (P:Program):Obj→Prop
 | .box cells=>okS.okSs cells
 | .arr e xs=>xs.length≤maxLen∧∀ m cs,Cs P e=some (m,cs)→∀ k,k < xs.length→Bh cs (dF m (U.at xs k))
 | .map _ _=>True
def EO (P:Program):List Obj→Prop
 | []=>True
 | o :: r=>okO P o∧EO P r
def pj:TypeDesc→Bool
 | .struct _=>true
 | .array _ _=>true
 | _=>false
inductive Ex where
 | normal | ret | exit (n:Nat)
abbrev aS:Type:=(SV→St→Prop)→List SV→List Obj→(Ex→St→Prop)→Prop
inductive Out where
 | ret (rs:List SV)
 | pan (v:SV)
abbrev bX:Type:=List (Nat × Obj)
abbrev Tr:Type:=List SV→bX→(Out→bX→Prop)→Prop
inductive Ext where
 | load | add
structure Ctx where
 P:Program
 exts:FuncId→Option Ext:=fun _=>none
 calm:FuncId→Bool:=fun _=>false
 trs:FuncId→Option (List Bool × Tr)
 pan:SV→St→Prop
 fns:FuncId→List (List U)→Option (Option Prop × List (List U))
 eqs:TypeId→Option (List IntKind)
 loops:Nat→Option (List Nat × List Nat × aS)
 kout:Nat→Option (List Nat × List Nat)
 lout:Nat→Option (List Nat × List Nat)
def cQ (c:Ct):SV→Option U
 | .val c' u=>match c'.beq c with | true=>some u | false=>none
 | .nil=>match c with | .sl _ _=>some (.l []) | _=>none
 | _=>none
def toU (P:Program) (objs:List (Nat × Obj)) (c:Ct):SV→Option U
 | .own id=>match c,az objs id with
  | .sl m cs,some (.arr e xs)=>match Cs P e with
   | some (m',cs')=>match (Ct.sl m' cs').beq (.sl m cs) with | true=>some (.l xs) | false=>none
   | none=>none
  | _,_=>none
 | s=>cQ c s
def fE (f:Ct→SV→Option U):List Ct→List SV→Option (List U)
 | [],[]=>some []
 | c :: cs,v :: vs=>match f c v,fE f cs vs with
  | some u,some us=>some (u :: us)
  | _,_=>none
 | _,_=>none
def flat (P:Program) (f:Ct→SV→Option U) (t:TypeId) (v:SV):Option (List U):=match Cs P t with
 | some (true,cs)=>match v with
  | .agg vs=>fE f cs vs
  | _=>none
 | some (false,cs)=>fE f cs [v]
 | none=>none
def ij (P:Program) (f:Ct→SV→Option U):List TypeId→List SV→Option (List (List U))
 | [],[]=>some []
 | t :: ts,v :: vs=>match flat P f t v,ij P f ts vs with
  | some u,some us=>some (u :: us)
  | _,_=>none
 | _,_=>none
def vals:List Ct→List U→List SV
 | [],_=>[]
 | c :: cs,us=>.val c (U.at us 0) :: vals cs us.tail
def gk (P:Program) (t:TypeId) (us:List U):Option SV:=match Cs P t with
 | some (true,cs)=>some (.agg (vals cs us))
 | some (false,[c])=>some (.val c (U.at us 0))
 | _=>none
def aU (P:Program):List TypeId→List (List U)→Option (List SV)
 | [],[]=>some []
 | t :: ts,u :: us=>match gk P t u,aU P ts us with
  | some v,some vs=>some (v :: vs)
  | _,_=>none
 | _,_=>none
def iq:List SV→List Nat
 | []=>[]
 | .own id :: r=>id :: iq r
 | _ :: r=>iq r
def sh (os : List Nat) : List Nat → List Nat
  | [] => []
  | id :: r => bif inN id os then sh os r else id :: sh os r
  where inN (id : Nat) : List Nat → Bool
    | [] => false
    | x :: r => Nat.beq id x || inN id r
def St.freezes (P:Program) (σ:St):List Nat→Option St
 | []=>some σ
 | id :: r=>match az σ.objs id with
  | some (.arr e xs)=>match Cs P e with
   | some (m,cs)=>St.freezes P (σ.freeze id (.val (.sl m cs) (.l xs))) r
   | none=>none
  | some (.box _)=>none
  | some (.map _ _)=>none
  | none=>St.freezes P σ r
def br:SV→List SV
 | .agg cs=>cs
 | v=>[v]
def ja (P:Program) (t:TypeId):Option TypeId:=match P.underlying t with | some (.slice e)=>some e | _=>none
def cmp (op:BinOp) (x y:Int):Option Bool:=match op with
 | .eql=>some (x == y) | .neq=>some (x != y) | .lss=>some (decide (x < y)) | .leq=>some (decide (x≤y)) | .gtr=>some (decide (x > y)) | .geq=>some (decide (x ≥ y))
 | _=>none
def arith (op:BinOp) (k:IntKind) (x y:Int):Option Int:=match op with
 | .add=>some (k.wrap (x + y)) | .sub=>some (k.wrap (x - y)) | .mul=>some (k.wrap (x * y))
 | .and=>some (k.wrap (BitVec.ofInt k.bits x &&& BitVec.ofInt k.bits y).toNat)
 | .or=>some (k.wrap (BitVec.ofInt k.bits x ||| BitVec.ofInt k.bits y).toNat)
 | .xor=>some (k.wrap (BitVec.ofInt k.bits x ^^^ BitVec.ofInt k.bits y).toNat)
 | .andNot=>some (k.wrap (BitVec.ofInt k.bits x &&& ~~~ BitVec.ofInt k.bits y).toNat)
 | _=>none
def ei (k:IntKind) (x:Int):Int:=k.wrap (BitVec.ofInt k.bits (bif k.signed then -1 else k.max) ^^^ BitVec.ofInt k.bits x).toNat
def IntKind.same:IntKind→IntKind→Bool
 | .i64,.i64=>true | .u8,.u8=>true | .u32,.u32=>true | .u64,.u64=>true | .i32,.i32=>true | .u16,.u16=>true | .i8,.i8=>true | .i16,.i16=>true
 | _,_=>false
def jr:List IntKind→List SV→List SV→Option Bool
 | [],[],[]=>some true
 | k :: ks,.val (.int k1) x :: xs,.val (.int k2) y :: ys=>match IntKind.same k k1,IntKind.same k k2,jr ks xs ys with
  | true,true,some b=>some ((x.int == y.int) && b)
  | _,_,_=>none
 | _,_,_=>none
structure nK (e x y:Prop):Prop where
 t:e→x
 f:y
section
def bin (C:Ctx) (op:BinOp) (t:TypeId) (x y:SV) (k:SV→Prop):Prop:=
 match x,y with
 | .val (.int i) a,.val (.int j) b=>match op with
  | .shl=>bif decide (b.int < 0) then False else k (.val (.int i) (.i (i.wrap (a.int * 2 ^ (min b.int.toNat i.bits)))))
  | .shr=>bif decide (b.int < 0) then False else k (.val (.int i) (.i (a.int.fdiv (2 ^ (min b.int.toNat i.bits)))))
  | _=>match IntKind.same i j with
   | false=>False
   | true=>match op with
    | .quo=>bif decide (b.int=0) then False else k (.val (.int i) (.i (i.wrap (a.int.tdiv b.int))))
    | .rem=>bif decide (b.int=0) then False else k (.val (.int i) (.i (a.int.tmod b.int)))
    | _=>match arith op i a.int b.int with
     | some n=>k (.val (.int i) (.i n))
     | none=>match cmp op a.int b.int with
      | some r=>k (.val .bool (.b r))
      | none=>False
 | .val .str a,.val .str b=>match op with
  | .eql=>k (.val .bool (.b (a.str.toList == b.str.toList)))
  | .neq=>k (.val .bool (.b !(a.str.toList == b.str.toList)))
  | _=>False
 | .val .bool a,.val .bool b=>match C.P.underlying t with
  | some .bool=>match op with
   | .eql=>k (.val .bool (.b (a.bool == b.bool)))
   | .neq=>k (.val .bool (.b !(a.bool == b.bool)))
   | _=>False
  | _=>False
 | .agg xs,.agg ys=>match C.eqs t with
  | some ks=>match jr ks xs ys with
   | some b=>match op with
    | .eql=>k (.val .bool (.b b))
    | .neq=>k (.val .bool (.b !b))
    | _=>False
   | none=>False
  | none=>False
 | .val (.sl _ _) a,.nil=>match C.P.underlying t with
  | some (.slice _)=>match op with
   | .eql=>nK (a.list=[]) (k (.val .bool (.b true))) (k (.val .bool (.b false)))
   | .neq=>nK (a.list=[]) (k (.val .bool (.b false))) (k (.val .bool (.b true)))
   | _=>False
  | _=>False
 | _,_=>False
def ep (P:Program) (s:TypeId) (f:Nat):Option Field:=match P.underlying s with
 | some (.struct fs)=>fs[f]?
 | _=>none
def cI (P:Program) (t:TypeId):Option Nat:=match P.info? t with | some i=>some i.size | none=>none
def lx (P:Program) (t:TypeId) (n:Nat):Bool:=match cI P t with | some k=>Nat.beq k n | none=>false
def part (P:Program) (t:TypeId) (cells:List SV) (off:Nat):Option SV:=match cI P t,P.underlying t with
 | some n,some d=>match pj d with
  | true=>bif Nat.ble (off + n) cells.length then some (.agg ((cells.drop off).take n)) else none
  | false=>bif Nat.blt off cells.length then some (nth .unk cells off) else none
 | _,_=>none
def fK:SV→Bool
 | .agg _=>false
 | .osl _ _ _=>false
 | .tup _=>false
 | .und=>false
 | .unk=>false
 | _=>true
def bN:List SV→Bool
 | []=>true
 | v :: r=>match fK v with | true=>bN r | false=>false
def patch (cells:List SV) (off:Nat) (news:List SV):List SV:=cells.take off ++ news ++ cells.drop (off + news.length)
def sj (us:List U):Nat→List U
 | 0=>[]
 | n + 1=>U.at us 0 :: sj us.tail n
def c4 (us:List U) (off:Nat) (news:List U):List U:=sj us off ++ news ++ us.drop (off + news.length)
def source (P:Program) (objs:List (Nat × Obj)) (m:Bool) (cs:List Ct) (str:Bool) (s:SV):Option (List U):=match str with
 | true=>match s with
  | .val .str u=>match (Ct.sl m cs).beq (.sl false [.int .u8]) with
   | true=>some (u.str.data.toList.map fun b=>.i b.toNat)
   | false=>none
  | _=>none
 | false=>match toU P objs (.sl m cs) s with
  | some u=>some u.list
  | none=>none
def room:Nat:=1073741824
def bE (P:Program) (e:TypeId):Bool:=match P.info? e,Cs P e with
 | some i,some (_,cs)=>match i.zero with
  | some z=>Nat.ble i.bytes 128 && Nat.beq i.size cs.length && Nat.beq z.cells.size cs.length && Nat.blt 0 cs.length
  | none=>false
 | _,_=>false
def isNil:SV→Bool
 | .nil=>true
 | _=>false
def owned (P:Program):Nat→List (Option TypeId)→List SV→List SV→St→Option (List SV × St)
 | _,[],acc,r,σ=>some (acc ++ r,σ)
 | _,_ :: _,acc,[],σ=>some (acc,σ)
 | id,some e :: es,acc,v :: r,σ=>match isNil v with
   | true=>match bE P e with
    | true=>owned P (id + 1) es (SV.sub.subs (2 * id) .unk acc ++ [.own (2 * id)]) (SV.sub.subs (2 * id) .unk r) (σ.new (2 * id) (.arr e []))
    | false=>none
   | false=>owned P (id + 1) es (acc ++ [v]) r σ
 | id,none :: es,acc,v :: r,σ=>owned P (id + 1) es (acc ++ [v]) r σ
def zeroCells (P:Program) (e:TypeId):Option (List SV):=match P.info? e with
 | some i=>match i.zero with
  | some z=>some (py z.cells.toList)
  | none=>none
 | none=>none
def gV (P:Program) (e:TypeId):Option U:=match zeroCells P e,Cs P e with
 | some z,some (m,cs)=>match fE cQ cs z with
  | some us=>some (ofElem m us)
  | none=>none
 | _,_=>none
def Cv (m:Bool):SV→Bool
 | .agg _=>m
 | _=>!m
def bS (σ:St) (d:Option Nat) (v:SV):St:=match d with | some t=>σ.set t v | none=>σ
def kM (P:Program):List Field→Bool
 | []=>true
 | f :: r=>match cI P f.type with | some _=>kM P r | none=>false
def fP (P:Program) (fs:List Field):List (Nat × SV)→List SV→Option (List SV)
 | [],cells=>some cells
 | (i,v) :: r,cells=>match fs[i]? with
  | some f=>match cI P f.type with
   | some n=>bif Nat.beq (br v).length n && Nat.ble (f.offset + n) cells.length && bN (br v) then fP P fs r (patch cells f.offset (br v)) else none
   | none=>none
  | none=>none
def fk (m:Bool) (cs:List Ct):List (Nat × SV)→List U→Option (List U)
 | [],xs=>some xs
 | (i,v) :: r,xs=>match fE cQ cs (br v) with
  | some us=>bif Nat.blt i xs.length then fk m cs r (xs.set i (ofElem m us)) else none
  | none=>none
def lst (σ:St):Option Operand→Option (Option Int)
 | none=>some none
 | some x=>match σ.ev x with
  | .val (.int _) u=>some (some u.int)
  | _=>none
def evs (σ:St):List Operand→List SV
 | []=>[]
 | x :: r=>σ.ev x :: evs σ r
def uq (σ:St):List (Nat × Operand)→List (Nat × SV)
 | []=>[]
 | (i,x) :: r=>(i,σ.ev x) :: uq σ r
def nI:List (Nat × SV)→List Nat
 | []=>[]
 | (_,v) :: r=>iq (br v) ++ nI r
def jo:Ct→Bool
 | .sl _ _=>false
 | .oth=>false
 | _=>true
def ek:List Ct→Bool
 | []=>true
 | c :: r=>match jo c with | true=>ek r | false=>false
def oC (P:Program):List TypeId→Bool
 | []=>true
 | t :: r=>match Cs P t with
  | some (_,cs)=>match ek cs with | true=>oC P r | false=>false
  | none=>false
def pc:List SV→List Nat
 | []=>[]
 | v :: r=>iq (br v) ++ pc r
def wh:Option Prop→Prop→Prop
 | none,q=>q
 | some p,q=>p∧q
def lX (C:Ctx) (g:Ct→SV→Option U) (d:Option Nat) (f:FuncId) (fn:Func) (xs:List Operand) (σ:St) (k:St→Prop):Prop:=
 match ij C.P g fn.params.toList (evs σ xs) with
 | none=>False
 | some us=>match C.fns f us with
  | none=>False
  | some (p,rs)=>match aU C.P fn.resultTypes.toList rs with
   | none=>False
   | some [v]=>wh p (k (bS σ d v))
   | some vs=>wh p (k (bS σ d (.tup vs)))
def dZ (n:Nat):List Nat→Bool
 | []=>false
 | m :: r=>bif Nat.beq n m then true else dZ n r
def d4:List Nat→Bool
 | []=>true
 | n :: r=>bif dZ n r then false else d4 r
def SV.hs : SV → List Nat
  | .own i => [i]
  | .ptr i _ => [i]
  | .aptr i _ _ _ => [i]
  | .osl i _ _ => [i]
  | .mp i => [i]
  | .agg cs => hss cs
  | .tup cs => hss cs
  | .clo _ cs => hss cs
  | .ifc _ v => SV.hs v
  | _ => []
  where hss : List SV → List Nat
    | [] => []
    | v :: r => SV.hs v ++ hss r
def Obj.hs:Obj→List Nat
 | .box cs=>SV.hs.hss cs
 | _=>[]
def reach (objs:bX):Nat→List Nat→List Nat→List Nat
 | 0,_,acc=>acc
 | _,[],acc=>acc
 | n + 1,i :: r,acc=>bif dZ i acc then reach objs n r acc else match az objs i with
  | none=>reach objs n r acc
  | some o=>reach objs n (o.hs ++ r) (acc ++ [i])
def lk:List (Nat × Nat)→Nat→Option Nat
 | [],_=>none
 | (a,b) :: r,i=>bif Nat.beq a i then some b else lk r i
def SV.ren (m : List (Nat × Nat)) : SV → SV
  | .own i => match lk m i with | some j => .own j | none => .unk
  | .ptr i o => match lk m i with | some j => .ptr j o | none => .unk
  | .aptr i z k o => match lk m i with | some j => .aptr j z k o | none => .unk
  | .osl i k z => match lk m i with | some j => .osl j k z | none => .unk
  | .mp i => match lk m i with | some j => .mp j | none => .unk
  | .agg cs => .agg (rens m cs)
  | .tup cs => .tup (rens m cs)
  | .clo f cs => .clo f (rens m cs)
  | .ifc t v => .ifc t (SV.ren m v)
  | v => v
  where rens (m : List (Nat × Nat)) : List SV → List SV
    | [] => []
    | v :: r => SV.ren m v :: rens m r
def Obj.ren (m:List (Nat × Nat)):Obj→Obj
 | .box cs=>.box (SV.ren.rens m cs)
 | o=>o
def yR (k:Nat):Obj→Nat
 | .arr _ _=>2 * (1048576 + 64 * k)
 | _=>2 * (1048576 + 64 * k) + 1
def iJ (objs:bX):Nat→List Nat→List (Nat × Nat)
 | _,[]=>[]
 | k,i :: r=>match az objs i with
  | some o=>(i,yR k o) :: iJ objs (k + 1) r
  | none=>iJ objs k r
def dO (objs:bX) (m:List (Nat × Nat)):List (Nat × Nat)→bX
 | []=>[]
 | (i,j) :: r=>match az objs i with
  | some o=>(j,o.ren m) :: dO objs m r
  | none=>dO objs m r
def iL:bX→List Nat
 | []=>[]
 | (i,_) :: r=>i :: iL r
def Out.hs:Out→List Nat
 | .ret rs=>SV.hs.hss rs
 | .pan v=>v.hs
def Out.ren (m:List (Nat × Nat)):Out→Out
 | .ret rs=>.ret (SV.ren.rens m rs)
 | .pan v=>.pan (v.ren m)
def mM:List (Nat × Nat)→List Nat
 | []=>[]
 | (a,_) :: r=>a :: mM r
def n6:List (Nat × Nat)→List Nat
 | []=>[]
 | (_,b) :: r=>b :: n6 r
def lM (n:Nat):Bool:=Nat.beq (n % 2) 1
def jw:bX→Bool
 | []=>true
 | (i,o) :: r=>bif dZ i (iL r) then false else bif (match o with | .arr _ _=>!lM i | _=>lM i) then jw r else false
def qd (objs0 objs:bX):Nat→List Nat→List (Nat × Nat)
 | _,[]=>[]
 | k,i :: r=>bif dZ i (iL objs0) then (i,i) :: qd objs0 objs k r else match az objs i with
  | some o=>(i,yR k o) :: qd objs0 objs (k + 1) r
  | none=>qd objs0 objs k r
def td (objs0 : bX) (R : Out → bX → Prop) (out : Out) (objs : bX) : Prop :=
  let ids := reach objs 400 (iL objs0 ++ out.hs) []
  let m := qd objs0 objs objs0.length ids
  bif d4 (mM m) && d4 (n6 m) && clear objs0 m then R (out.ren m) (dO objs m m) else False
  where clear (objs0 : bX) : List (Nat × Nat) → Bool
    | [] => true
    | (i, j) :: r => bif Nat.beq i j || !dZ j (iL objs0) then clear objs0 r else false
def xt (P:Program) (t:TypeId) (v:SV):SV:=match flat P cQ t v with
 | some us=>match gk P t us with
  | some v'=>v'
  | none=>v
 | none=>v
def mo (P:Program):List Bool→List TypeId→List SV→List SV
 | _,_,[]=>[]
 | _,[],v :: vs=>v :: vs
 | fs,t :: ts,v :: vs=>(match nth false fs 0 with | true=>v | false=>xt P t v) :: mo P fs.tail ts vs
def pB:List Bool→List SV→List Nat
 | _,[]=>[]
 | fs,v :: vs=>(match nth false fs 0 with | true=>[] | false=>iq (br v)) ++ pB fs.tail vs
def nm (objs:bX):List (Nat × Nat)→bX
 | []=>objs
 | (i,_) :: r=>nm (dV objs i) r
def St.wipe (σ:St):List Nat→St
 | []=>σ
 | id :: r=>St.wipe ⟨qB id .unk σ.env,mY id .unk (dV σ.objs id)⟩ r
def DX (objs:bX):bX→bX
 | []=>objs
 | (id,o) :: r=>DX ((id,o) :: dV objs id) r
def kQ (m:List (Nat × Nat)):Nat→List Nat→List (Nat × Nat)
 | _,[]=>[]
 | b,c :: r=>match lk m c with
  | some i=>(c,i) :: kQ m b r
  | none=>(c,2 * b) :: kQ m (b + 1) r
def cm:List (Nat × Nat)→List (Nat × Nat)
 | []=>[]
 | (a,b) :: r=>(b,a) :: cm r
def dJ (m:List (Nat × Nat)):List (Nat × Nat)→List Nat
 | []=>[]
 | (c,i) :: r=>match lk m c with
  | some _=>dJ m r
  | none=>i :: dJ m r
def c9:List (Nat × Nat)→List Nat
 | []=>[]
 | (i,j) :: r=>bif lM j then c9 r else i :: c9 r
def oB:List Nat→Bool
 | []=>true
 | i :: r=>bif lM i then false else oB r
def d3 (n:Nat) (k:Nat→Prop):Prop:=match n with
 | 0=>k 0
 | m + 1=>k (m + 1)
def cF : SV → (SV → Prop) → Prop
  | .val c u, k => k (.val c u)
  | .agg cs, k => forceSVs cs fun cs => k (.agg cs)
  | .nil, k => k .nil
  | .own i, k => d3 i fun i => k (.own i)
  | .ptr i o, k => d3 i fun i => d3 o fun o => k (.ptr i o)
  | .aptr i z j o, k => d3 i fun i => d3 z fun z => d3 o fun o => k (.aptr i z j o)
  | .osl i j z, k => d3 i fun i => d3 z fun z => k (.osl i j z)
  | .rptr cs us, k => k (.rptr cs us)
  | .nilp, k => k .nilp
  | .tup l, k => forceSVs l fun l => k (.tup l)
  | .clo f cs, k => forceSVs cs fun cs => k (.clo f cs)
  | .mp i, k => d3 i fun i => k (.mp i)
  | .ifc t v, k => cF v fun v => k (.ifc t v)
  | .nili, k => k .nili
  | .und, k => k .und
  | .unk, k => k .unk
  where forceSVs : List SV → (List SV → Prop) → Prop
    | [], k => k []
    | v :: r, k => cF v fun v => forceSVs r fun r => k (v :: r)
def tG:List (Nat × SV)→(List (Nat × SV)→Prop)→Prop
 | [],k=>k []
 | (t,v) :: r,k=>d3 t fun t=>cF v fun v=>tG r fun r=>k ((t,v) :: r)
def mI:Obj→(Obj→Prop)→Prop
 | .box cs,k=>cF.forceSVs cs fun cs=>k (.box cs)
 | .arr e xs,k=>d3 e fun e=>k (.arr e xs)
 | .map t es,k=>d3 t fun t=>k (.map t es)
def my:List (Nat × Obj)→(List (Nat × Obj)→Prop)→Prop
 | [],k=>k []
 | (t,v) :: r,k=>d3 t fun t=>mI v fun v=>my r fun r=>k ((t,v) :: r)
def qm:List (Nat × Nat)→(List (Nat × Nat)→Prop)→Prop
 | [],k=>k []
 | (a,b) :: r,k=>d3 a fun a=>d3 b fun b=>qm r fun r=>k ((a,b) :: r)
def St.force (σ:St) (k:St→Prop):Prop:=tG σ.env fun env=>my σ.objs fun objs=>k ⟨env,objs⟩
theorem cl (n:Nat) (k:Nat→Prop):d3 n k=k n:=by cases n<;>rfl
mutual
theorem jx:∀ (v:SV) (k:SV→Prop),cF v k=k v
 | .val _ _,_=>rfl
 | .agg cs,k=>by rw [cF,dE cs]
 | .nil,_=>rfl
 | .own i,k=>by rw [cF,cl]
 | .ptr i o,k=>by rw [cF,cl,cl]
 | .aptr i z j o,k=>by rw [cF,cl,cl,cl]
 | .osl i j z,k=>by rw [cF,cl,cl]
 | .rptr _ _,_=>rfl
 | .nilp,_=>rfl
 | .tup l,k=>by rw [cF,dE l]
 | .clo f cs,k=>by rw [cF,dE cs]
 | .mp i,k=>by rw [cF,cl]
 | .ifc t v,k=>by rw [cF,jx v]
 | .nili,_=>rfl
 | .und,_=>rfl
 | .unk,_=>rfl
theorem dE:∀ (l:List SV) (k:List SV→Prop),cF.forceSVs l k=k l
 | [],_=>rfl
 | v :: r,k=>by rw [cF.forceSVs,jx v,dE r]
end
theorem qQ:∀ (l:List (Nat × SV)) (k:List (Nat × SV)→Prop),tG l k=k l
 | [],_=>rfl
 | (t,v) :: r,k=>by rw [tG,cl,jx,qQ r]
theorem wX:∀ (v:Obj) (k:Obj→Prop),mI v k=k v
 | .box cs,k=>by rw [mI,dE]
 | .arr e xs,k=>by rw [mI,cl]
 | .map t es,k=>by rw [mI,cl]
theorem lR:∀ (l:List (Nat × Obj)) (k:List (Nat × Obj)→Prop),my l k=k l
 | [],_=>rfl
 | (t,v) :: r,k=>by rw [my,cl,wX,lR r]
theorem mX:∀ (l:List (Nat × Nat)) (k:List (Nat × Nat)→Prop),qm l k=k l
 | [],_=>rfl
 | (a,b) :: r,k=>by rw [qm,cl,cl,mX r]
theorem force_eq (σ:St) (k:St→Prop):σ.force k=k σ:=by rw [St.force,qQ,lR]
def rR (C:Ctx) (d:Option Nat) (m:List (Nat × Nat)) (σ:St) (k:St→Prop) (out:Out) (objs:bX):Prop:=
 qm (kQ (cm m) ((match d with | some d=>d | none=>0) * 64 + 8) (iL objs)) fun b=>
 bif d4 (mM b) && d4 (n6 b) && oB (c9 m ++ dJ (cm m) b) then
  (St.mk (St.wipe ⟨σ.env,nm σ.objs m⟩ (c9 m ++ dJ (cm m) b)).env (DX (St.wipe ⟨σ.env,nm σ.objs m⟩ (c9 m ++ dJ (cm m) b)).objs (dO objs b b))).force fun σ'=>
  match out with
  | .ret [v]=>cF (v.ren b) fun v=>k (bS σ' d v)
  | .ret vs=>cF.forceSVs (SV.ren.rens b vs) fun vs=>k (bS σ' d (.tup vs))
  | .pan v=>C.pan (v.ren b) σ'
 else False
def EP:List (Nat × Nat)→Bool
 | []=>true
 | _=>false
def sF (C:Ctx) (d:Option Nat) (q:Bool) (fs:List Bool) (F:Tr) (fn:Func) (xs:List Operand) (cf:Operand) (σ:St) (k:St→Prop):Prop:=
 match σ.freezes C.P (pB fs (evs σ xs)) with
 | none=>False
 | some σ0=>σ0.force fun σ1=>match σ1.ev cf with
  | .clo _ caps=>
   let vs:=mo C.P fs fn.params.toList (evs σ1 xs) ++ caps
   qm (iJ σ1.objs 0 (reach σ1.objs 400 (SV.hs.hss vs) [])) fun m=>
   bif d4 (mM m) && d4 (n6 m) && jw (dO σ1.objs m m) && (!q || EP m) then cF.forceSVs (SV.ren.rens m vs) fun vs'=>my (dO σ1.objs m m) fun os'=>F vs' os' (rR C d m σ1 k) else False
  | _=>False
def EM (d:Option Nat) (e:Ext) (xs:List SV) (σ:St) (k:St→Prop):Prop:=
 match e,xs with
 | .load,[.ptr id off]=>match az σ.objs id with
  | some (.box cells)=>match nth .unk cells off with
   | .val (.int .i64) u=>k (bS σ d (.val (.int .i64) u))
   | _=>False
  | _=>False
 | .add,[.ptr id off,.val (.int .i64) y]=>match az σ.objs id with
  | some (.box cells)=>match nth .unk cells off with
   | .val (.int .i64) u=>k (bS (σ.setO id (.box (patch cells off [.val (.int .i64) (.i (IntKind.wrap .i64 (u.int + y.int)))]))) d (.val (.int .i64) (.i (IntKind.wrap .i64 (u.int + y.int)))))
   | _=>False
  | _=>False
 | _,_=>False
def xx (C:Ctx) (d:Option Nat) (f:FuncId) (cf:Operand) (xs:List Operand) (σ:St) (k:St→Prop):Prop:=
 match C.P.funcs[f]? with
 | none=>False
 | some fn=>match C.exts f with
  | some e=>match σ.ev cf with
   | .clo _ []=>EM d e (evs σ xs) σ k
   | _=>False
  | none=>match C.trs f with
   | some (fs,F)=>sF C d (C.calm f) fs F fn xs cf σ k
   | none=>match σ.ev cf with
    | .clo _ []=>match oC C.P fn.resultTypes.toList with
     | true=>lX C (toU C.P σ.objs) d f fn xs σ k
     | false=>match σ.freezes C.P (pc (evs σ xs)) with
      | some σ'=>lX C cQ d f fn xs σ' k
      | none=>False
    | _=>False
def gU (C : Ctx) (d : Nat) (e : TypeId) (str : Bool) (s x : SV) (σ : St) (k : St → Prop) : Prop :=
  match Cs C.P e with
  | none => False
  | some (m, cs) => match source C.P σ.objs m cs str x, bE C.P e with
    | some ys, true => match s with
      | .nil => bif decide (ys.length ≤ room) then k ((σ.new (2 * (d * 64 + 63)) (.arr e ys)).set d (.own (2 * (d * 64 + 63)))) else False
      | .own id => match x with
        | .own id' => bif Nat.beq id' id then False else opAppendOwn id ys
        | _ => opAppendOwn id ys
      | _ => False
    | _, _ => False
  where opAppendOwn (id : Nat) (ys : List U) : Prop := match az σ.objs id with
    | some (.arr e' xs) => bif Nat.beq e' e then
        bif decide (xs.length + ys.length ≤ room) && !lM id then k ((σ.new id (.arr e (xs ++ ys))).set d (.own id)) else False
      else False
    | _ => False
def ueq (c:Ct) (a b:U):Bool:=match c with
 | .int _=>decide (a.int=b.int)
 | .bool=>a.bool == b.bool
 | _=>a.str.data.toList == b.str.data.toList
def fO (c:Ct) (k:U):List (U × U)→Nat
 | []=>0
 | (a,_) :: r=>bif ueq c k a then 0 else fO c k r + 1
def gL (c:Ct) (k:U):List (U × U)→Bool
 | []=>false
 | (a,_) :: r=>ueq c k a || gL c k r
def gf (c:Ct) (k:U) (z:U):List (U × U)→U
 | []=>z
 | (a,x) :: r=>bif ueq c k a then x else gf c k z r
def dn (c:Ct) (k v:U):List (U × U)→List (U × U)
 | []=>[(k,v)]
 | (a,x) :: r=>bif ueq c k a then (k,v) :: r else (a,x) :: dn c k v r
def AJ (v:U):Nat→List (U × U)→List (U × U)
 | _,[]=>[]
 | 0,(a,_) :: r=>(a,v) :: r
 | n + 1,e :: r=>e :: AJ v n r
def nF (P:Program) (t:TypeId):Option Ct:=match P.underlying t with
 | some (.int k)=>some (.int k)
 | some .bool=>some .bool
 | some .string=>some .str
 | _=>none
def mapOf (P:Program) (t:TypeId):Option (Ct × TypeId × Bool × List Ct):=match P.underlying t with
 | some (.map kt vt)=>match nF P kt,Cs P vt with
  | some kc,some (vm,vcs)=>some (kc,vt,vm,vcs)
  | _,_=>none
 | _=>none
def sX:Value→Bool
 | .agg _=>true
 | _=>false
def Bj (m:Bool) (v:Value):Bool:=match m with
 | true=>sX v
 | false=>!sX v
def za (P:Program) (vt:TypeId) (vm:Bool):Option U:=match P.info? vt with
 | some i=>match i.zero with
  | some zv=>bif Bj vm zv then gV P vt else none
  | none=>none
 | none=>none
def m8 (m:Bool) (cs:List Ct) (u:U):SV:=match m,cs with
 | true,cs=>.agg (vals cs u.list)
 | false,[c]=>.val c u
 | false,_=>.unk
def tT (C:Ctx) (d:Nat) (t:TypeId) (cells:List SV) (σ:St) (k:St→Prop):Prop:=
 match owned C.P (d * 64 + 1) (ss C.P 8 t) [] cells σ with
 | some (cs,σ')=>k ((σ'.new (2 * (d * 64)) (.box (SV.sub.subs (2 * (d * 64)) .unk cs))).set d (.ptr (2 * (d * 64)) 0))
 | none=>False
def rB (xs:List U) (j:Nat) (ys:List U):List U:=xs.take j ++ ys.take (xs.length - j) ++ xs.drop (j + (ys.take (xs.length - j)).length)
def ph (C:Ctx) (o:Oper) (e:TypeId) (id j:Nat) (ys:List U) (σ:St) (k:St→Prop):Prop:=match az σ.objs id with
 | some (.arr e' xs)=>bif Nat.beq e' e && decide (j≤xs.length) then k (bS (σ.setO id (.arr e (rB xs j ys))) o.dst (.val (.int .i64) (.i (((ys.take (xs.length - j)).length:Nat):Int)))) else False
 | _=>False
def op1 (C : Ctx) (o : Oper) (σ : St) (k : St → Prop) : Prop :=
  match o.op with
  | .move x => k (bS σ o.dst (σ.ev x))
  | .assign x => match isNil (σ.ev x), o.dst, ja C.P o.type with
    | true, some d, some e => match bE C.P e with
      | true => k ((σ.new (2 * (d * 64 + 62)) (.arr e [])).set d (.own (2 * (d * 64 + 62))))
      | false => False
    | _, _, _ => k (bS σ o.dst (σ.ev x))
  | .pick c a b => match σ.ev c with
    | .val .bool u => bif u.bool then k (bS σ o.dst (σ.ev a)) else k (bS σ o.dst (σ.ev b))
    | _ => False
  | .box t x => match o.dst with
    | some d => bif bN (br (σ.ev x)) then tT C d t (br (σ.ev x)) σ k else False
    | none => False
  | .alloc t => match o.dst, zeroCells C.P t with
    | some d, some z => tT C d t z σ k
    | _, _ => False
  | .build t ps => match C.P.underlying t, zeroCells C.P t with
    | some (.struct fs), some z => match kM C.P fs.toList, fP C.P fs.toList (uq σ ps.toList) z with
      | true, some cs => k (bS σ o.dst (.agg cs))
      | _, _ => False
    | _, _ => False
  | .buildSlice t n ps => match ja C.P t, o.dst with
    | some e, some d => match Cs C.P e, bE C.P e, σ.freezes C.P (nI (uq σ ps.toList)) with
      | some (m, cs), true, some σ' => match n, gV C.P e with
        | 0, some _ => match ps.toList with
          | [] => k ((σ'.new (2 * (d * 64 + 63)) (.arr e [])).set d (.own (2 * (d * 64 + 63))))
          | _ => False
        | 1, some _ => match uq σ' ps.toList with
          | [(0, v)] => match fE cQ cs (br v) with
            | some us => bif Nat.ble cs.length 16777216 then k ((σ'.new (2 * (d * 64 + 63)) (.arr e [ofElem m us])).set d (.own (2 * (d * 64 + 63)))) else False
            | none => False
          | _ => False
        | n, some z => match fk m cs (uq σ' ps.toList) (List.replicate n z) with
          | some xs => bif Nat.ble (n * cs.length) 16777216 && Nat.blt 0 n then k ((σ'.new (2 * (d * 64 + 63)) (.arr e xs)).set d (.own (2 * (d * 64 + 63)))) else False
          | none => False
        | _, none => False
      | _, _, _ => False
    | _, _ => False
  | .makeSlice t l c => match ja C.P t, o.dst, σ.ev l, σ.ev c with
    | some e, some d, .val (.int _) l, .val (.int _) c => match bE C.P e, gV C.P e with
      | true, some z => bif decide (0 ≤ l.int ∧ l.int ≤ c.int ∧ c.int ≤ room) then
          k ((σ.new (2 * (d * 64 + 63)) (.arr e (List.replicate l.int.toNat z))).set d (.own (2 * (d * 64 + 63)))) else False
      | _, _ => False
    | _, _, _, _ => False
  | .load t a => match σ.ev a with
    | .ptr id off => match az σ.objs id with
      | some (.box cells) => match part C.P t cells off with
        | some v => k (bS σ o.dst v)
        | none => False
      | _ => False
    | .aptr id sz j off => match az σ.objs id with
      | some (.arr e xs) => match Cs C.P e with
        | some (m, cs) => bif Nat.beq cs.length sz && Nat.blt j xs.length then (match part C.P t (vals cs (dF m (U.at xs j))) off with
            | some v => k (bS σ o.dst v)
            | none => False)
          else False
        | none => False
      | _ => False
    | .rptr cs us => match part C.P t (vals cs us) 0 with
      | some v => k (bS σ o.dst v)
      | none => False
    | _ => False
  | .store t a x => match σ.ev a, cI C.P t with
    | .ptr id off, some n => bif Nat.beq (br (σ.ev x)).length n && bN (br (σ.ev x)) then
        match owned C.P ((id + 65536) * 64 + 1 + off) (ss C.P 8 t) [] (br (σ.ev x)) σ with
        | some (cs, σ') => match σ'.ev a with
          | .ptr id off => match az σ'.objs id with
            | some (.box cells) => bif Nat.ble (off + n) cells.length then k (σ'.setO id (.box (patch cells off cs))) else False
            | _ => False
          | _ => False
        | none => False
      else False
    | .aptr _ _ _ _, some n => match σ.freezes C.P (iq (br (σ.ev x))) with
      | some σ' => match σ'.ev a with
        | .aptr id sz j off => match az σ'.objs id with
          | some (.arr e xs) => match Cs C.P e, Cs C.P t with
            | some (m, cs), some (_, ds) => match fE cQ ds (br (σ'.ev x)), Ct.beq.beqs ((cs.drop off).take n) ds with
              | some us, true => bif Nat.beq us.length n && Nat.beq ds.length n && Nat.ble (off + n) cs.length && Nat.beq cs.length sz && Nat.blt j xs.length then
                  k (σ'.setO id (.arr e (xs.set j (ofElem m (c4 (dF m (U.at xs j)) off us)))))
                else False
              | _, _ => False
            | _, _ => False
          | _ => False
        | _ => False
      | none => False
    | _, _ => False
  | .nilCheck x => match σ.ev x with
    | .ptr id off => k (bS σ o.dst (.ptr id off))
    | .aptr id sz j off => k (bS σ o.dst (.aptr id sz j off))
    | .rptr cs us => k (bS σ o.dst (.rptr cs us))
    | _ => False
  | .binOp op t x y _ => bin C op t (σ.ev x) (σ.ev y) fun v => k (bS σ o.dst v)
  | .unOp .not _ x => match σ.ev x with
    | .val .bool u => k (bS σ o.dst (.val .bool (.b (!u.bool))))
    | _ => False
  | .unOp .neg _ x => match σ.ev x with
    | .val (.int i) u => k (bS σ o.dst (.val (.int i) (.i (i.wrap (0 - u.int)))))
    | _ => False
  | .unOp .xor _ x => match σ.ev x with
    | .val (.int i) u => k (bS σ o.dst (.val (.int i) (.i (ei i u.int))))
    | _ => False
  | .convert s t x => match C.P.underlying s, C.P.underlying t, σ.ev x with
    | some (.int _), some (.int i), .val (.int _) u => k (bS σ o.dst (.val (.int i) (.i (i.wrap u.int))))
    | some (.slice e), some .string, v => match C.P.underlying e with
      | some (.int .u8) => match toU C.P σ.objs (.sl false [.int .u8]) v with
        | some u => k (bS σ o.dst (.val .str (.s ⟨(u.list.map fun x => UInt8.ofNat x.int.toNat).toArray⟩)))
        | none => False
      | _ => False
    | some .string, some .string, .val .str u => k (bS σ o.dst (.val .str u))
    | _, _, _ => False
  | .fieldAddr s x f => match ep C.P s f with
    | some fd => match cI C.P fd.type with
      | some (_ + 1) => match σ.ev x with
        | .ptr id off => k (bS σ o.dst (.ptr id (off + fd.offset)))
        | .aptr id sz j off => k (bS σ o.dst (.aptr id sz j (off + fd.offset)))
        | .rptr cs us => k (bS σ o.dst (.rptr (cs.drop fd.offset) (us.drop fd.offset)))
        | _ => False
      | _ => False
    | none => False
  | .field s x f => match ep C.P s f, σ.ev x with
    | some fd, .agg cells => match part C.P fd.type cells fd.offset with
      | some v => k (bS σ o.dst v)
      | none => False
    | _, _ => False
  | .indexAddr t x i => match C.P.underlying t, σ.ev x, σ.ev i with
    | some (.slice e), .val (.sl m cs) u, .val (.int _) j => bif lx C.P e cs.length then
        bif decide (0 ≤ j.int ∧ j.int < u.list.length) then k (bS σ o.dst (.rptr cs (dF m (U.at u.list j.int.toNat)))) else False
      else False
    | some (.slice e'), .own id, .val (.int _) j => match az σ.objs id with
      | some (.arr e xs) => match Cs C.P e with
        | some (_, cs) => bif lx C.P e' cs.length then
            bif decide (0 ≤ j.int ∧ j.int < xs.length) then k (bS σ o.dst (.aptr id cs.length j.int.toNat 0)) else False
          else False
        | none => False
      | _ => False
    | _, _, _ => False
  | .index t x i => match C.P.underlying t, σ.ev x, σ.ev i with
    | some .string, .val .str s, .val (.int _) j =>
      bif decide (0 ≤ j.int ∧ j.int < s.str.size) then k (bS σ o.dst (.val (.int .u8) (.i (s.str.data.toList.getD j.int.toNat 0).toNat))) else False
    | _, _, _ => False
  | .extract x i => match σ.ev x with
    | .tup vs => bif Nat.blt i vs.length then k (bS σ o.dst (nth .unk vs i)) else False
    | _ => False
  | .slice t x lo hi mx => match C.P.underlying t, lst σ lo, lst σ hi, lst σ mx with
    | some (.slice e), some lo, some hi, some mx => match σ.ev x with
      | .val (.sl m cs) u => bif lx C.P e cs.length then sliceK (.sl m cs) u lo hi mx else False
      | .own id => match az σ.objs id, hi, mx with
        | some (.arr e' xs), none, none => match Cs C.P e' with
          | some (_, cs) => bif lx C.P e cs.length then bif decide (0 ≤ lo.getD 0 ∧ lo.getD 0 ≤ xs.length) then k (bS σ o.dst (.osl id (lo.getD 0).toNat cs.length)) else False else False
          | none => False
        | _, _, _ => False
      | _ => False
    | some .string, some lo, some hi, some none => match σ.ev x with
      | .val .str u =>
        bif decide (0 ≤ lo.getD 0 ∧ lo.getD 0 ≤ hi.getD u.str.size ∧ hi.getD u.str.size ≤ u.str.size) then
          k (bS σ o.dst (.val .str (.s (u.str.extract (lo.getD 0).toNat (hi.getD u.str.size).toNat)))) else False
      | _ => False
    | _, _, _, _ => False
  | .call { callee := .builtin .len, args := args, argTypes := ts } => match evs σ args.toList, ts.toList with
    | [x], [t] => match C.P.underlying t, x with
      | some (.slice _), .val (.sl _ _) u => k (bS σ o.dst (.val (.int .i64) (.i (u.list.length : Int))))
      | some (.slice _), .own id => match az σ.objs id with
        | some (.arr _ xs) => k (bS σ o.dst (.val (.int .i64) (.i (xs.length : Int))))
        | _ => False
      | some (.slice _), .nil => k (bS σ o.dst (.val (.int .i64) (.i 0)))
      | some (.map _ _), .mp id => match az σ.objs id with
        | some (.map _ es) => bif Nat.ble es.length room then k (bS σ o.dst (.val (.int .i64) (.i (es.length : Int)))) else False
        | _ => False
      | some .string, .val .str u => k (bS σ o.dst (.val (.int .i64) (.i (u.str.size : Int))))
      | _, _ => False
    | _, _ => False
  | .call { callee := .builtin .min, args := args, .. } => match evs σ args.toList with
    | [.val (.int i) x, .val (.int j) y] => bif IntKind.same i j then k (bS σ o.dst (.val (.int i) (.i (bif decide (y.int < x.int) then y.int else x.int)))) else False
    | _ => False
  | .call { callee := .builtin .max, args := args, .. } => match evs σ args.toList with
    | [.val (.int i) x, .val (.int j) y] => bif IntKind.same i j then k (bS σ o.dst (.val (.int i) (.i (bif decide (x.int < y.int) then y.int else x.int)))) else False
    | _ => False
  | .call { callee := .builtin .append, args := args, argTypes := ts } => match evs σ args.toList, ts.toList, o.dst with
    | [s, x], [t, tx], some d => match ja C.P t, C.P.underlying tx with
      | some e, some (.slice _) => gU C d e false s x σ k
      | some e, some .string => gU C d e true s x σ k
      | _, _ => False
    | _, _, _ => False
  | .call { callee := .value cf, args := args, .. } => match σ.ev cf with
    | .clo f _ => xx C o.dst f cf args.toList σ k
    | _ => False
  | .lookup t x i ok => match mapOf C.P t, σ.ev x with
    | some (kc, vt, vm, vcs), .mp id => match az σ.objs id, cQ kc (σ.ev i), za C.P vt vm with
      | some (.map t' es), some ku, some z => bif Nat.beq t' t then
          (match ok with
          | true => k (bS σ o.dst (.tup [m8 vm vcs (gf kc ku z es), .val .bool (.b (gL kc ku es))]))
          | false => k (bS σ o.dst (m8 vm vcs (gf kc ku z es)))) else False
      | _, _, _ => False
    | _, _ => False
  | .mapUpdate t x i v => match mapOf C.P t, σ.ev x with
    | some (kc, _, vm, vcs), .mp id => match az σ.objs id, cQ kc (σ.ev i), fE cQ vcs (br (σ.ev v)) with
      | some (.map t' es), some ku, some us => bif Nat.beq t' t && Cv vm (σ.ev v) then k (σ.setO id (.map t (dn kc ku (ofElem vm us) es))) else False
      | _, _, _ => False
    | _, _ => False
  | .insert t x i v => match mapOf C.P t, σ.ev x with
    | some (kc, _, vm, vcs), .mp id => match az σ.objs id, cQ kc (σ.ev i), fE cQ vcs (br (σ.ev v)) with
      | some (.map t' es), some ku, some us => bif Nat.beq t' t && Cv vm (σ.ev v) then k (σ.setO id (.map t (dn kc ku (ofElem vm us) es))) else False
      | _, _, _ => False
    | _, _ => False
  | .mapEntry t x i => match mapOf C.P t, σ.ev x with
    | some (kc, vt, vm, vcs), .mp id => match az σ.objs id, cQ kc (σ.ev i), za C.P vt vm with
      | some (.map t' es), some ku, some z => bif Nat.beq t' t && Nat.ble es.length room then
          k (bS (σ.setO id (.map t (dn kc ku (gf kc ku z es) es))) o.dst (.tup [m8 vm vcs (gf kc ku z es), .val (.int .i64) (.i (fO kc ku es))])) else False
      | _, _, _ => False
    | _, _ => False
  | .entryStore t x i v => match mapOf C.P t, σ.ev x, σ.ev i with
    | some (_, _, vm, vcs), .mp id, .val (.int _) j => match az σ.objs id, fE cQ vcs (br (σ.ev v)) with
      | some (.map t' es), some us => bif Nat.beq t' t && Cv vm (σ.ev v) && decide (0 ≤ j.int ∧ j.int < es.length) then k (σ.setO id (.map t (AJ (ofElem vm us) j.int.toNat es))) else False
      | _, _ => False
    | _, _, _ => False
  | .makeFunc (.func f) first caps => match first.toList with
    | [] => k (bS σ o.dst (.clo f (evs σ caps.toList)))
    | _ => False
  | .makeInterface t x => match C.P.underlying t with
    | some (.interface _) => False
    | some _ => k (bS σ o.dst (.ifc t (σ.ev x)))
    | none => False
  | .panic x => match σ.ev x with
    | .ifc t v => C.pan (.ifc t v) σ
    | _ => False
  | .makeMap t none => match o.dst, C.P.underlying t with
    | some d, some (.map kt vt) => match Cs C.P kt, Cs C.P vt with
      | some _, some _ => k ((σ.new (2 * (d * 64)) (.map t [])).set d (.mp (2 * (d * 64))))
      | _, _ => False
    | _, _ => False
  | .call { callee := .builtin .copy, args := args, argTypes := ts } => match evs σ args.toList, ts.toList with
    | [d, s], [t, tx] => match ja C.P t, C.P.underlying tx with
      | some e, some (.slice _) => match Cs C.P e, source C.P σ.objs false [.int .u8] false s with
        | some (false, [.int .u8]), some ys => bif lx C.P e 1 then (match d with
            | .own id => ph C o e id 0 ys σ k
            | .osl id j 1 => ph C o e id j ys σ k
            | _ => False) else False
        | _, _ => False
      | _, _ => False
    | _, _ => False
  | _ => False
  where sliceK (c : Ct) (u : U) (lo hi mx : Option Int) : Prop :=
      bif decide (0 ≤ lo.getD 0 ∧ lo.getD 0 ≤ hi.getD u.list.length ∧ hi.getD u.list.length ≤ mx.getD (hi.getD u.list.length) ∧ mx.getD (hi.getD u.list.length) ≤ u.list.length) && (match mx, hi with | some _, none => false | _, _ => true) then
        k (bS σ o.dst (.val c (.l ((u.list.take (hi.getD u.list.length).toNat).drop (lo.getD 0).toNat)))) else False
def pO (all:List Oper) (j:Nat):Option Nat:=match nth none (all.map some) j with
 | some o=>o.dst
 | none=>none
def ak (C:Ctx) (all:List Oper):List Oper→St→(St→Prop)→Prop
 | [],σ,k=>k σ
 | o :: r,σ,k=>match o.guard with
  | none=>op1 C o σ fun σ'=>ak C all r σ' k
  | some (j,want)=>match pO all j with
   | none=>False
   | some t=>match get σ.env t,want with
    | .val .bool u,true=>bif u.bool then op1 C o (σ.set t (.val .bool (.b true))) fun σ'=>ak C all r σ' k
      else ak C all r (bS (σ.set t (.val .bool (.b false))) o.dst .und) k
    | .val .bool u,false=>bif u.bool then ak C all r (bS (σ.set t (.val .bool (.b true))) o.dst .und) k
      else op1 C o (σ.set t (.val .bool (.b false))) fun σ'=>ak C all r σ' k
    | .und,_=>ak C all r (bS σ o.dst .und) k
    | _,_=>False
def lJ (C:Ctx) (o:Oper):Bool:=match o.op with
 | .call { callee:=.value (.func f),.. }=>match C.exts f with | some _=>true | none=>match C.trs f with | some _=>!C.calm f | none=>false
 | .call { callee:=.value _,.. }=>true
 | .panic _=>true
 | _=>false
def eF (C:Ctx) (o:Oper):Bool:=match o.op with
 | .store _ _ _=>true
 | .mapUpdate _ _ _ _=>true
 | .mapEntry _ _ _=>true
 | .entryStore _ _ _ _=>true
 | .insert _ _ _ _=>true
 | _=>lJ C o
def jt (C:Ctx) (o:Oper):Bool:=match o.op with
 | .store _ _ _=>true
 | .call { callee:=.builtin .append,.. }=>true
 | .call { callee:=.builtin .copy,.. }=>true
 | _=>lJ C o
def qu (C:Ctx):List Oper→Bool
 | []=>true
 | o :: r=>match eF C o with | true=>false | false=>qu C r
def pV (C:Ctx):List Oper→Bool
 | []=>true
 | o :: r=>match jt C o with | true=>false | false=>pV C r
def ow (P:Program) (kb ka:Bool) (σ:St) (o:Oper):Bool:=match o.op with
 | .move _=>true
 | .assign x=>!isNil (σ.ev x)
 | .pick _ _ _=>true
 | .load _ x=>match σ.ev x with
  | .ptr _ _=>kb
  | .aptr _ _ _ _=>ka
  | .rptr _ _=>true
  | .und=>true
  | _=>false
 | .nilCheck _=>true
 | .binOp _ _ _ _ _=>true
 | .unOp _ _ _=>true
 | .convert s _ x=>match P.underlying s with
  | some (.slice _)=>match σ.ev x with
   | .own _=>false
   | _=>true
  | _=>true
 | .fieldAddr _ _ _=>true
 | .field _ _ _=>true
 | .indexAddr _ _ _=>true
 | .index _ _ _=>true
 | .extract _ _=>true
 | .slice _ x _ _ _=>match σ.ev x with
  | .own _=>false
  | _=>true
 | .build _ _=>true
 | .makeFunc (.func _) _ _=>true
 | .makeInterface _ _=>true
 | .call { callee:=.builtin .len,args:=args,.. }=>match evs σ args.toList with
  | [.mp _]=>false
  | _=>true
 | _=>false
def xK (P:Program) (kb ka:Bool) (all:List Oper) (σ:St) (o:Oper):Bool:=match o.guard with
 | none=>ow P kb ka σ o
 | some (j,want)=>match pO all j with
  | none=>false
  | some t=>match get σ.env t with
   | .val .bool _=>ow P kb ka (σ.set t (.val .bool (.b want))) o
   | .und=>true
   | _=>false
def sK (P:Program) (kb ka:Bool) (ops:Array Oper) (listed:Array Bool) (σ:St):List Nat→Option (Nat × Oper)
 | []=>none
 | i :: r=>match ops[i]? with
  | none=>none
  | some o=>match xK P kb ka ops.toList σ o,Region.free .any ops listed i with
   | true,true=>some (i,o)
   | _,_=>sK P kb ka ops listed σ r
structure Alt (x y:Prop):Prop where
 l:x
 r:y
theorem en (x:Prop):Alt x x=x:=propext ⟨fun h=>h.l,fun h=>⟨h,h⟩⟩
def Ih (f:Nat→Prop):List Nat→Prop
 | []=>True
 | [i]=>f i
 | i :: r=>Alt (f i) (Ih f r)
def Jq (C:Ctx) (ops:Array Oper) (σ:St) (i:Nat) (k:St→Prop):Prop:=match ops[i]? with
 | some o=>ak C ops.toList [o] σ k
 | none=>False
def nD (C:Ctx) (ops:Array Oper) (kb ka:Bool):Nat→Array Bool→St→(St→Prop)→Prop
 | 0,listed,σ,k=>match Region.ready .any ops listed with
  | []=>k σ
  | _=>False
 | n + 1,listed,σ,k=>match Region.ready .any ops listed with
  | []=>k σ
  | rs=>match sK C.P kb ka ops listed σ rs with
   | some (i,o)=>ak C ops.toList [o] σ fun σ'=>nD C ops kb ka n (listed.setIfInBounds i true) σ' k
   | none=>Ih (fun i=>Jq C ops σ i fun σ'=>nD C ops kb ka n (listed.setIfInBounds i true) σ' k) rs
def rF (env:List (Nat × SV)):List Nat→List (Nat × SV)
 | []=>[]
 | t :: r=>(t,get env t) :: rF env r
def t9 (objs:List (Nat × Obj)):List Nat→List (Nat × Obj)
 | []=>[]
 | t :: r=>match az objs t with
  | some o=>(t,o) :: t9 objs r
  | none=>t9 objs r
def mask (σ:St):Option (List Nat × List Nat)→St
 | none=>σ
 | some (ts,os)=>⟨rF σ.env ts,t9 σ.objs os⟩
def lu (env:List (Nat × SV)):List Nat→List SV
 | []=>[]
 | t :: r=>get env t :: lu env r
def kr (objs:List (Nat × Obj)):List Nat→Option (List Obj)
 | []=>some []
 | t :: r=>match az objs t,kr objs r with
  | some o,some os=>some (o :: os)
  | _,_=>none
def Ha (C:Ctx) (id:Nat) (k:Ex→St→Prop):Ex→St→Prop
 | .exit n,σ=>bif Nat.beq n id then k .normal (mask σ (C.kout id)) else k (.exit n) σ
 | .normal,σ=>k .normal (mask σ (C.kout id))
 | .ret,σ=>k .ret σ
def exec (C:Ctx):Code→Nat→St→(Ex→St→Prop)→Prop
 | .skip,_,σ,k=>k .normal σ
 | .ret,_,σ,k=>k .ret σ
 | .exit n,_,σ,k=>k (.exit n) σ
 | .seq a b,c,σ,k=>exec C a c σ fun e σ'=>match e with
  | .normal=>exec C b c σ' k
  | .ret=>k .ret σ'
  | .exit n=>k (.exit n) σ'
 | .cond x a b,c,σ,k=>match σ.ev x with
  | .val .bool u=>bif u.bool then exec C a c σ k else exec C b c σ k
  | _=>False
 | .block id a,_,σ,k=>exec C a id σ (Ha C id k)
 | .loop _,c,σ,k=>match C.loops c with
  | some (ts,os,F)=>match σ.freezes C.P (sh os (iq (lu σ.env ts))) with
   | some σ=>match kr σ.objs os with
    | some l=>F C.pan (lu σ.env ts) l k
    | none=>False
   | none=>False
  | none=>False
 | .region _ ops draw,_,σ,k=>match draw with
  | false=>ak C ops.toList ops.toList σ fun σ'=>k .normal σ'
  | true=>nD C ops (qu C ops.toList) (pV C ops.toList) ops.size (Array.replicate ops.size false) σ fun σ'=>k .normal σ'
 | _,_,_,_=>False
def FQ (lo lr:Option (List Nat × List Nat)):Option (List Nat × List Nat):=match lr with | none=>lo | some x=>some x
def again (P:Program) (lo lr:Option (List Nat × List Nat)) (pan:SV→St→Prop) (ts os:List Nat) (F:aS) (μ:List SV→List Obj→Nat) (n:Nat) (k:Ex→St→Prop):Ex→St→Prop
 | .normal,σ=>match σ.freezes P (sh os (iq (lu σ.env ts))) with
  | some σ=>match kr σ.objs os with
   | some l=>bif Nat.blt (μ (lu σ.env ts) l) n then F pan (lu σ.env ts) l k else False
   | none=>False
  | none=>False
 | .ret,σ=>k .ret (mask σ (FQ lo lr))
 | .exit m,σ=>k (.exit m) (mask σ lo)
end
def fg (P:Program) (σ:St):List ResultVar→Option (List SV)
 | []=>some []
 | .tmp t :: r=>match fg P σ r with
  | some l=>some (get σ.env t :: l)
  | none=>none
 | .cell x t :: r=>match get σ.env x,fg P σ r with
  | .ptr id off,some l=>match az σ.objs id with
   | some (.box cells)=>match part P t cells off with
    | some v=>some (v :: l)
    | none=>none
   | _=>none
  | _,_=>none
def fin (P:Program) (fn:Func):Ex→St→Option (List (List U))
 | .exit _,_=>none
 | _,σ=>match fg P σ fn.results.toList with
  | some vs=>ij P (toU P σ.objs) fn.resultTypes.toList vs
  | none=>none
def args (P:Program):Nat→List TypeId→List (List U)→Option (List (Nat × SV))
 | _,[],[]=>some []
 | n,t :: ts,u :: us=>match gk P t u,args P (n + 1) ts us with
  | some v,some vs=>some ((n,v) :: vs)
  | _,_=>none
 | _,_,_=>none
def bh (fn:Func):Code:=match fn.body with | some c=>c | none=>.refuse "no body"
def Jj (P:Program) (fn:Func) (R:List (List U)→Prop) (e:Ex) (σ:St):Prop:=match fin P fn e σ with
 | some rs=>R rs
 | none=>False
def Ctx.panics (C:Ctx) (pan:SV→St→Prop):Ctx:={ C with pan:=pan }
def run (C:Ctx) (fn:Func) (us:List (List U)) (R:List (List U)→Prop):Prop:=match args C.P 0 fn.params.toList us with
 | some env=>exec (C.panics fun _ _=>False) (bh fn) 0 ⟨env,[]⟩ (Jj C.P fn R)
 | none=>False
def fa:Nat→List SV→List (Nat × SV)
 | _,[]=>[]
 | n,v :: r=>(n,v) :: fa (n + 1) r
def BU (P:Program) (fn:Func) (objs0:bX) (R:Out→bX→Prop) (e:Ex) (σ:St):Prop:=match e with
 | .exit _=>False
 | _=>match fg P σ fn.results.toList with
  | some rs=>td objs0 R (.ret rs) σ.objs
  | none=>False
def jP (C:Ctx) (fn:Func):Tr:=fun vs objs R=>
 bif Nat.beq vs.length (fn.params.size + fn.nfree) then
  exec (C.panics fun v σ=>td objs R (.pan v) σ.objs) (bh fn) 0 ⟨fa 0 vs,objs⟩ (BU C.P fn objs R)
 else False
def cn:Code→Nat→List (Nat × Code)
 | .seq a b,c=>cn a c ++ cn b c
 | .cond _ a b,c=>cn a c ++ cn b c
 | .block id a,_=>cn a id
 | .loop a,c=>(c,a) :: cn a c
 | _,_=>[]
def aa (fn:Func) (k:Nat):Code:=(nth (0,.skip) (cn (bh fn) 0) k).2
def piece:Code→List Nat→Code
 | c,[]=>c
 | .seq a b,n :: r=>match n with | 0=>piece a r | _=>piece b r
 | .cond _ a b,n :: r=>match n with | 0=>piece a r | _=>piece b r
 | .block _ a,_ :: r=>piece a r
 | .loop a,_ :: r=>piece a r
 | c,_=>c
end Go.Den

namespace Go.Den
open Go Go.RowKit
section
variable (w:World) (Z:Nat→Prop)
mutual
def aR:Ct→Value→U→Prop
 | .int k,v,u=>v = .int k u.int∧k.min≤u.int∧u.int≤k.max
 | .bool,v,u=>v = .bool u.bool
 | .str,v,u=>v = .string u.str∧u.str.size≤maxLen
 | .sl m cs,v,u=>∃ A c,v = .slice A u.list.length c∧u.list.length≤c∧c≤maxLen∧∀ k,k < u.list.length→∃ b o,A=some ⟨b,o,none⟩∧Z b∧bz cs b (o + k * cs.length) (dF m (U.at u.list k))
 | .oth,_,_=>False
def bz:List Ct→Nat→Nat→List U→Prop
 | [],_,_,_=>True
 | c :: cs,b,o,us=>(∃ v,w.cell? ⟨b,o,none⟩=some v∧aR c v (U.at us 0))∧bz cs b (o + 1) us.tail
end
def aX:List Ct→List Value→List U→Prop
 | [],vs,_=>vs=[]
 | c :: cs,vs,us=>∃ v t,vs=v :: t∧aR w Z c v (U.at us 0)∧aX cs t us.tail
def gp (m:Bool) (cs:List Ct) (v:Value) (u:U):Prop:=match m with
 | true=>∃ vs,v = .agg vs∧aX w Z cs vs.toList u.list
 | false=>∃ c,cs=[c]∧aR w Z c v u
def bC (km:Bool) (kcs:List Ct) (vm:Bool) (vcs:List Ct):Nat→List (U × U)→List MapEntry→Prop
 | _,[],es=>es=[]
 | n,(k,x) :: r,es=>∃ e t,es=e :: t∧e.born=n∧gp w Z km kcs e.key k∧gp w Z vm vcs e.val x∧bC km kcs vm vcs (n + 1) r t
def ah (m:Bool) (cs:List Ct):List U→List Value→Prop
 | [],vs=>vs=[]
 | u :: us,vs=>∃ p q,vs=p ++ q∧aX w Z cs p (dF m u)∧ah m cs us q
def gX (j z:Nat):Value→Value
 | .slice A n c=>.slice (if c=j then A else A.map (·.add (j * z))) (n - j) (c - j)
 | v=>v
variable (G:Nat→Value)
mutual
def ag:SV→Value→Prop
 | .val c u,v=>aR w Z c v u
 | .agg cs,v=>∃ vs,v = .agg vs∧ab cs vs.toList
 | .nil,v=>v = .slice none 0 0
 | .own id,v=>v=G id
 | .ptr id off,v=>∃ b,G id = .pointer (some ⟨b,0,none⟩)∧v = .pointer (some ⟨b,off,none⟩)
 | .aptr id sz j off,v=>∃ b n c,G id = .slice (some ⟨b,0,none⟩) n c∧v = .pointer (some ⟨b,j * sz + off,none⟩)
 | .osl id j z,v=>v=gX j z (G id)
 | .rptr cs us,v=>∃ b o,v = .pointer (some ⟨b,o,none⟩)∧Z b∧bz w Z cs b o us
 | .nilp,v=>v = .pointer none
 | .tup l,v=>∃ vs,v = .tuple vs∧ab l vs.toList
 | .clo f cs,v=>∃ vs,v = .func (.func f) #[] vs∧ab cs vs.toList
 | .mp id,v=>∃ b,G id = .pointer (some ⟨b,0,none⟩)∧v = .map (some b)
 | .ifc t s,v=>∃ x,v = .iface t x∧ag s x
 | .nili,v=>v = .nilIface
 | .und,v=>v=undef
 | .unk,_=>True
def ab:List SV→List Value→Prop
 | [],vs=>vs=[]
 | s :: r,vs=>∃ v t,vs=v :: t∧ag s v∧ab r t
end
def cg (P:Program) (id:Nat):Obj→Prop
 | .box cells=>∃ b ty c,G id = .pointer (some ⟨b,0,none⟩)∧w.heap[b]? = some (.cells c ty (0,0))∧ab w Z G cells c.toList
 | .arr e xs=>∃ m cs vs,Cs P e=some (m,cs)∧w.ownsRow 0 e cs.length (G id) xs.length vs∧ah w Z m cs xs vs
 | .map t es=>∃ b ents kt vt km kcs vm vcs,G id = .pointer (some ⟨b,0,none⟩)∧w.heap[b]? = some (.map ents es.length)∧P.underlying t=some (.map kt vt)∧Cs P kt=some (km,kcs)∧Cs P vt=some (vm,vcs)∧
   bC w Z km kcs vm vcs 0 es ents.toList
end
def blk:Value→Option Nat
 | .pointer (some a)=>some a.block
 | .slice (some a) _ _=>some a.block
 | _=>none
structure Fut (M:Nat→Prop) (w0 w:World):Prop where
 os:w.os=w0.os
 tape:w.tape=w0.tape
 output:w.output=w0.output
 size:w0.heap.size≤w.heap.size
 block:∀ k,k < w0.heap.size→¬ M k→w.heap[k]? = w0.heap[k]?
theorem Fut.refl (M:Nat→Prop) (w:World):Fut M w w:=⟨rfl,rfl,rfl,Nat.le_refl _,fun _ _ _=>rfl⟩
theorem Fut.trans {M M' N:Nat→Prop} {a b c:World} (h:Fut M a b) (k:Fut M' b c) (hM:∀ i,M i→N i) (hM':∀ i,i < a.heap.size→M' i→N i):Fut N a c:=
 ⟨k.os.trans h.os,k.tape.trans h.tape,k.output.trans h.output,Nat.le_trans h.size k.size,
   fun i hi hn=>(k.block i (Nat.lt_of_lt_of_le hi h.size) (fun hm=>hn (hM' i hi hm))).trans (h.block i hi (fun hm=>hn (hM i hm)))⟩
theorem Fut.of_below {w w':World} (h:Below w.heap.size w w') (M:Nat→Prop):Fut M w w':=⟨h.os,h.tape,h.output,h.size,fun k hk _=>h.block k hk⟩
def Plain (w:World) (b:Nat):Prop:=∃ c ty,w.heap[b]? = some (.cells c ty (0,0))
theorem Plain.of {w w':World} {b:Nat} (h:Plain w b) (e:w'.heap[b]? = w.heap[b]?):Plain w' b:=by
 obtain ⟨c,ty,h⟩:=h
 exact ⟨c,ty,e.trans h⟩
structure Stays (w w':World) (Z Z':Nat→Prop):Prop where
 sub:∀ b,Z b→Z' b
 same:∀ b,Z b→w'.heap[b]? = w.heap[b]?
theorem Stays.refl (w:World) (Z:Nat→Prop):Stays w w Z Z:=⟨fun _ h=>h,fun _ _=>rfl⟩
mutual
theorem aR.mono {w w':World} {Z Z':Nat→Prop} (S:Stays w w' Z Z'):∀ (c:Ct) (v:Value) (u:U),aR w Z c v u→aR w' Z' c v u
 | .int _,_,_,h=>h
 | .bool,_,_,h=>h
 | .str,_,_,h=>h
 | .oth,_,_,h=>h
 | .sl m cs,v,u,h=>by
  obtain ⟨A,c,hv,hc,hcm,hk⟩:=h
  refine ⟨A,c,hv,hc,hcm,fun k hl=>?_⟩
  obtain ⟨b,o,hA,hb,hr⟩:=hk k hl
  exact ⟨b,o,hA,S.sub b hb,bz.mono S cs b _ _ (S.same b hb) hr⟩
theorem bz.mono {w w':World} {Z Z':Nat→Prop} (S:Stays w w' Z Z'):∀ (cs:List Ct) (b o:Nat) (us:List U),w'.heap[b]? = w.heap[b]?→bz w Z cs b o us→bz w' Z' cs b o us
 | [],_,_,_,_,_=>trivial
 | c :: cs,b,o,us,hb,h=>by
  obtain ⟨⟨v,hc,hr⟩,ht⟩:=h
  exact ⟨⟨v,(World.cell?_of_block (w:=w) (a:=⟨b,o,none⟩) hb).trans hc,aR.mono S c v _ hr⟩,bz.mono S cs b (o + 1) us.tail hb ht⟩
end
mutual

theorem aR.ok {w:World} {Z:Nat→Prop}:∀ {c:Ct} {v:Value} {u:U},aR w Z c v u→okC c u
 | .int _,_,_,h=>h.2
 | .bool,_,_,_=>trivial
 | .str,_,_,h=>h.2
 | .oth,_,_,_=>trivial
 | .sl m cs,v,u,h=>by
  obtain ⟨A,c,hv,hc,hcm,hk⟩:=h
  refine ⟨Nat.le_trans hc hcm,fun k hl=>?_⟩
  obtain ⟨b,o,hA,hb,hr⟩:=hk k hl
  exact bz.ok hr
theorem bz.ok {w:World} {Z:Nat→Prop}:∀ {cs:List Ct} {b o:Nat} {us:List U},bz w Z cs b o us→Bh cs us
 | [],_,_,_,_=>trivial
 | _ :: _,_,_,_,h=>by
  obtain ⟨⟨v,_,hr⟩,ht⟩:=h
  exact ⟨aR.ok hr,bz.ok ht⟩
end
theorem aX.ok {w:World} {Z:Nat→Prop}:∀ {cs:List Ct} {vs:List Value} {us:List U},aX w Z cs vs us→Bh cs us
 | [],_,_,_=>trivial
 | _ :: _,_,_,h=>by
  obtain ⟨v,t,_,hr,ht⟩:=h
  exact ⟨hr.ok,aX.ok ht⟩
theorem wrap_within (k:IntKind) (n:Int):k.min≤k.wrap n∧k.wrap n≤k.max:=by
 cases k<;>simp only [IntKind.wrap,IntKind.min,IntKind.max,IntKind.bits,IntKind.signed]<;>simp<;>(try split)<;>omega
theorem rn (k:IntKind):k.min≤0∧0≤k.max:=by cases k<;>simp [IntKind.min,IntKind.max,IntKind.bits,IntKind.signed]
theorem du {w:World} {Z:Nat→Prop} (k:IntKind) (n:Int):aR w Z (.int k) (.int k (k.wrap n)) (.i (k.wrap n)):=⟨rfl,wrap_within k n⟩
theorem eE {w:World} {Z:Nat→Prop} {n:Nat} (h:n≤maxLen):aR w Z (.int .i64) (.int .i64 (n:Int)) (.i (n:Int)):=
 ⟨rfl,by show -(2 ^ 63:Int)≤(n:Int);omega,by show (n:Int)≤2 ^ 63 - 1;unfold maxLen at h;omega⟩
theorem CO {w:World} {Z:Nat→Prop} (b:UInt8):aR w Z (.int .u8) (.int .u8 (b.toNat:Int)) (.i (b.toNat:Int)):=
 ⟨rfl,by show (0:Int)≤_;exact Int.natCast_nonneg _,by show ((b.toNat:Nat):Int)≤2 ^ 8 - 1;have:=b.toNat_lt;omega⟩
theorem zq {w:World} {Z:Nat→Prop} {k:IntKind} {m:Int} (h:k.min≤m∧m≤k.max) (j:Nat):aR w Z (.int k) (.int k (m.fdiv (2 ^ j))) (.i (m.fdiv (2 ^ j))):=by
 have hp:(1:Int)≤2 ^ j:=by have:=Int.pow_pos (n:=2) (m:=j) (by omega);omega
 have h0:=rn k
 rw [Int.fdiv_eq_ediv_of_nonneg _ (by omega)]
 refine ⟨rfl,?_,?_⟩
 ·show k.min≤m / 2 ^ j
  by_cases hm:0≤m
  ·have:=Int.ediv_nonneg hm (show (0:Int)≤2 ^ j by omega);omega
  ·have:m≤m / 2 ^ j:=by
    rw [Int.le_ediv_iff_mul_le (by omega)]
    have:=Int.mul_le_mul_of_nonpos_left (a:=m) (by omega) hp
    omega
   omega
 ·show m / 2 ^ j≤k.max
  by_cases hm:0≤m
  ·have:=Int.ediv_le_self (2 ^ j) hm;omega
  ·have:m / 2 ^ j < 0:=Int.ediv_neg_of_neg_of_pos (by omega) (by omega)
   omega
theorem zw {w:World} {Z:Nat→Prop} {k:IntKind} {m:Int} (h:k.min≤m∧m≤k.max) (n:Int):aR w Z (.int k) (.int k (m.tmod n)) (.i (m.tmod n)):=by
 have h0:=rn k
 have ha:(m.tmod n).natAbs≤m.natAbs:=by rw [Int.natAbs_tmod];exact Nat.mod_le _ _
 refine ⟨rfl,?_,?_⟩
 ·show k.min≤m.tmod n
  by_cases hm:0≤m
  ·have:=Int.tmod_nonneg n hm;omega
  ·omega
 ·show m.tmod n≤k.max
  by_cases hm:0≤m
  ·omega
  ·have:m.tmod n≤0:=by
    have:=Int.tmod_nonneg n (show 0≤-m by omega)
    rw [Int.neg_tmod] at this;omega
   omega
theorem aX.mono {w w':World} {Z Z':Nat→Prop} (S:Stays w w' Z Z'):∀ {cs:List Ct} {vs:List Value} {us:List U},aX w Z cs vs us→aX w' Z' cs vs us
 | [],_,_,h=>h
 | _ :: _,_,_,h=>by
  obtain ⟨v,t,hv,hr,ht⟩:=h
  exact ⟨v,t,hv,aR.mono S _ v _ hr,aX.mono S ht⟩
theorem gp.mono {w w':World} {Z Z':Nat→Prop} (S:Stays w w' Z Z') {m:Bool} {cs:List Ct} {v:Value} {u:U} (h:gp w Z m cs v u):gp w' Z' m cs v u:=by
 cases m with
 | true=>obtain ⟨vs,hv,hr⟩:=h;exact ⟨vs,hv,aX.mono S hr⟩
 | false=>obtain ⟨c,hc,hr⟩:=h;exact ⟨c,hc,aR.mono S c v u hr⟩
theorem bC.mono {w w':World} {Z Z':Nat→Prop} (S:Stays w w' Z Z') {km vm:Bool} {kcs vcs:List Ct}:∀ {es:List (U × U)} {n:Nat} {l:List MapEntry},bC w Z km kcs vm vcs n es l→bC w' Z' km kcs vm vcs n es l
 | [],_,_,h=>h
 | (_,_) :: _,_,_,h=>by
  obtain ⟨e,t,hl,hb,hk,hx,ht⟩:=h
  exact ⟨e,t,hl,hb,gp.mono S hk,gp.mono S hx,bC.mono S ht⟩
theorem ah.mono {w w':World} {Z Z':Nat→Prop} (S:Stays w w' Z Z') {m:Bool} {cs:List Ct}:∀ {us:List U} {vs:List Value},ah w Z m cs us vs→ah w' Z' m cs us vs
 | [],_,h=>h
 | _ :: _,_,h=>by
  obtain ⟨p,q,hv,hr,ht⟩:=h
  exact ⟨p,q,hv,aX.mono S hr,ah.mono S ht⟩
theorem aX.length {w:World} {Z:Nat→Prop}:∀ {cs:List Ct} {vs:List Value} {us:List U},aX w Z cs vs us→vs.length=cs.length
 | [],_,_,h=>by have h:_=[]:=h;subst h;rfl
 | _ :: _,_,_,h=>by
  obtain ⟨v,t,rfl,_,ht⟩:=h
  simp [aX.length ht]
theorem ah.length {w:World} {Z:Nat→Prop} {m:Bool} {cs:List Ct}:∀ {us:List U} {vs:List Value},ah w Z m cs us vs→vs.length=us.length * cs.length
 | [],_,h=>by have h:_=[]:=h;subst h;simp
 | _ :: us,_,h=>by
  obtain ⟨p,q,rfl,hp,hq⟩:=h
  simp [aX.length hp,ah.length hq,Nat.add_mul];omega
theorem ah.app {w:World} {Z:Nat→Prop} {m:Bool} {cs:List Ct}:∀ {us ys:List U} {vs ws:List Value},ah w Z m cs us vs→ah w Z m cs ys ws→ah w Z m cs (us ++ ys) (vs ++ ws)
 | [],_,_,_,h,k=>by have h:_=[]:=h;subst h;exact k
 | _ :: _,_,_,_,h,k=>by
  obtain ⟨p,q,rfl,hp,hq⟩:=h
  exact ⟨p,q ++ _,by rw [List.append_assoc],hp,ah.app hq k⟩
theorem ah.at_ {w:World} {Z:Nat→Prop} {m:Bool} {cs:List Ct}:∀ {us:List U} {vs:List Value} (_:ah w Z m cs us vs) (k:Nat),k < us.length→
  ∃ p q r,vs=p ++ q ++ r∧p.length=k * cs.length∧aX w Z cs q (dF m (U.at us k))
 | [],_,_,_,hk=>absurd hk (by simp)
 | u :: us,_,h,0,_=>by
  obtain ⟨p,q,rfl,hp,_⟩:=h
  exact ⟨[],p,q,rfl,by simp,hp⟩
 | u :: us,_,h,k + 1,hk=>by
  obtain ⟨p,q,rfl,hp,hq⟩:=h
  obtain ⟨p',q',r',rfl,hl,hr⟩:=ah.at_ hq k (by simpa using hk)
  exact ⟨p ++ p',q',r',by simp [List.append_assoc],by simp [aX.length hp,hl,Nat.add_mul];omega,hr⟩
theorem ah.set_ {w:World} {Z:Nat→Prop} {m:Bool} {cs:List Ct}:∀ {us:List U} {p q r:List Value} {k:Nat} {x:U} {q':List Value},ah w Z m cs us (p ++ q ++ r)→k < us.length→p.length=k * cs.length→q.length=cs.length→
  aX w Z cs q' (dF m x)→ah w Z m cs (us.set k x) (p ++ q' ++ r)
 | [],_,_,_,_,_,_,_,hk,_,_,_=>absurd hk (by simp)
 | u :: us,p,q,r,0,x,q',h,_,hp,hq,hr=>by
  have:p=[]:=List.eq_nil_of_length_eq_zero (by simpa using hp)
  subst this
  obtain ⟨p1,q1,he,h1,h2⟩:=h
  have he:q ++ r=p1 ++ q1:=by simpa using he
  obtain ⟨rfl,rfl⟩:=List.append_inj he (by rw [hq,aX.length h1])
  exact ⟨q',r,by simp,hr,h2⟩
 | u :: us,p,q,r,k + 1,x,q',h,hk,hp,hq,hr=>by
  obtain ⟨p1,q1,he,h1,h2⟩:=h
  have hl1:=aX.length h1
  have hle:p1.length≤p.length:=by rw [hl1,hp,Nat.add_mul];omega
  have hpp:p=p1 ++ p.drop p1.length:=by
   have:=congrArg (List.take p1.length) he
   simp only [List.append_assoc] at this
   rw [List.take_append_of_le_length hle,List.take_left] at this
   have ht:=List.take_append_drop p1.length p
   rw [this] at ht
   exact ht.symm
  refine ⟨p1,p.drop p1.length ++ q' ++ r,by rw [← List.append_assoc,← List.append_assoc,← hpp],h1,ah.set_ (q:=q) ?_ (by simpa using hk) ?_ hq hr⟩
  ·have:p1 ++ (p.drop p1.length ++ q ++ r)=p1 ++ q1:=by rw [← he,← List.append_assoc,← List.append_assoc,← hpp]
   rw [List.append_cancel_left this];exact h2
  ·simp [hp,hl1,Nat.add_mul]
theorem ah.replicate {w:World} {Z:Nat→Prop} {m:Bool} {cs:List Ct} {x:U} {q:List Value} (h:aX w Z cs q (dF m x)):∀ n:Nat,ah w Z m cs (List.replicate n x) (List.replicate n q).flatten
 | 0=>rfl
 | n + 1=>⟨q,(List.replicate n q).flatten,by simp [List.replicate_succ],h,ah.replicate h n⟩
structure nz (w w':World) (Z Z':Nat→Prop) (G G':Nat→Value) (id:Nat) (x:SV):Prop extends Stays w w' Z Z' where
 other:∀ i,i≠id→G' i=G i
 its:ag w' Z' G' x (G id)
mutual
theorem ag.sub {w w':World} {Z Z':Nat→Prop} {G G':Nat→Value} {id:Nat} {x:SV} (T:nz w w' Z Z' G G' id x):∀ (s:SV) (v:Value),ag w Z G s v→ag w' Z' G' (SV.sub id x s) v
 | .val c u,v,h=>aR.mono T.toStays c v u h
 | .agg cs,v,h=>by
  obtain ⟨vs,hv,hr⟩:=h
  exact ⟨vs,hv,ab.sub T cs _ hr⟩
 | .nil,_,h=>h
 | .own i,v,h=>by
  unfold SV.sub
  have h:v=G i:=h
  cases hb:Nat.beq i id with
  | true=>
   have:i=id:=Nat.eq_of_beq_eq_true hb
   subst this;subst h
   exact T.its
  | false=>
   show v=G' i
   rw [T.other i (Nat.ne_of_beq_eq_false hb)];exact h
 | .ptr i off,v,h=>by
  unfold SV.sub
  cases hb:Nat.beq i id with
  | true=>trivial
  | false=>
   obtain ⟨b,h1,h2⟩:=h
   exact ⟨b,(T.other i (Nat.ne_of_beq_eq_false hb)).trans h1,h2⟩
 | .osl i j z,v,h=>by
  unfold SV.sub
  cases hb:Nat.beq i id with
  | true=>trivial
  | false=>
   show v=gX j z (G' i)
   rw [T.other i (Nat.ne_of_beq_eq_false hb)];exact h
 | .aptr i sz j off,v,h=>by
  unfold SV.sub
  cases hb:Nat.beq i id with
  | true=>trivial
  | false=>
   obtain ⟨b,n,c,h1,h2⟩:=h
   exact ⟨b,n,c,(T.other i (Nat.ne_of_beq_eq_false hb)).trans h1,h2⟩
 | .rptr cs us,v,h=>by
  obtain ⟨b,o,hv,hb,hr⟩:=h
  exact ⟨b,o,hv,T.sub b hb,bz.mono T.toStays cs b o us (T.same b hb) hr⟩
 | .nilp,_,h=>h
 | .tup l,v,h=>by
  obtain ⟨vs,hv,hr⟩:=h
  exact ⟨vs,hv,ab.sub T l _ hr⟩
 | .clo _ l,v,h=>by
  obtain ⟨vs,hv,hr⟩:=h
  exact ⟨vs,hv,ab.sub T l _ hr⟩
 | .mp i,v,h=>by
  unfold SV.sub
  cases hb:Nat.beq i id with
  | true=>trivial
  | false=>
   obtain ⟨b,h1,h2⟩:=h
   exact ⟨b,(T.other i (Nat.ne_of_beq_eq_false hb)).trans h1,h2⟩
 | .ifc _ s,v,h=>by
  obtain ⟨x,hv,hr⟩:=h
  exact ⟨x,hv,ag.sub T s x hr⟩
 | .nili,_,h=>h
 | .und,_,h=>h
 | .unk,_,_=>trivial
theorem ab.sub {w w':World} {Z Z':Nat→Prop} {G G':Nat→Value} {id:Nat} {x:SV} (T:nz w w' Z Z' G G' id x):∀ (l:List SV) (vs:List Value),ab w Z G l vs→ab w' Z' G' (SV.sub.subs id x l) vs
 | [],_,h=>h
 | s :: r,vs,h=>by
  obtain ⟨v,t,hv,hs,hr⟩:=h
  exact ⟨v,t,hv,ag.sub T s v hs,ab.sub T r t hr⟩
end
mutual
theorem ag.mono {w w':World} {Z Z':Nat→Prop} {G:Nat→Value} (S:Stays w w' Z Z'):∀ (s:SV) (v:Value),ag w Z G s v→ag w' Z' G s v
 | .val c u,v,h=>aR.mono S c v u h
 | .agg cs,v,h=>by
  obtain ⟨vs,hv,hr⟩:=h
  exact ⟨vs,hv,ab.mono S cs _ hr⟩
 | .nil,_,h=>h
 | .own _,_,h=>h
 | .ptr _ _,_,h=>h
 | .aptr _ _ _ _,_,h=>h
 | .osl _ _ _,_,h=>h
 | .rptr cs us,v,h=>by
  obtain ⟨b,o,hv,hb,hr⟩:=h
  exact ⟨b,o,hv,S.sub b hb,bz.mono S cs b o us (S.same b hb) hr⟩
 | .nilp,_,h=>h
 | .tup l,v,h=>by
  obtain ⟨vs,hv,hr⟩:=h
  exact ⟨vs,hv,ab.mono S l _ hr⟩
 | .clo _ l,v,h=>by
  obtain ⟨vs,hv,hr⟩:=h
  exact ⟨vs,hv,ab.mono S l _ hr⟩
 | .mp _,_,h=>h
 | .ifc _ s,v,h=>by
  obtain ⟨x,hv,hr⟩:=h
  exact ⟨x,hv,ag.mono S s x hr⟩
 | .nili,_,h=>h
 | .und,_,h=>h
 | .unk,_,_=>trivial
theorem ab.mono {w w':World} {Z Z':Nat→Prop} {G:Nat→Value} (S:Stays w w' Z Z'):∀ (l:List SV) (vs:List Value),ab w Z G l vs→ab w' Z' G l vs
 | [],_,h=>h
 | s :: r,vs,h=>by
  obtain ⟨v,t,hv,hs,hr⟩:=h
  exact ⟨v,t,hv,ag.mono S s v hs,ab.mono S r t hr⟩
end
theorem ab.length {w:World} {Z:Nat→Prop} {G:Nat→Value}:∀ {l:List SV} {vs:List Value},ab w Z G l vs→l.length=vs.length
 | [],vs,h=>by have h:vs=[]:=h;subst h;rfl
 | s :: r,vs,h=>by
  obtain ⟨v,t,rfl,_,hr⟩:=h
  simp [ab.length hr]
theorem ab.nth {w:World} {Z:Nat→Prop} {G:Nat→Value}:∀ {l:List SV} {vs:List Value} (_:ab w Z G l vs) (i:Nat) (v:Value),vs[i]? = some v→ag w Z G (nth .unk l i) v
 | [],vs,h,i,v,hv=>by have h:vs=[]:=h;simp [h] at hv
 | s :: r,vs,h,i,v,hv=>by
  obtain ⟨v',t,rfl,hs,hr⟩:=h
  cases i with
  | zero=>simp at hv;subst hv;exact hs
  | succ i=>exact ab.nth hr i v (by simpa using hv)
theorem ab.drop {w:World} {Z:Nat→Prop} {G:Nat→Value}:∀ {l:List SV} {vs:List Value} (_:ab w Z G l vs) (n:Nat),ab w Z G (l.drop n) (vs.drop n)
 | _,_,h,0=>h
 | [],vs,h,_ + 1=>by have h:vs=[]:=h;subst h;exact rfl
 | s :: r,vs,h,n + 1=>by
  obtain ⟨v,t,rfl,_,hr⟩:=h
  exact ab.drop hr n
theorem ab.take {w:World} {Z:Nat→Prop} {G:Nat→Value}:∀ {l:List SV} {vs:List Value} (_:ab w Z G l vs) (n:Nat),ab w Z G (l.take n) (vs.take n)
 | _,_,_,0=>by simp only [List.take_zero];exact rfl
 | [],vs,h,_ + 1=>by have h:vs=[]:=h;subst h;exact rfl
 | s :: r,vs,h,n + 1=>by
  obtain ⟨v,t,rfl,hs,hr⟩:=h
  exact ⟨v,t.take n,rfl,hs,ab.take hr n⟩
theorem ab.app {w:World} {Z:Nat→Prop} {G:Nat→Value}:∀ {l m:List SV} {vs us:List Value} (_:ab w Z G l vs) (_:ab w Z G m us),ab w Z G (l ++ m) (vs ++ us)
 | [],m,vs,us,h,k=>by have h:vs=[]:=h;subst h;exact k
 | s :: r,m,vs,us,h,k=>by
  obtain ⟨v,t,rfl,hs,hr⟩:=h
  exact ⟨v,t ++ us,rfl,hs,ab.app hr k⟩
mutual
theorem ag.ok {w:World} {Z:Nat→Prop} {G:Nat→Value}:∀ {s:SV} {v:Value},ag w Z G s v→okS s
 | .val _ _,_,h=>aR.ok h
 | .agg _,_,h=>by obtain ⟨vs,_,hr⟩:=h;exact ab.ok hr
 | .tup _,_,h=>by obtain ⟨vs,_,hr⟩:=h;exact ab.ok hr
 | .clo _ _,_,h=>by obtain ⟨vs,_,hr⟩:=h;exact ab.ok hr
 | .ifc _ s,_,h=>by obtain ⟨x,_,hr⟩:=h;exact ag.ok (s:=s) (v:=x) hr
 | .rptr _ _,_,h=>by obtain ⟨b,o,_,_,hr⟩:=h;exact bz.ok hr
 | .nil,_,_=>trivial
 | .own _,_,_=>trivial
 | .ptr _ _,_,_=>trivial
 | .aptr _ _ _ _,_,_=>trivial
 | .osl _ _ _,_,_=>trivial
 | .nilp,_,_=>trivial
 | .mp _,_,_=>trivial
 | .nili,_,_=>trivial
 | .und,_,_=>trivial
 | .unk,_,_=>trivial
theorem ab.ok {w:World} {Z:Nat→Prop} {G:Nat→Value}:∀ {l:List SV} {vs:List Value},ab w Z G l vs→okS.okSs l
 | [],_,_=>trivial
 | _ :: _,_,h=>by obtain ⟨v,t,_,hs,hr⟩:=h;exact ⟨ag.ok hs,ab.ok hr⟩
end
theorem cg.ok {w:World} {Z:Nat→Prop} {G:Nat→Value} {P:Program} {id:Nat} {o:Obj} (h:cg w Z G P id o):okO P o:=by
 cases o with
 | box cells=>obtain ⟨b,ty,c,_,_,hr⟩:=h;exact ab.ok hr
 | arr e xs=>
  obtain ⟨m,cs,vs,hcs,hown,hr⟩:=h
  refine ⟨?_,fun m' cs' hcs' k hk=>?_⟩
  ·rcases hown.2 with ⟨_,h0⟩ | ⟨g,cap,cur,_,_,_,h1,h2,_⟩
   ·rw [h0];exact Nat.zero_le _
   ·exact Nat.le_trans h1 h2
  ·rw [hcs] at hcs'
   cases hcs'
   obtain ⟨p,q,r,_,_,hq⟩:=hr.at_ k hk
   exact hq.ok
 | map t es=>trivial
end Go.Den

namespace Go.Den
open Go Go.RowKit
theorem jf {k t:Nat} (h:k≠t):Nat.beq k t=false:=by
 cases hb:Nat.beq k t with
 | false=>rfl
 | true=>exact absurd (Nat.eq_of_beq_eq_true hb) h
theorem qK (k:Nat):Nat.beq k k=true:=Nat.beq_refl k
theorem aF (k t:Nat) (v:SV) (r:List (Nat × SV)):get ((k,v) :: r) t=if k=t then v else get r t:=by
 show (bif Nat.beq k t then v else get r t)=_
 by_cases h:k=t
 ·subst h;simp
 ·simp [h,jf h]
theorem ba (k t:Nat) (v:Obj) (r:List (Nat × Obj)):az ((k,v) :: r) t=if k=t then some v else az r t:=by
 show (bif Nat.beq k t then some v else az r t)=_
 by_cases h:k=t
 ·subst h;simp
 ·simp [h,jf h]
theorem eu (r:List (Nat × Obj)) (t:Nat):az (dV r t) t=none:=by
 induction r with
 | nil=>rfl
 | cons x r ih=>
  obtain ⟨k,v⟩:=x
  show az (bif Nat.beq k t then dV r t else (k,v) :: dV r t) t=none
  by_cases h:k=t
  ·subst h;rw [qK];exact ih
  ·rw [jf h,cond_false,ba,if_neg h];exact ih
theorem bO (r:List (Nat × Obj)) {t s:Nat} (hs:s≠t):az (dV r t) s=az r s:=by
 induction r with
 | nil=>rfl
 | cons x r ih=>
  obtain ⟨k,v⟩:=x
  show az (bif Nat.beq k t then dV r t else (k,v) :: dV r t) s=az ((k,v) :: r) s
  by_cases h:k=t
  ·subst h;rw [qK,cond_true,ih,ba,if_neg (Ne.symm hs)]
  ·rw [jf h,cond_false,ba,ba,ih]
theorem pr (id:Nat) (x:SV) (r:List (Nat × SV)) (t:Nat):get (qB id x r) t=SV.sub id x (get r t):=by
 induction r with
 | nil=>rfl
 | cons y r ih=>
  obtain ⟨k,v⟩:=y
  unfold qB
  rw [aF,aF]
  split
  ·rfl
  ·exact ih
def Obj.sub (id:Nat) (x:SV):Obj→Obj
 | .box cs=>.box (SV.sub.subs id x cs)
 | o=>o
theorem kF (id:Nat) (x:SV) (r:List (Nat × Obj)) (t:Nat):az (mY id x r) t=(az r t).map (Obj.sub id x):=by
 induction r with
 | nil=>rfl
 | cons y r ih=>
  obtain ⟨k,v⟩:=y
  cases v<;>(unfold mY;rw [ba,ba];split;rfl;exact ih)
structure Anc where
 w:World
 M:Nat→Prop
 N:Nat→Prop
 Z0:Nat→Prop
 kb:Bool
 ka:Bool
 G0:Nat→Value
 ds:List Deferred
def Anc.keeps (Θ:Anc):Obj→Bool
 | .arr _ _=>Θ.ka
 | _=>Θ.kb
def Anc.lets (C:Ctx) (Θ:Anc) (o:Oper):Bool:=(!eF C o || !Θ.kb) && (!jt C o || !Θ.ka)
structure Sim (P:Program) (Θ:Anc) (n:Nat) (σ:St) (a:Act) (w:World) (Z:Nat→Prop) (G:Nat→Value):Prop where
 size:a.tmps.size=n
 calm:a.defers=Θ.ds
 slot:∀ t,ag w Z G (get σ.env t) (a.tmps.getD t undef)
 obj:∀ id o,az σ.objs id=some o→cg w Z G P id o
 sep:∀ id id' o o' b,az σ.objs id=some o→az σ.objs id' = some o'→blk (G id)=some b→blk (G id')=some b→id=id'
 free:∀ id o b,az σ.objs id=some o→blk (G id)=some b→¬ Z b∧(Θ.M b∨Θ.N b∨Θ.w.heap.size≤b)
 keep:∀ id o b,az σ.objs id=some o→blk (G id)=some b→Θ.N b→Θ.keeps o=true
 nlt:∀ b,Θ.N b→b < Θ.w.heap.size
 lt:∀ b,Z b→b < w.heap.size
 fut:Fut Θ.M Θ.w w
 new:∀ b,Z b→Θ.Z0 b∨Θ.M b∨Θ.N b∨Θ.w.heap.size≤b
 sub:∀ b,Θ.Z0 b→Z b
 flat:∀ id,(G id).oneCell' = true
 odd:∀ id,id % 2=1→G id=Θ.G0 id
 row:∀ b,Z b→Θ.Z0 b∨Plain w b
section
variable {P:Program} {Θ:Anc} {n:Nat} {σ:St} {a:Act} {w:World} {Z:Nat→Prop} {G:Nat→Value}
theorem zm {b:Bool} {s:SV} {v:Value} (h:b=true→ag w Z G s v):ag w Z G (bif b then s else .unk) v:=by
 cases b
 ·trivial
 ·exact h rfl
theorem n4 (v:Value):ag w Z G (ofConst v) v:=by
 unfold ofConst
 split<;>first | exact rfl | trivial | skip
 ·refine zm fun hb=>?_
  simp only [inK,Bool.and_eq_true,decide_eq_true_eq] at hb
  exact ⟨rfl,hb⟩
 ·exact zm fun hb=>⟨rfl,Nat.le_of_ble_eq_true hb⟩
theorem Sim.ev (S:Sim P Θ n σ a w Z G) (x:Operand):ag w Z G (σ.ev x) (a.eval x):=by
 cases x with
 | tmp t=>exact S.slot t
 | const v=>
  show ag w Z G (ofConst v) v
  exact n4 v
 | global g=>exact trivial
 | func f=>exact ⟨#[],rfl,rfl⟩
theorem Sim.set (S:Sim P Θ n σ a w Z G) {t:Nat} {s:SV} {v:Value} (h:ag w Z G s v) (ht:t < n) :
  Sim P Θ n (σ.set t s) { a with tmps:=a.tmps.setIfInBounds t v } w Z G:=
 {S with
  size:=by simpa using S.size
  slot:=fun u=>by
   show ag w Z G (get ((t,s) :: σ.env) u) _
   rw [aF]
   by_cases hu:t=u
   ·subst hu
    rw [if_pos rfl,Array.getD_eq_getD_getElem?,Array.getElem?_setIfInBounds_self_of_lt (by rw [S.size];exact ht)]
    exact h
   ·rw [if_neg hu]
    have:=S.slot u
    rw [Array.getD_eq_getD_getElem?,Array.getElem?_setIfInBounds_ne hu,← Array.getD_eq_getD_getElem?]
    exact this }
theorem Sim.put (S:Sim P Θ n σ a w Z G) {d:Option Nat} {s:SV} {v:Value} (h:ag w Z G s v) (hd:∀ t,d=some t→t < n) :
  Sim P Θ n (bS σ d s) (a.put d v) w Z G:=by
 cases d with
 | none=>exact S
 | some t=>exact S.set h (hd t rfl)
theorem Sim.know (S:Sim P Θ n σ a w Z G) {t:Nat} {s:SV} (h:ag w Z G s (a.tmps.getD t undef)):Sim P Θ n (σ.set t s) a w Z G:=
 {S with
  slot:=fun u=>by
   show ag w Z G (get ((t,s) :: σ.env) u) _
   rw [aF]
   by_cases hu:t=u
   ·subst hu;rw [if_pos rfl];exact h
   ·rw [if_neg hu];exact S.slot u }
theorem Sim.drew (S:Sim P Θ n σ a w Z G) (d:Nat):Sim P Θ n σ a { w with drawn:=d } Z G:=by
 have K:Stays w { w with drawn:=d } Z Z:=⟨fun _ h=>h,fun _ _=>rfl⟩
 exact { S with
  slot:=fun t=>ag.mono K _ _ (S.slot t)
  obj:=fun id o ho=>by
   have h:=S.obj id o ho
   cases o with
   | box cells=>
    obtain ⟨b,ty,c,h1,h2,h3⟩:=h
    exact ⟨b,ty,c,h1,h2,ab.mono K _ _ h3⟩
   | arr e xs=>
    obtain ⟨m,cs,vs,h1,h2,h3⟩:=h
    exact ⟨m,cs,vs,h1,h2,ah.mono K h3⟩
   | map t es=>
    obtain ⟨b,ents,kt,vt,km,kcs,vm,vcs,h1,h2,h3,h4,h5,h6⟩:=h
    exact ⟨b,ents,kt,vt,km,kcs,vm,vcs,h1,h2,h3,h4,h5,bC.mono K h6⟩
  fut:=⟨S.fut.os,S.fut.tape,S.fut.output,S.fut.size,S.fut.block⟩ }
end
theorem tu (v:Value) (b:Nat) (h:v.ownBlock=some b):blk v=some b:=by
 unfold Value.ownBlock at h
 split at h
 ·exact h
 ·cases h
theorem cg.mono {P:Program} {w w':World} {Z Z':Nat→Prop} {G:Nat→Value} {id:Nat} {o:Obj} (K:Stays w w' Z Z') (hb:∀ b,blk (G id)=some b→w'.heap[b]? = w.heap[b]?) (h:cg w Z G P id o):cg w' Z' G P id o:=by
 cases o with
 | box cells=>
  obtain ⟨b,ty,c,h1,h2,h3⟩:=h
  exact ⟨b,ty,c,h1,(hb b (by rw [h1];rfl)).trans h2,ab.mono K _ _ h3⟩
 | arr e xs=>
  obtain ⟨m,cs,vs,h1,⟨h2,h2'⟩,h3⟩:=h
  refine ⟨m,cs,vs,h1,⟨h2,?_⟩,ah.mono K h3⟩
  rcases h2' with h2' | ⟨g,cap,cur,hv,hg,hh,r⟩
  ·exact .inl h2'
  ·exact .inr ⟨g,cap,cur,hv,hg,(hb g (by rw [hv];rfl)).trans hh,r⟩
 | map t es=>
  obtain ⟨b,ents,kt,vt,km,kcs,vm,vcs,h1,h2,h3,h4,h5,h6⟩:=h
  exact ⟨b,ents,kt,vt,km,kcs,vm,vcs,h1,(hb b (by rw [h1];rfl)).trans h2,h3,h4,h5,bC.mono K h6⟩
theorem cg.sub {P:Program} {w w':World} {Z Z':Nat→Prop} {G G':Nat→Value} {id j:Nat} {x:SV} {o:Obj} (T:nz w w' Z Z' G G' id x) (hj:j≠id) (hb:∀ b,blk (G j)=some b→w'.heap[b]? = w.heap[b]?)
  (h:cg w Z G P j o):cg w' Z' G' P j (o.sub id x):=by
 cases o with
 | box cells=>
  obtain ⟨b,ty,c,h1,h2,h3⟩:=h
  exact ⟨b,ty,c,(T.other j hj).trans h1,(hb b (by rw [h1];rfl)).trans h2,ab.sub T _ _ h3⟩
 | arr e xs=>
  have h':cg w' Z' G P j (.arr e xs):=cg.mono T.toStays hb h
  obtain ⟨m,cs,vs,h1,h2,h3⟩:=h'
  refine ⟨m,cs,vs,h1,?_,h3⟩
  rw [T.other j hj];exact h2
 | map t es=>
  have h':cg w' Z' G P j (.map t es):=cg.mono T.toStays hb h
  obtain ⟨b,ents,kt,vt,km,kcs,vm,vcs,h1,h2⟩:=h'
  exact ⟨b,ents,kt,vt,km,kcs,vm,vcs,(T.other j hj).trans h1,h2⟩
section
variable {P:Program} {Θ:Anc} {n:Nat} {σ:St} {a:Act} {w w':World} {Z:Nat→Prop} {G:Nat→Value}
theorem cg.lt (S:Sim P Θ n σ a w Z G) {j:Nat} {p:Obj} {b:Nat} (hp:az σ.objs j=some p) (hb:blk (G j)=some b):b < w.heap.size:=by
 have hr:=S.obj j p hp
 cases p with
 | box cells=>
  obtain ⟨b',ty,c,h1,h2,_⟩:=hr
  rw [h1] at hb
  have hb:b' = b:=by simpa [blk] using hb
  subst hb
  rcases Nat.lt_or_ge b' w.heap.size with h | h
  ·exact h
  ·rw [Array.getElem?_eq_none h] at h2;cases h2
 | arr e xs=>
  obtain ⟨m,cs,vs,_,h2,_⟩:=hr
  refine (World.ownsRow.lt h2 b ?_).2
  rcases h2.2 with ⟨h3,_⟩ | ⟨g,cap,cur,h3,_⟩
  ·rw [h3] at hb;simp [blk] at hb
  ·rw [h3] at hb ⊢;simpa [blk,Value.ownBlock] using hb
 | map t es=>
  obtain ⟨b',ents,kt,vt,km,kcs,vm,vcs,h1,h2,_⟩:=hr
  rw [h1] at hb
  have hb:b' = b:=by simpa [blk] using hb
  subst hb
  rcases Nat.lt_or_ge b' w.heap.size with h | h
  ·exact h
  ·rw [Array.getElem?_eq_none h] at h2;cases h2
theorem Sim.newO (S:Sim P Θ n σ a w Z G) {id:Nat} {o:Obj} {v:Value} {row:Option Nat} (hev:id % 2=0) (hg:w.grownBy w' row)
  (hrow:∀ b,row=some b→blk (G id)=some b∧∃ p,az σ.objs id=some p∧Θ.keeps p=false)
  (hv:∀ b,blk v=some b→row=some b∨w.heap.size≤b)
  (ho:cg w' Z (fun i=>if i=id then v else G i) P id o) :
  Sim P Θ n (σ.new id o) a w' Z (fun i=>if i=id then v else G i):=by
 have hZrow:∀ b,Z b→some b≠row:=by
  intro b hb he
  obtain ⟨h1,p,hp,_⟩:=hrow b he.symm
  exact (S.free id p b hp h1).1 hb
 have hK:Stays w w' Z Z:=⟨fun _ h=>h,fun b hb=>hg.block b (S.lt b hb) (hZrow b hb)⟩
 have T:nz w w' Z Z G (fun i=>if i=id then v else G i) id .unk:={ toStays:=hK,other:=fun i hi=>if_neg hi,its:=trivial }
 have hobj:∀ j o',j≠id→az (σ.new id o).objs j=some o'→∃ p,az σ.objs j=some p∧o' = p.sub id .unk:=by
  intro j o' hj h
  have h:az ((id,o) :: dV (mY id .unk σ.objs) id) j=some o':=h
  rw [ba,if_neg (Ne.symm hj),bO _ hj,kF] at h
  obtain ⟨p,h1,h2⟩:=Option.map_eq_some_iff.1 h
  exact ⟨p,h1,h2.symm⟩
 have hlt:∀ j p b,az σ.objs j=some p→blk (G j)=some b→b < w.heap.size:=fun j p b hp hb=>cg.lt S hp hb
 have hother:∀ j p b,j≠id→az σ.objs j=some p→blk (G j)=some b→some b≠row:=by
  intro j p b hj hp hb he
  obtain ⟨h1,q,hq,_⟩:=hrow b he.symm
  exact hj (S.sep j id p q b hp hq hb h1)
 refine { size:=S.size,calm:=S.calm,slot:=?_,obj:=?_,sep:=?_,free:=?_,keep:=?_,nlt:=S.nlt,lt:=?_,fut:=?_,new:=S.new,sub:=S.sub,flat:=?_,odd:=fun i hi=>(if_neg (by rintro rfl;omega)).trans (S.odd i hi),row:=fun b hb=>(S.row b hb).imp (fun h=>h) fun h=>h.of (hK.same b hb) }
 ·intro t
  show ag w' Z _ (get (qB id .unk σ.env) t) _
  rw [pr]
  exact ag.sub T _ _ (S.slot t)
 ·intro j o' hj
  by_cases h:j=id
  ·subst h
   have hj:az ((j,o) :: dV (mY j .unk σ.objs) j) j=some o':=hj
   rw [ba,if_pos rfl] at hj
   cases hj
   exact ho
  ·obtain ⟨p,hp,rfl⟩:=hobj j o' h hj
   exact cg.sub T h (fun b hb=>hg.block b (hlt j p b hp hb) (hother j p b h hp hb)) (S.obj j p hp)
 ·intro j j' p p' b hp hp' hb hb'
  by_cases h:j=id<;>by_cases h':j' = id
  ·rw [h,h']
  ·obtain ⟨q,hq,_⟩:=hobj j' p' h' hp'
   simp only [h,if_true] at hb
   simp only [h',if_false] at hb'
   have h1:=hlt j' q b hq hb'
   rcases hv b hb with h2 | h2
   ·exact absurd h2.symm (hother j' q b h' hq hb')
   ·omega
  ·obtain ⟨q,hq,_⟩:=hobj j p h hp
   simp only [h',if_true] at hb'
   simp only [h,if_false] at hb
   have h1:=hlt j q b hq hb
   rcases hv b hb' with h2 | h2
   ·exact absurd h2.symm (hother j q b h hq hb)
   ·omega
  ·obtain ⟨q,hq,_⟩:=hobj j p h hp
   obtain ⟨q',hq',_⟩:=hobj j' p' h' hp'
   simp only [h,if_false] at hb
   simp only [h',if_false] at hb'
   exact S.sep j j' q q' b hq hq' hb hb'
 ·intro j p b hp hb
  by_cases h:j=id
  ·simp only [h,if_true] at hb
   rcases hv b hb with h1 | h1
   ·obtain ⟨h2,q,hq,_⟩:=hrow b h1
    exact S.free id q b hq h2
   ·exact ⟨fun hz=>by have:=S.lt b hz;omega,.inr (.inr (Nat.le_trans S.fut.size h1))⟩
  ·obtain ⟨q,hq,_⟩:=hobj j p h hp
   simp only [h,if_false] at hb
   exact S.free j q b hq hb
 ·intro j p b hp hb hN
  by_cases h:j=id
  ·simp only [h,if_true] at hb
   rcases hv b hb with h1 | h1
   ·obtain ⟨h2,q,hq,hkq⟩:=hrow b h1
    have:=S.keep id q b hq h2 hN
    rw [hkq] at this;cases this
   ·refine absurd hN fun hN=>?_
    have:=S.nlt b hN
    have:=S.fut.size
    omega
  ·obtain ⟨q,hq,rfl⟩:=hobj j p h hp
   simp only [h,if_false] at hb
   have h2:=S.keep j q b hq hb hN
   cases q<;>exact h2
 ·exact fun b hb=>Nat.lt_of_lt_of_le (S.lt b hb) hg.size
 ·refine S.fut.trans (M':=fun b=>row=some b) ⟨hg.os,hg.tape,hg.output,hg.size,fun k hk hn=>hg.block k hk (fun e=>hn e.symm)⟩ (fun _ h=>h) (fun b hb h=>?_)
  obtain ⟨h1,q,hq,hkq⟩:=hrow b h
  rcases (S.free id q b hq h1).2 with h2 | h2 | h2
  ·exact h2
  ·have:=S.keep id q b hq h1 h2
   rw [hkq] at this;cases this
  ·omega
 ·intro j
  by_cases h:j=id
  ·subst h
   cases o with
   | box cells=>obtain ⟨b,ty,c,h1,_⟩:=ho;show Value.oneCell' ((fun i=>if i=j then v else G i) j)=true;rw [h1];rfl
   | arr e xs=>
    obtain ⟨m,cs,vs,_,h2,_⟩:=ho
    rcases h2.2 with ⟨h3,_⟩ | ⟨g,cap,cur,h3,_⟩<;>(show Value.oneCell' ((fun i=>if i=j then v else G i) j)=true;rw [h3];rfl)
   | map t es=>obtain ⟨b,ents,kt,vt,km,kcs,vm,vcs,h1,_⟩:=ho;show Value.oneCell' ((fun i=>if i=j then v else G i) j)=true;rw [h1];rfl
  ·simp only [h,if_false];exact S.flat j
theorem Sim.stored (S:Sim P Θ n σ a w Z G) {id:Nat} {o o':Obj} {b:Nat} (hp:az σ.objs id=some o) (hb:blk (G id)=some b) (hg:w.grownBy w' (some b)) (hs:w'.heap.size=w.heap.size)
  (hkq:Θ.keeps o=false) (ho:cg w' Z G P id o'):Sim P Θ n (σ.setO id o') a w' Z G:=by
 have hZ:∀ c,Z c→some c≠some b:=fun c hc e=>(S.free id o b hp hb).1 (by cases e;exact hc)
 have hK:Stays w w' Z Z:=⟨fun _ h=>h,fun c hc=>hg.block c (S.lt c hc) (hZ c hc)⟩
 have hobj:∀ j q,j≠id→az (σ.setO id o').objs j=some q→az σ.objs j=some q:=by
  intro j q hj h
  have h:az ((id,o') :: dV σ.objs id) j=some q:=h
  rwa [ba,if_neg (Ne.symm hj),bO _ hj] at h
 have hin:∀ j q,az (σ.setO id o').objs j=some q→∃ p,az σ.objs j=some p:=by
  intro j q h
  by_cases hj:j=id
  ·exact ⟨o,by rw [hj];exact hp⟩
  ·exact ⟨q,hobj j q hj h⟩
 refine { size:=S.size,calm:=S.calm,slot:=fun t=>ag.mono hK _ _ (S.slot t),obj:=?_,sep:=?_,free:=?_,keep:=?_,nlt:=S.nlt,lt:=fun c hc=>by rw [hs];exact S.lt c hc,fut:=?_,new:=S.new,sub:=S.sub,flat:=S.flat,odd:=S.odd,row:=fun c hc=>(S.row c hc).imp (fun h=>h) fun h=>h.of (hK.same c hc) }
 ·intro j q hj
  by_cases h:j=id
  ·subst h
   have hj:az ((j,o') :: dV σ.objs j) j=some q:=hj
   rw [ba,if_pos rfl] at hj
   cases hj
   exact ho
  ·have hq:=hobj j q h hj
   exact cg.mono hK (fun c hc=>hg.block c (cg.lt S hq hc) (fun e=>h (S.sep j id q o c hq hp hc (by rw [hb];exact e.symm)))) (S.obj j q hq)
 ·intro j j' p p' c hp1 hp2 hb1 hb2
  obtain ⟨q,hq⟩:=hin j p hp1
  obtain ⟨q',hq'⟩:=hin j' p' hp2
  exact S.sep j j' q q' c hq hq' hb1 hb2
 ·intro j p c hp1 hb1
  obtain ⟨q,hq⟩:=hin j p hp1
  exact S.free j q c hq hb1
 ·intro j p c hp1 hb1 hN
  by_cases h:j=id
  ·subst h
   have:=S.keep j o c hp hb1 hN
   rw [hkq] at this;cases this
  ·exact S.keep j p c (hobj j p h hp1) hb1 hN
 ·refine S.fut.trans (M':=fun c=>c=b) ⟨hg.os,hg.tape,hg.output,hg.size,fun k hk hn=>hg.block k hk (fun e=>hn (by cases e;rfl))⟩ (fun _ h=>h) (fun c hc h=>?_)
  subst h
  rcases (S.free id o c hp hb).2 with h2 | h2 | h2
  ·exact h2
  ·have:=S.keep id o c hp hb h2
   rw [hkq] at this;cases this
  ·omega
end
def Live (σ:St) (G:Nat→Value) (b:Nat):Prop:=∃ id e xs,az σ.objs id=some (.arr e xs)∧blk (G id)=some b
theorem qV {P:Program} {w:World} {Z:Nat→Prop} {G:Nat→Value} {id:Nat} {e:TypeId} {xs:List U} (h:cg w Z G P id (.arr e xs)) {b:Nat} (hb:blk (G id)=some b):Plain w b:=by
 obtain ⟨m,cs,vs,h1,⟨_,h2⟩,h3⟩:=h
 rcases h2 with ⟨h2,_⟩ | ⟨g,cap,cur,h2,_,h4,_⟩
 ·rw [h2] at hb;cases hb
 ·rw [h2] at hb;cases hb;exact ⟨cur,e,h4⟩
section
variable {P:Program} {Θ:Anc} {n:Nat} {σ:St} {a:Act} {w:World} {Z:Nat→Prop} {G:Nat→Value}
theorem Sim.freeze (S:Sim P Θ n σ a w Z G) {id:Nat} {o:Obj} {x:SV} (hp:az σ.objs id=some o)
  (hx:ag w (fun b=>Z b∨blk (G id)=some b) G x (G id)) (hpl:∀ b,blk (G id)=some b→Plain w b):Sim P Θ n (σ.freeze id x) a w (fun b=>Z b∨blk (G id)=some b) G:=by
 have T:nz w w Z (fun b=>Z b∨blk (G id)=some b) G G id x:={ sub:=fun _ h=>.inl h,same:=fun _ _=>rfl,other:=fun _ _=>rfl,its:=hx }
 have hobj:∀ j q,az (σ.freeze id x).objs j=some q→j≠id∧∃ p,az σ.objs j=some p∧q=p.sub id x:=by
  intro j q h
  have h:az (mY id x (dV σ.objs id)) j=some q:=h
  rw [kF] at h
  obtain ⟨p,h1,h2⟩:=Option.map_eq_some_iff.1 h
  by_cases hj:j=id
  ·subst hj;rw [eu] at h1;cases h1
  ·rw [bO _ hj] at h1
   exact ⟨hj,p,h1,h2.symm⟩
 refine { size:=S.size,calm:=S.calm,slot:=?_,obj:=?_,sep:=?_,free:=?_,keep:=?_,nlt:=S.nlt,lt:=?_,fut:=S.fut,new:=?_,sub:=fun b hb=>.inl (S.sub b hb),flat:=S.flat,odd:=S.odd,row:=fun b hb=>hb.elim (S.row b) fun h=>.inr (hpl b h) }
 ·intro t
  show ag w _ _ (get (qB id x σ.env) t) _
  rw [pr]
  exact ag.sub T _ _ (S.slot t)
 ·intro j q hj
  obtain ⟨hne,p,hq,rfl⟩:=hobj j q hj
  exact cg.sub T hne (fun _ _=>rfl) (S.obj j p hq)
 ·intro j j' p p' b h1 h2 hb1 hb2
  obtain ⟨_,q,hq,_⟩:=hobj j p h1
  obtain ⟨_,q',hq',_⟩:=hobj j' p' h2
  exact S.sep j j' q q' b hq hq' hb1 hb2
 ·intro j p b h1 hb
  obtain ⟨hne,q,hq,_⟩:=hobj j p h1
  refine ⟨?_,(S.free j q b hq hb).2⟩
  rintro (h | h)
  ·exact (S.free j q b hq hb).1 h
  ·exact hne (S.sep j id q o b hq hp hb h)
 ·intro j p b h1 hb hN
  obtain ⟨hne,q,hq,rfl⟩:=hobj j p h1
  have h2:=S.keep j q b hq hb hN
  cases q<;>exact h2
 ·rintro b (h | h)
  ·exact S.lt b h
  ·exact cg.lt S hp h
 ·rintro b (h | h)
  ·exact S.new b h
  ·exact .inr (S.free id o b hp h).2
theorem Sim.less (S:Sim P Θ n σ a w Z G) {τ:St} (he:∀ t,get τ.env t=get σ.env t∨get τ.env t = .unk) (ho:∀ id o,az τ.objs id=some o→az σ.objs id=some o):Sim P Θ n τ a w Z G:=
 {S with
  slot:=fun t=>by
   rcases he t with h | h
   ·rw [h];exact S.slot t
   ·rw [h];trivial
  obj:=fun id o h=>S.obj id o (ho id o h)
  sep:=fun id id' o o' b h h' hb hb'=>S.sep id id' o o' b (ho id o h) (ho id' o' h') hb hb'
  free:=fun id o b h hb=>S.free id o b (ho id o h) hb
  keep:=fun id o b h hb=>S.keep id o b (ho id o h) hb }
end
end Go.Den

namespace Go.Den
open Go Go.RowKit
section runs
variable {P:Program} {w:World}
theorem bp (b o i:Nat):(⟨b,o,none⟩:Addr).add i=⟨b,o + i,none⟩:=by unfold Addr.add;split<;>simp_all
theorem pw {t:TypeId} {k:Nat} (h:cI P t=some k):∃ i,P.info? t=some i∧i.size=k:=by
 unfold cI at h
 split at h
 ·rename_i i hi;injection h with h;exact ⟨i,hi,h⟩
 ·cases h
theorem cp {t:TypeId} {k:Nat} (h:cI P t=some k):(sizeOf t).run P w = .ok k w:=by
 obtain ⟨i,hi,rfl⟩:=pw h
 simp [sizeOf,typeInfo,hi]
theorem iU {t:TypeId} {d:TypeDesc} (h:P.underlying t=some d):(_root_.Go.isAgg t).run P w = .ok (pj d) w:=by
 simp only [_root_.Go.isAgg,Sem.run_bind,run_underlying h,Result.andThen]
 cases d<;>rfl
theorem et {t:TypeId} {d:TypeDesc} (h:P.underlying t=some d) (hd:pj d=false) {p:Addr} {v:Value} (hc:w.cell? p=some v):(loadVar t p).run P w = .ok v w:=by
 simp only [loadVar,Sem.run_bind,iU h,Result.andThen,hd]
 simp [hc]
theorem cU {t:TypeId} {d:TypeDesc} {k:Nat} (h:P.underlying t=some d) (hd:pj d=true) (hk:cI P t=some k) {b o:Nat} {vs:List Value} (hl:vs.length=k)
  (hc:∀ j v,vs[j]? = some v→w.cell? ⟨b,o + j,none⟩=some v):(loadVar t ⟨b,o,none⟩).run P w = .ok (.agg vs.toArray) w:=by
 subst hl
 simp only [loadVar,Sem.run_bind,iU h,Result.andThen,hd,if_true,cp hk]
 rw [run_loadCells_list (P:=P) w ⟨b,o,none⟩ vs (fun j v hj=>by rw [bp];exact hc j v hj)]
 rfl
theorem ra {t:TypeId} {cells:List SV} {off:Nat} {s:SV} (h:part P t cells off=some s) :
  ∃ k d,cI P t=some k∧P.underlying t=some d∧
   ((pj d=true∧off + k≤cells.length∧s = .agg ((cells.drop off).take k))∨(pj d=false∧off < cells.length∧s=nth .unk cells off)):=by
 unfold part at h
 split at h
 ·rename_i k d hk hd
  refine ⟨k,d,hk,hd,?_⟩
  split at h
  ·rename_i hagg
   cases hle:Nat.ble (off + k) cells.length with
   | true=>rw [hle] at h;injection h with h;exact .inl ⟨hagg,Nat.le_of_ble_eq_true hle,h.symm⟩
   | false=>rw [hle] at h;cases h
  ·rename_i hagg
   cases hle:Nat.blt off cells.length with
   | true=>rw [hle] at h;injection h with h;exact .inr ⟨hagg,by simpa [Nat.blt_eq] using hle,h.symm⟩
   | false=>rw [hle] at h;cases h
 ·cases h
theorem nL {l:List SV} {i:Nat} {s:SV} (h:l[i]? = some s):nth .unk l i=s:=by
 induction l generalizing i with
 | nil=>simp at h
 | cons x r ih=>cases i with
  | zero=>simpa using h
  | succ i=>exact ih (by simpa using h)
theorem gw {Z:Nat→Prop} {G:Nat→Value} {t:TypeId} {cells:List SV} {vs:List Value} {off b o:Nat} {s:SV} (hr:ab w Z G cells vs) (hc:∀ j v,vs[j]? = some v→w.cell? ⟨b,o + j,none⟩=some v)
  (h:part P t cells off=some s):∃ v,(∀ w':World,w'.heap[b]? = w.heap[b]?→(loadVar t ⟨b,o + off,none⟩).run P w' = .ok v w')∧ag w Z G s v:=by
 obtain ⟨k,d,hk,hd,⟨ha,hle,rfl⟩ | ⟨ha,hlt,rfl⟩⟩:=ra h
 ·refine ⟨.agg ((vs.drop off).take k).toArray,fun w' hw'=>cU hd ha hk ?_ (fun j v hj=>?_),⟨_,rfl,?_⟩⟩
  ·have:=hr.length;simp;omega
  ·have hv:vs[off + j]? = some v:=by
    rw [List.getElem?_take] at hj
    split at hj
    ·rwa [List.getElem?_drop] at hj
    ·cases hj
   rw [Nat.add_assoc,World.cell?_of_block (w:=w) (a:=⟨b,o + (off + j),none⟩) hw'];exact hc _ v hv
  ·exact (hr.drop off).take k
 ·have hl:off < vs.length:=by rw [← hr.length];exact hlt
  have hv:vs[off]? = some vs[off]:=List.getElem?_eq_getElem hl
  exact ⟨vs[off],fun w' hw'=>et hd ha (by rw [World.cell?_of_block (w:=w) (a:=⟨b,o + off,none⟩) hw'];exact hc off _ hv),hr.nth off _ hv⟩
theorem fV {Z:Nat→Prop} {G:Nat→Value} {t:TypeId} {cells:List SV} {vs:List Value} {off b o:Nat} {s:SV} (hr:ab w Z G cells vs) (hc:∀ j v,vs[j]? = some v→w.cell? ⟨b,o + j,none⟩=some v)
  (h:part P t cells off=some s):∃ v,(loadVar t ⟨b,o + off,none⟩).run P w = .ok v w∧ag w Z G s v:=by
 obtain ⟨v,h1,h2⟩:=gw hr hc h
 exact ⟨v,h1 w rfl,h2⟩
theorem uF {Z:Nat→Prop} {G:Nat→Value} {t:TypeId} {cells:List SV} {vs:Array Value} {off:Nat} {s:SV} (hr:ab w Z G cells vs.toList)
  (h:part P t cells off=some s):∃ v,(∀ w':World,(_root_.Go.part t vs off).run P w' = .ok v w')∧ag w Z G s v:=by
 obtain ⟨k,d,hk,hd,⟨ha,hle,rfl⟩ | ⟨ha,hlt,rfl⟩⟩:=ra h
 ·refine ⟨.agg (vs.extract off (off + k)),?_,⟨_,rfl,?_⟩⟩
  ·intro w'
   simp only [_root_.Go.part,Sem.run_bind,iU hd,Result.andThen,ha,if_true,cp hk]
   rfl
  ·have:(vs.extract off (off + k)).toList=(vs.toList.drop off).take k:=by
    simp [Array.toList_extract,List.extract_eq_take_drop]
   rw [this]
   exact (hr.drop off).take k
 ·have hl:off < vs.size:=by have:=hr.length;simp at this;omega
  have hv:vs.toList[off]? = some vs[off]:=by simp [hl]
  refine ⟨vs[off],?_,hr.nth off _ hv⟩
  intro w'
  simp only [_root_.Go.part,Sem.run_bind,iU hd,Result.andThen,ha]
  simp [Array.getElem?_eq_getElem hl]
theorem bz.vals {Z:Nat→Prop} {G:Nat→Value} {b:Nat}:∀ {cs:List Ct} {o:Nat} {us:List U},bz w Z cs b o us→∃ vs,vs.length=cs.length∧ab w Z G (vals cs us) vs∧∀ j v,vs[j]? = some v→w.cell? ⟨b,o + j,none⟩=some v
 | [],_,_,_=>⟨[],rfl,rfl,fun j v h=>by simp at h⟩
 | c :: cs,o,us,h=>by
  obtain ⟨⟨v,hc,hr⟩,ht⟩:=h
  obtain ⟨vs,hl,hvs,hcell⟩:=bz.vals (G:=G) ht
  refine ⟨v :: vs,by simp [hl],⟨v,vs,rfl,hr,hvs⟩,fun j u hj=>?_⟩
  cases j with
  | zero=>simp at hj;subst hj;exact hc
  | succ j=>have:=hcell j u (by simpa using hj);rwa [show o + (j + 1)=o + 1 + j by omega]
theorem bz.drop {Z:Nat→Prop} {b:Nat}:∀ {cs:List Ct} {o:Nat} {us:List U} (k:Nat),bz w Z cs b o us→bz w Z (cs.drop k) b (o + k) (us.drop k)
 | _,_,_,0,h=>h
 | [],_,_,_ + 1,_=>trivial
 | c :: cs,o,us,k + 1,h=>by
  have:=bz.drop k h.2
  rw [show o + (k + 1)=o + 1 + k by omega]
  cases us with
  | nil=>simpa using this
  | cons u us=>simpa using this
end runs
section ops
variable {P:Program} {Θ:Anc} {n:Nat} {σ:St} {a:Act} {w:World} {Z:Nat→Prop} {G:Nat→Value} {o:Oper} {K:Act→World→Prop} {Q:Exit→Act→World→Prop}
theorem aG {v:Value} {w':World} (h:(execOp a.eval o).run P w = .ok (.value v) w') (hk:K (a.put o.dst v) w'):o.wp P a w K Q:=by
 unfold Oper.wp;rw [h];exact hk
theorem gH {w':World} (h:(execOp a.eval o).run P w = .ok .skip w') (hk:K (a.put o.dst undef) w'):o.wp P a w K Q:=by
 unfold Oper.wp;rw [h];exact hk
theorem jy {x:Operand} (ho:o.op = .move x) (hk:K (a.put o.dst (a.eval x)) w):o.wp P a w K Q:=
 aG (by simp [execOp,ho]) hk
theorem eY {x:Operand} (ho:o.op = .assign x) (hk:K (a.put o.dst (a.eval x)) w):o.wp P a w K Q:=
 aG (by simp [execOp,ho]) hk
theorem E7 {c x y:Operand} {t:Bool} (ho:o.op = .pick c x y) (hc:a.eval c = .bool t) (hk:K (a.put o.dst (if t then a.eval x else a.eval y)) w):o.wp P a w K Q:=
 aG (by simp [execOp,ho,hc,asBool]) hk
theorem np {e:TypeId} {x:Operand} (ho:o.op = .box e x) (hk:K (a.put o.dst (.pointer (some ⟨w.heap.size,0,none⟩))) (w.alloc (.cells (a.eval x).cells e))):o.wp P a w K Q:=
 aG (by simp [execOp,ho,Instr.box,newVar,newRow]) hk
theorem gO {e:TypeId} {i:TypeInfo} {z:Value} (ho:o.op = .alloc e) (hi:P.info? e=some i) (hz:i.zero=some z)
  (hk:K (a.put o.dst (.pointer (some ⟨w.heap.size,0,none⟩))) (w.alloc (.cells z.cells e))):o.wp P a w K Q:=
 aG (by simp [execOp,ho,Instr.alloc,zeroValue,typeInfo,hi,hz,newVar,newRow]) hk
theorem kT {t:TypeId} {x:Operand} {p:Addr} {v:Value} (ho:o.op = .load t x) (hx:a.eval x = .pointer (some p)) (hl:(loadVar t p).run P w = .ok v w) (hk:K (a.put o.dst v) w):o.wp P a w K Q:=
 aG (by simp [execOp,ho,hx,Instr.loadAt,Instr.sureAddr,hl]) hk
theorem ki {x:Operand} {p:Addr} (ho:o.op = .nilCheck x) (hx:a.eval x = .pointer (some p)) (hk:K (a.put o.dst (.pointer (some p))) w):o.wp P a w K Q:=
 aG (by simp [execOp,ho,hx]) hk
theorem Ix {t:TypeId} {x:Operand} {b:Bool} (ho:o.op = .unOp .not t x) (hx:a.eval x = .bool b) (hk:K (a.put o.dst (.bool !b)) w):o.wp P a w K Q:=
 aG (by simp [execOp,ho,hx,Op.unary]) hk
theorem IN {t:TypeId} {x:Operand} {k:IntKind} {i:Int} (ho:o.op = .unOp .neg t x) (hx:a.eval x = .int k i) (hk:K (a.put o.dst (.int k (k.wrap (0 - i)))) w):o.wp P a w K Q:=
 aG (by simp [execOp,ho,hx,Op.unary,Op.intArith]) hk
theorem rO {k:IntKind} {i:Int} (w:World):(Op.unary .xor (.int k i)).run P w = .ok (.int k (ei k i)) w:=by
 unfold ei
 cases hs:k.signed<;>simp [Op.unary,Op.intBits,hs]
theorem Cx {t:TypeId} {x:Operand} {k:IntKind} {i:Int} (ho:o.op = .unOp .xor t x) (hx:a.eval x = .int k i) (hk:K (a.put o.dst (.int k (ei k i))) w):o.wp P a w K Q:=
 aG (by simp [execOp,ho,hx,rO]) hk
theorem bn {s:TypeId} {x:Operand} {f k:Nat} {fd:Field} {b off:Nat} (ho:o.op = .fieldAddr s x f) (hf:ep P s f=some fd) (hs:cI P fd.type=some (k + 1)) (hx:a.eval x = .pointer (some ⟨b,off,none⟩))
  (hk:K (a.put o.dst (.pointer (some ⟨b,off + fd.offset,none⟩))) w):o.wp P a w K Q:=by
 unfold ep at hf
 split at hf
 ·rename_i fs hu
  refine aG (v:=.pointer (some ⟨b,off + fd.offset,none⟩)) (w':=w) ?_ hk
  simp [execOp,ho,hx,Instr.fieldAt,run_underlying hu,hf,Instr.sureAddr,fieldPlace,cp hs,bp]
 ·cases hf
theorem CB {s:TypeId} {x:Operand} {f:Nat} {fd:Field} {vs:Array Value} {v:Value} (ho:o.op = .field s x f) (hf:ep P s f=some fd) (hx:a.eval x = .agg vs)
  (hp:(_root_.Go.part fd.type vs fd.offset).run P w = .ok v w) (hk:K (a.put o.dst v) w):o.wp P a w K Q:=by
 unfold ep at hf
 split at hf
 ·rename_i fs hu
  refine aG (v:=v) (w':=w) ?_ hk
  simp [execOp,ho,hx,Instr.field,run_underlying hu,hf,asAgg,hp]
 ·cases hf
theorem gy {t e:TypeId} {x i:Operand} {k b off len c:Nat} {kd:IntKind} {j:Int} (ho:o.op = .indexAddr t x i) (hu:P.underlying t=some (.slice e)) (hs:cI P e=some k)
  (hx:a.eval x = .slice (some ⟨b,off,none⟩) len c) (hi:a.eval i = .int kd j) (h0:0≤j) (h1:j < len)
  (hk:K (a.put o.dst (.pointer (some ⟨b,off + j.toNat * k,none⟩))) w):o.wp P a w K Q:=by
 refine aG (v:=.pointer (some ⟨b,off + j.toNat * k,none⟩)) (w':=w) ?_ hk
 simp [execOp,ho,hx,hi,Instr.indexAt,asIntOf,run_underlying hu,cp hs,bp,h0,h1]
theorem CI {t:TypeId} {x i:Operand} {s:ByteArray} {kd:IntKind} {j:Int} (ho:o.op = .index t x i) (hu:P.underlying t=some .string) (hx:a.eval x = .string s) (hi:a.eval i = .int kd j) (h0:0≤j) (h1:j < s.size)
  (hk:K (a.put o.dst (.int .u8 (s.data.toList.getD j.toNat 0).toNat)) w):o.wp P a w K Q:=by
 refine aG (v:=.int .u8 (s.data.toList.getD j.toNat 0).toNat) (w':=w) ?_ hk
 have hj:j.toNat < s.size:=by omega
 have hget:s[j.toNat]? = some s[j.toNat]:=by simp [hj]
 have hdata:s.data[j.toNat]? = some s[j.toNat]:=Array.getElem?_eq_getElem hj
 simp [execOp,ho,hx,hi,Instr.index,asIntOf,run_underlying hu,h0,hget,hdata]
theorem wW {x:Operand} {i:Nat} {vs:Array Value} {v:Value} (ho:o.op = .extract x i) (hx:a.eval x = .tuple vs) (hv:vs[i]? = some v) (hk:K (a.put o.dst v) w):o.wp P a w K Q:=
 aG (by simp [execOp,ho,hx,Instr.extract,hv]) hk
theorem fC {t:TypeId} {e:TypeId} {args:Array Operand} {x:Operand} {A:Option Addr} {l c:Nat} {ts:Array TypeId} (ho:o.op = .call { callee:=.builtin .len,args:=args,argTypes:=ts }) (ha:args.toList=[x]) (ht:ts.toList=[t])
  (hu:P.underlying t=some (.slice e)) (hx:a.eval x = .slice A l c) (hk:K (a.put o.dst (.int .i64 (l:Int))) w):o.wp P a w K Q:=by
 refine aG (v:=.int .i64 (l:Int)) (w':=w) ?_ hk
 have ha':args = #[x]:=by cases args;simp_all
 have ht':ts = #[t]:=by cases ts;simp_all
 subst ha' ht'
 simp [execOp,ho,resolve,invoke,builtin,Builtin.len_,run_underlying hu,hx,goInt]
theorem qA {t:TypeId} {args:Array Operand} {x:Operand} {s:ByteArray} {ts:Array TypeId} (ho:o.op = .call { callee:=.builtin .len,args:=args,argTypes:=ts }) (ha:args.toList=[x]) (ht:ts.toList=[t])
  (hu:P.underlying t=some .string) (hx:a.eval x = .string s) (hk:K (a.put o.dst (.int .i64 (s.size:Int))) w):o.wp P a w K Q:=by
 refine aG (v:=.int .i64 (s.size:Int)) (w':=w) ?_ hk
 have ha':args = #[x]:=by cases args;simp_all
 have ht':ts = #[t]:=by cases ts;simp_all
 subst ha' ht'
 simp [execOp,ho,resolve,invoke,builtin,Builtin.len_,run_underlying hu,hx,goInt]
end ops
end Go.Den

namespace Go.Den
open Go Go.RowKit
theorem cc (b:Nat) (ty:TypeId):∀ (vs:List Value) (o:Nat) (w:World) (cur:Array Value),w.heap[b]? = some (.cells cur ty (0,0))→o + vs.length≤cur.size→
  ∃ cur',(w.setCells b o vs).heap[b]? = some (.cells cur' ty (0,0))∧cur'.toList=cur.toList.take o ++ vs ++ cur.toList.drop (o + vs.length)∧cur'.size=cur.size
 | [],o,w,cur,h,_=>⟨cur,h,by simp,rfl⟩
 | v :: r,o,w,cur,h,hl=>by
  have hb:b < w.heap.size:=(Array.getElem?_eq_some_iff.1 h).1
  have h1:(w.setCell ⟨b,o,none⟩ v).heap[b]? = some (.cells (cur.setIfInBounds o v) ty (0,0)):=by
   simp [World.setCell,Array.getElem?_modify,h]
  simp only [List.length_cons] at hl
  obtain ⟨cur',h2,h3,h4⟩:=cc b ty r (o + 1) _ _ h1 (by simp;omega)
  refine ⟨cur',h2,?_,by simpa using h4⟩
  rw [h3]
  have ho:o < cur.toList.length:=by simp;omega
  rw [Array.toList_setIfInBounds,List.take_succ_eq_append_getElem (by simpa using ho)]
  simp only [List.length_cons]
  rw [List.take_set_of_le (Nat.le_refl o),List.getElem_set_self,List.drop_set_of_lt (by omega),show o + 1 + r.length=o + (r.length + 1) by omega]
  simp
theorem fw (b:Nat):∀ (vs:List Value) (o:Nat) (w:World) (k:Nat),k≠b→(w.setCells b o vs).heap[k]? = w.heap[k]?
 | [],_,_,_,_=>rfl
 | v :: r,o,w,k,hk=>by
  rw [World.setCells,fw b r (o + 1) _ k hk]
  exact Below.heap_setCell w ⟨b,o,none⟩ v k hk
theorem bV (b:Nat):∀ (vs:List Value) (o:Nat) (w:World),(w.setCells b o vs).os=w.os∧(w.setCells b o vs).tape=w.tape∧(w.setCells b o vs).output=w.output∧(w.setCells b o vs).heap.size=w.heap.size
 | [],_,_=>⟨rfl,rfl,rfl,rfl⟩
 | v :: r,o,w=>by
  obtain ⟨h1,h2,h3,h4⟩:=bV b r (o + 1) (w.setCell ⟨b,o,none⟩ v)
  exact ⟨h1,h2,h3,by rw [World.setCells,h4];simp [World.setCell]⟩
theorem cM (b:Nat) (vs:List Value) (o:Nat) (w:World):w.grownBy (w.setCells b o vs) (some b):=by
 obtain ⟨h1,h2,h3,h4⟩:=bV b vs o w
 exact ⟨h1,h2,h3,by rw [h4];exact Nat.le_refl _,fun k _ hne=>fw b vs o w k (fun e=>hne (by rw [e]))⟩
section
variable {P:Program} {w:World}
theorem cO {t:TypeId} {k b o:Nat} {ty:TypeId} {cur:Array Value} {v:Value} (hk:cI P t=some k) (hv:v.cells.size=k) (h1:∀ u ∈ v.cells.toList,u.oneCell' = true)
  (hb:w.heap[b]? = some (.cells cur ty (0,0))) (hl:o + k≤cur.size):(storeVar t ⟨b,o,none⟩ v).run P w = .ok () (w.setCells b o v.cells.toList):=by
 have hst:=run_storeCells_cells (P:=P) b o v.cells.toList 0 w (fun j hj=>by
   simp only [Array.length_toList] at hj
   rw [Nat.add_zero,cell_of_row w b (o + j) cur ty (0,0) hb,Array.getElem?_eq_getElem (by omega)];rfl)
  (fun j _=>by simp [World.frozen?,hb]) h1
 simp only [Nat.add_zero] at hst
 simp only [storeVar,Sem.run_bind,cp hk,Result.andThen,hv,ne_eq,not_true,if_false]
 simpa using hst
theorem fm (t tx ty e:TypeId) (i:TypeInfo) (z:Value) (size:Nat) (ht:P.underlying t=some (.slice e)) (hi:P.info? e=some i) (hz:i.zero=some z)
  (hsize:i.size=size) (hzs:z.cells.size=size) (hsz:0 < size) (hby:i.bytes≤128)
  (v:Value) (n:Nat) (xs:List Value) (hown:w.ownsRow 0 e size v n xs) (x:Value) (m:Nat) (news:List Value) (hs:Src P size tx x m news w) (hroom:n + m≤room) :
  ∃ v' w',(Builtin.append_ #[t,tx] ty #[v,x]).run P w = .ok v' w'∧w'.ownsRow 0 e size v' (n + m) (xs ++ news)∧w.grownBy w' v.ownBlock∧(v'.ownBlock=v.ownBlock∨v'.ownBlock=some w.heap.size):=by
 subst hsize
 have hrm:n + m≤1073741824:=hroom
 have h63:n + m≤maxLen:=by unfold maxLen;omega
 have hsmall:n + m≤9223372036854775807:=by omega
 have hl:=hs.newsLen
 have hlen:(xs ++ news).length=(n + m) * i.size:=by rw [List.length_append,hown.1,hl,Nat.add_mul]
 have hbytes:(n + m) * i.bytes≤140737488355328:=by
  have:(n + m) * i.bytes≤1073741824 * 128:=Nat.mul_le_mul hrm hby
  omega
 have grown:∀ (old:Nat),old < n + m→∀ (row:Option Nat),
   (w.drew.alloc (.cells ((xs ++ news).toArray ++ Builtin.zeroCells z.cells (grownCap w (n + m) old e - (n + m))) e)).ownsRow 0 e i.size
     (.slice (some ⟨w.heap.size,0,none⟩) (n + m) (grownCap w (n + m) old e)) (n + m) (xs ++ news)∧
   w.grownBy (w.drew.alloc (.cells ((xs ++ news).toArray ++ Builtin.zeroCells z.cells (grownCap w (n + m) old e - (n + m))) e)) row:=by
  intro old ho row
  have hge:=grownCap_ge w (n + m) old e
  have hcm:grownCap w (n + m) old e≤maxLen:=grownCap_le_maxLen w (n + m) old e h63
  refine ⟨⟨hlen,.inr ⟨w.heap.size,_,_,rfl,Nat.zero_le _,heap_alloc_new w.drew _,hge,hcm,?_,?_⟩⟩,⟨rfl,rfl,rfl,by simp,fun k hk _=>Below.heap_alloc w.drew _ k hk⟩⟩
  ·simp only [Array.size_append,List.size_toArray,size_zeroCells,hzs,hlen,← Nat.add_mul]
   congr 1
   omega
  ·simp only [Array.toList_append]
   rw [← hlen]
   exact List.take_left
 rcases hown.2 with ⟨rfl,rfl⟩ | ⟨g,cap,cur,rfl,hbg,hg,hnc,hcm,hcs,htake⟩
 ·have hx:xs=[]:=List.eq_nil_of_length_eq_zero (by simpa using hown.1)
  subst hx
  by_cases hm:m=0
  ·subst hm
   have hn:news=[]:=List.eq_nil_of_length_eq_zero (by simpa using hl)
   subst hn
   refine ⟨.slice none 0 0,w,?_,World.ownsRow_nil w 0 e i.size,⟨rfl,rfl,rfl,Nat.le_refl _,fun _ _ _=>rfl⟩,.inl rfl⟩
   rcases hs.kind with ⟨e',hk⟩ | hk<;>simp [Builtin.append_,run_underlying ht,run_underlying hk,sizeOf,typeInfo,hi,hs.len,hs.cells]
  ·have hr:=run_append_grow_src (P:=P) w t tx ty e i z ht hi hz none 0 0 [] (run_firstCells_none w.drew i.size 0 0 0) x m news hs (by omega) (by omega) (growslice_fits (by omega) hbytes)
   have hgr:=grown 0 (by omega) (Value.ownBlock (.slice none 0 0))
   exact ⟨_,_,hr,hgr.1,hgr.2,.inr rfl⟩
 ·by_cases hroom':n + m≤cap
  ·have hfit:n * i.size + news.length≤cur.size:=by rw [hl,hcs,← Nat.add_mul];exact Nat.mul_le_mul_right _ hroom'
   have hr:=run_append_room_src (P:=P) w t tx ty e i ht hi g 0 n cap x m news hs hroom'
    (fun j hj=>by rw [Nat.zero_add,cell_of_row w g _ cur e (0,0) hg,Array.getElem?_eq_getElem (by omega)];rfl)
    (fun j _=>by simp [World.frozen?,hg])
   simp only [Nat.zero_add] at hr
   obtain ⟨cur',h2,h3,h4⟩:=cc g e news (n * i.size) w cur hg hfit
   refine ⟨_,_,hr,⟨hlen,.inr ⟨g,cap,cur',rfl,hbg,h2,hroom',hcm,by rw [h4,hcs],?_⟩⟩,cM g news _ w,.inl rfl⟩
   rw [h3,htake,← hlen]
   exact List.take_left
  ·have holds:∀ j u,xs[j]? = some u→w.cell? ((⟨g,0,none⟩:Addr).add j)=some u:=hown.cells (g:=g) rfl
   have hr:=run_append_grow_src (P:=P) w t tx ty e i z ht hi hz (some ⟨g,0,none⟩) n cap xs (run_firstCells_some w.drew i.size n ⟨g,0,none⟩ n cap xs hown.1 (by simpa using holds)) x m news hs (by omega) (by omega) (growslice_fits (by omega) hbytes)
   have hgr:=grown cap (by omega) (Value.ownBlock (.slice (some ⟨g,0,none⟩) n cap))
   exact ⟨_,_,hr,hgr.1,hgr.2,.inr rfl⟩
end
theorem aR.one {w:World} {Z:Nat→Prop}:∀ {c:Ct} {v:Value} {u:U},aR w Z c v u→v.oneCell' = true
 | .int _,_,_,h=>by obtain ⟨h,_⟩:=h;subst h;rfl
 | .bool,_,_,h=>by have h:_=_:=h;subst h;rfl
 | .str,_,_,h=>by obtain ⟨h,_⟩:=h;subst h;rfl
 | .sl _ _,_,_,h=>by obtain ⟨A,c,rfl,_⟩:=h;rfl
 | .oth,_,_,h=>h.elim
theorem aX.one {w:World} {Z:Nat→Prop}:∀ {cs:List Ct} {vs:List Value} {us:List U},aX w Z cs vs us→∀ v ∈ vs,v.oneCell' = true
 | [],_,_,h,v,hv=>by have h:_=[]:=h;subst h;cases hv
 | _ :: _,_,_,h,v,hv=>by
  obtain ⟨x,t,rfl,hr,ht⟩:=h
  rcases List.mem_cons.1 hv with rfl | hv
  ·exact hr.one
  ·exact aX.one ht v hv
theorem ah.one {w:World} {Z:Nat→Prop} {m:Bool} {cs:List Ct}:∀ {us:List U} {vs:List Value},ah w Z m cs us vs→∀ v ∈ vs,v.oneCell' = true
 | [],_,h,v,hv=>by have h:_=[]:=h;subst h;cases hv
 | _ :: _,_,h,v,hv=>by
  obtain ⟨p,q,rfl,hp,hq⟩:=h
  rcases List.mem_append.1 hv with hv | hv
  ·exact hp.one v hv
  ·exact ah.one hq v hv
theorem Ct.beq_eq {a b:Ct} (h:a.beq b=true):a=b:=go a b h
where
 go:∀ (a b:Ct),a.beq b=true→a=b
  | .int i,.int j,h=>by cases i<;>cases j<;>first | rfl | simp [Ct.beq] at h
  | .int i,.bool,h=>by cases i<;>simp [Ct.beq] at h
  | .int i,.str,h=>by cases i<;>simp [Ct.beq] at h
  | .int i,.sl _ _,h=>by cases i<;>simp [Ct.beq] at h
  | .int i,.oth,h=>by cases i<;>simp [Ct.beq] at h
  | .bool,.int j,h=>by cases j<;>simp [Ct.beq] at h
  | .bool,.bool,_=>rfl
  | .bool,.str,h=>by simp [Ct.beq] at h
  | .bool,.sl _ _,h=>by simp [Ct.beq] at h
  | .bool,.oth,h=>by simp [Ct.beq] at h
  | .str,.int j,h=>by cases j<;>simp [Ct.beq] at h
  | .str,.bool,h=>by simp [Ct.beq] at h
  | .str,.str,_=>rfl
  | .str,.sl _ _,h=>by simp [Ct.beq] at h
  | .str,.oth,h=>by simp [Ct.beq] at h
  | .sl m _,.int j,h=>by cases m<;>cases j<;>simp [Ct.beq] at h
  | .sl m _,.bool,h=>by cases m<;>simp [Ct.beq] at h
  | .sl m _,.str,h=>by cases m<;>simp [Ct.beq] at h
  | .sl m _,.oth,h=>by cases m<;>simp [Ct.beq] at h
  | .sl true a,.sl true b,h=>by rw [gos a b (by simpa [Ct.beq] using h)]
  | .sl false a,.sl false b,h=>by rw [gos a b (by simpa [Ct.beq] using h)]
  | .sl true _,.sl false _,h=>by simp [Ct.beq] at h
  | .sl false _,.sl true _,h=>by simp [Ct.beq] at h
  | .oth,.int j,h=>by cases j<;>simp [Ct.beq] at h
  | .oth,.bool,h=>by simp [Ct.beq] at h
  | .oth,.str,h=>by simp [Ct.beq] at h
  | .oth,.sl _ _,h=>by simp [Ct.beq] at h
  | .oth,.oth,h=>by simp [Ct.beq] at h
 gos:∀ (a b:List Ct),Ct.beq.beqs a b=true→a=b
  | [],[],_=>rfl
  | [],_ :: _,h=>by simp [Ct.beq.beqs] at h
  | _ :: _,[],h=>by simp [Ct.beq.beqs] at h
  | x :: r,y :: s,h=>by
   unfold Ct.beq.beqs at h
   split at h
   ·rename_i hxy
    rw [go x y hxy,gos r s h]
   ·cases h
theorem zb {a b:List Ct} (h:Ct.beq.beqs a b=true):a=b:=Ct.beq_eq.gos a b h
theorem dM {w:World} {Z:Nat→Prop} {G:Nat→Value} {c:Ct} {s:SV} {u:U} {v:Value} (h:cQ c s=some u) (hs:ag w Z G s v):aR w Z c v u:=by
 unfold cQ at h
 split at h
 ·rename_i c' u'
  split at h
  ·rename_i hb
   have:=Ct.beq_eq hb
   subst this
   injection h with h
   subst h
   exact hs
  ·cases h
 ·split at h
  ·injection h with h
   subst h
   have hs:v = .slice none 0 0:=hs
   exact ⟨none,0,hs,Nat.le_refl _,Nat.zero_le _,fun k hk=>absurd hk (by simp [U.list])⟩
  ·cases h
 ·cases h
theorem dH {w:World} {Z:Nat→Prop} {G:Nat→Value}:∀ {cs:List Ct} {l:List SV} {us:List U} {vs:List Value},fE cQ cs l=some us→ab w Z G l vs→aX w Z cs vs us
 | [],[],us,vs,h,hs=>by
  have hs:vs=[]:=hs
  subst hs
  rfl
 | [],_ :: _,us,vs,h,hs=>by simp [fE] at h
 | _ :: _,[],us,vs,h,hs=>by simp [fE] at h
 | c :: cs,s :: l,us,vs,h,hs=>by
  unfold fE at h
  split at h
  ·rename_i u us' h1 h2
   injection h with h
   subst h
   obtain ⟨v,t,rfl,hv,ht⟩:=hs
   exact ⟨v,t,rfl,dM h1 hv,dH h2 ht⟩
  ·cases h
theorem aX.cells {w:World} {Z:Nat→Prop} {b:Nat}:∀ {cs:List Ct} {vs:List Value} {us:List U} {o:Nat},aX w Z cs vs us→(∀ j v,vs[j]? = some v→w.cell? ⟨b,o + j,none⟩=some v)→bz w Z cs b o us
 | [],_,_,_,_,_=>trivial
 | _ :: _,_,_,o,h,hc=>by
  obtain ⟨v,t,rfl,hr,ht⟩:=h
  refine ⟨⟨v,by simpa using hc 0 v rfl,hr⟩,aX.cells ht (fun j u hj=>?_)⟩
  have:=hc (j + 1) u (by simpa using hj)
  rwa [show o + 1 + j=o + (j + 1) by omega]
theorem kJ {w:World} {Z Z':Nat→Prop} {m:Bool} {cs:List Ct} {e:TypeId} {v:Value} {xs:List U} {vs:List Value} (hZ:∀ b,Z b→Z' b) (hv:∀ b,blk v=some b→Z' b)
  (hown:w.ownsRow 0 e cs.length v xs.length vs) (hr:ah w Z m cs xs vs):aR w Z' (.sl m cs) v (.l xs):=by
 rcases hown.2 with ⟨rfl,h0⟩ | ⟨g,cap,cur,rfl,_,hg,hnc,hcm,hcs,htake⟩
 ·exact ⟨none,0,by simp [U.list,h0],by simp [U.list,h0],Nat.zero_le _,fun k hk=>absurd hk (by simp [U.list,h0])⟩
 ·refine ⟨some ⟨g,0,none⟩,cap,rfl,hnc,hcm,fun k hk=>⟨g,0,rfl,hv g rfl,?_⟩⟩
  have hk:k < xs.length:=hk
  obtain ⟨p,q,r,hvs,hp,hq⟩:=hr.at_ k hk
  refine bz.mono (w:=w) ⟨hZ,fun _ _=>rfl⟩ cs g _ _ rfl (aX.cells hq (fun j u hj=>?_))
  have hcell:=hown.cells (g:=g) rfl (p.length + j) u (by
   rw [hvs,List.append_assoc,List.getElem?_append_right (by omega),Nat.add_sub_cancel_left,List.getElem?_append_left (by
    have:=(List.getElem?_eq_some_iff.1 hj).1;omega)]
   exact hj)
  rw [bp,hp] at hcell
  rw [Nat.add_assoc]
  exact hcell
theorem bz.values {w:World} {Z:Nat→Prop} {b:Nat}:∀ {cs:List Ct} {o:Nat} {us:List U},bz w Z cs b o us→∃ vs,aX w Z cs vs us∧∀ j v,vs[j]? = some v→w.cell? ⟨b,o + j,none⟩=some v
 | [],_,_,_=>⟨[],rfl,fun j v h=>by simp at h⟩
 | c :: cs,o,us,h=>by
  obtain ⟨⟨v,hc,hr⟩,ht⟩:=h
  obtain ⟨vs,hvs,hcell⟩:=bz.values ht
  refine ⟨v :: vs,⟨v,vs,rfl,hr,hvs⟩,fun j u hj=>?_⟩
  cases j with
  | zero=>simp at hj;subst hj;exact hc
  | succ j=>have:=hcell j u (by simpa using hj);rwa [show o + (j + 1)=o + 1 + j by omega]
theorem gq {w:World} {Z:Nat→Prop} {m:Bool} {cs:List Ct} {b:Nat}:∀ {us:List U} {o:Nat},(∀ k,k < us.length→bz w Z cs b (o + k * cs.length) (dF m (U.at us k)))→
  ∃ vs,ah w Z m cs us vs∧∀ j v,vs[j]? = some v→w.cell? ⟨b,o + j,none⟩=some v
 | [],_,_=>⟨[],rfl,fun j v h=>by simp at h⟩
 | u :: us,o,h=>by
  have h0:=h 0 (by simp)
  simp only [Nat.zero_mul,Nat.add_zero] at h0
  obtain ⟨p,hp,hpc⟩:=bz.values h0
  obtain ⟨q,hq,hqc⟩:=gq (us:=us) (o:=o + cs.length) (fun k hk=>by
   have:=h (k + 1) (by simpa using hk)
   rwa [show o + (k + 1) * cs.length=o + cs.length + k * cs.length by rw [Nat.add_mul];omega] at this)
  refine ⟨p ++ q,⟨p,q,rfl,hp,hq⟩,fun j v hj=>?_⟩
  by_cases hjp:j < p.length
  ·rw [List.getElem?_append_left hjp] at hj;exact hpc j v hj
  ·rw [List.getElem?_append_right (by omega)] at hj
   have:=hqc _ v hj
   rwa [hp.length,show o + cs.length + (j - cs.length)=o + j by have:=hp.length;omega] at this
end Go.Den

namespace Go.Den
open Go Go.RowKit
def none_:Nat→Value:=fun _=>undef
def iE (w:World) (Z:Nat→Prop) (svs:List SV) (v:Value):Prop:=match svs with
 | [s]=>ag w Z none_ s v
 | l=>ag w Z none_ (.tup l) v
def zl (P:Program) (w:World) (Z:Nat→Prop) (ts:List TypeId) (us:List (List U)) (vs:List Value):Prop:=∃ svs,aU P ts us=some svs∧ab w Z none_ svs vs
def ez (P:Program):List TypeId→List (List U)→Prop
 | [],us=>us=[]
 | t :: ts,us=>∃ u r m cs,us=u :: r∧Cs P t=some (m,cs)∧u.length=cs.length∧ez P ts r
theorem j3 {f:Ct→SV→Option U}:∀ {cs:List Ct} {l:List SV} {us:List U},fE f cs l=some us→us.length=cs.length
 | [],[],us,h=>by simp only [fE,Option.some.injEq] at h;subst h;rfl
 | [],_ :: _,us,h=>by simp [fE] at h
 | _ :: _,[],us,h=>by simp [fE] at h
 | c :: cs,s :: l,us,h=>by
  unfold fE at h
  split at h
  ·rename_i u us' h1 h2
   injection h with h
   subst h
   simp [j3 h2]
  ·cases h
theorem j8 {P:Program} {f:Ct→SV→Option U}:∀ {ts:List TypeId} {l:List SV} {us:List (List U)},ij P f ts l=some us→ez P ts us
 | [],[],us,h=>by simp only [ij,Option.some.injEq] at h;subst h;rfl
 | [],_ :: _,us,h=>by simp [ij] at h
 | _ :: _,[],us,h=>by simp [ij] at h
 | t :: ts,s :: l,us,h=>by
  unfold ij at h
  split at h
  ·rename_i u us' h1 h2
   injection h with h
   subst h
   unfold flat at h1
   split at h1
   ·rename_i cs hcs
    split at h1
    ·exact ⟨u,us',true,cs,rfl,hcs,j3 h1,j8 h2⟩
    ·cases h1
   ·rename_i cs hcs
    exact ⟨u,us',false,cs,rfl,hcs,j3 h1,j8 h2⟩
   ·cases h1
  ·cases h
structure vc (P:Program) (f:FuncId) (fn:Func) (us rs:List (List U)):Prop where
 body:fn.body.isNone=false
 name:(fn.name == "runtime.NumGoroutine")=false
 calls:∀ (w:World) (Z:Nat→Prop) (vs:List Value),(∀ b,Z b→b < w.heap.size)→ez P fn.params.toList us→zl P w Z fn.params.toList us vs→Calls P f vs.toArray w fun e w'=>
  ∃ v Z',e = .returned v∧Fut (fun _=>False) w w'∧(∀ b,Z b→Z' b)∧(∀ b,Z' b→Z b∨(w.heap.size≤b∧Plain w' b))∧(∀ b,Z' b→b < w'.heap.size)∧
   ∃ svs,aU P fn.resultTypes.toList rs=some svs∧iE w' Z' svs v
def bH (G:Nat→Value) (objs:bX) (b:Nat):Prop:=∃ id o,az objs id=some o∧blk (G id)=some b
def lT (w:World) (Z:Nat→Prop) (G:Nat→Value):Out→Ending→Prop
 | .ret [s],e=>∃ v,e = .returned v∧ag w Z G s v
 | .ret l,e=>∃ v,e = .returned v∧ag w Z G (.tup l) v
 | .pan s,e=>∃ v,e = .panicked [{ v:=v,recovered:=false }]∧ag w Z G s v
structure yV (P:Program) (w:World) (Z:Nat→Prop) (G:Nat→Value) (objs:bX):Prop where
 lt:∀ b,Z b→b < w.heap.size
 flat:∀ id,(G id).oneCell' = true
 obj:∀ id o,az objs id=some o→cg w Z G P id o
 sep:∀ id id' o o' b,az objs id=some o→az objs id' = some o'→blk (G id)=some b→blk (G id')=some b→id=id'
 free:∀ id o b,az objs id=some o→blk (G id)=some b→¬ Z b
structure zI (P:Program) (w:World) (Z:Nat→Prop) (G:Nat→Value) (objs:bX) (w':World) (Z':Nat→Prop) (G':Nat→Value) (objs':bX):Prop where
 stand:yV P w' Z' G' objs'
 fut:Fut (bH G objs) w w'
 sub:∀ b,Z b→Z' b
 new:∀ b,Z' b→Z b∨bH G objs b∨w.heap.size≤b
 row:∀ b,Z' b→Z b∨Plain w' b
 own:∀ id o b,az objs' id=some o→blk (G' id)=some b→bH G objs b∨w.heap.size≤b
 keep:∀ id o,az objs id=some o→id % 2=1→G' id=G id
structure lE (P:Program) (f:FuncId) (fn:Func) (F:Tr):Prop where
 body:fn.body.isNone=false
 name:(fn.name == "runtime.NumGoroutine")=false
 calls:∀ (vs:List SV) (objs:bX) (R:Out→bX→Prop),jw objs=true→F vs objs R→∀ (w:World) (Z:Nat→Prop) (G:Nat→Value) (args:List Value),ab w Z G vs args→yV P w Z G objs→
  Calls P f args.toArray w fun e w'=>∃ out objs' Z' G',R out objs'∧lT w' Z' G' out e∧zI P w Z G objs w' Z' G' objs'
theorem Fk {P:Program} {w:World} {Z:Nat→Prop} {G:Nat→Value} {objs:bX} (hc:jw objs=true) (h:yV P w Z G objs):∀ id o,(id,o) ∈ objs→okO P o:=by
 have key:∀ l:bX,jw l=true→∀ id o,(id,o) ∈ l→az l id=some o:=by
  intro l
  induction l with
  | nil=>intro _ id o h;cases h
  | cons x r ih=>
   obtain ⟨i,p⟩:=x
   intro hl id o hm
   unfold jw at hl
   have hmem:∀ id (o:Obj) (l:bX),(id,o) ∈ l→id ∈ iL l:=by
    intro id o l
    induction l with
    | nil=>intro h;cases h
    | cons y s ihs=>
     intro h
     rcases List.mem_cons.1 h with h | h
     ·cases h;exact List.mem_cons_self ..
     ·exact List.mem_cons_of_mem _ (ihs h)
   have hmB:∀ (l:List Nat) (n:Nat),n ∈ l→dZ n l=true:=by
    intro l
    induction l with
    | nil=>intro n h;cases h
    | cons y s ihs=>
     intro n h
     unfold dZ
     by_cases hy:n=y
     ·subst hy;simp
     ·rw [jf hy,cond_false]
      rcases List.mem_cons.1 h with h | h
      ·exact absurd h hy
      ·exact ihs n h
   rw [ba]
   rcases List.mem_cons.1 hm with hm | hm
   ·cases hm;rw [if_pos rfl]
   ·cases hb:dZ i (iL r) with
    | true=>rw [hb] at hl;cases hl
    | false=>
     rw [hb] at hl
     have hne:i≠id:=fun e=>by
      subst e
      rw [hmB _ _ (hmem _ _ _ hm)] at hb
      cases hb
     rw [if_neg hne]
     refine ih ?_ id o hm
     simp only [cond_false] at hl
     split at hl
     all_goals (first | (cases hq:lM i<;>rw [hq] at hl<;>first | exact hl | cases hl))
 exact fun id o hm=>cg.ok (h.obj id o (key objs hc id o hm))
theorem lE.weakenOk {P:Program} {f:FuncId} {fn:Func} {F F':Tr} (h:lE P f fn F) (hF:∀ vs objs R,okS.okSs vs→(∀ id o,(id,o) ∈ objs→okO P o)→F' vs objs R→F vs objs R):lE P f fn F':=
 ⟨h.body,h.name,fun vs objs R hc h' w Z G args ha hs=>h.calls vs objs R hc (hF _ _ _ (ab.ok ha) (Fk hc hs) h') w Z G args ha hs⟩
def jZ (ks:List IntKind) (is:List Int):Value:=.agg (List.zipWith Value.int ks is).toArray
def xF (P:Program) (t:TypeId) (ks:List IntKind):Prop:=∀ (x y:Operand) (is js:List Int) (w:World),is.length=ks.length→js.length=ks.length→
 (do eqGuard .eql t x y (jZ ks is) (jZ ks js);binOp .eql t (jZ ks is) (jZ ks js)).run P w = .ok (.bool (decide (is=js))) w∧
 (do eqGuard .neq t x y (jZ ks is) (jZ ks js);binOp .neq t (jZ ks is) (jZ ks js)).run P w = .ok (.bool (!decide (is=js))) w
def Hd (P:Program) (f:FuncId):Ext→Prop
 | .load=>∀ (a:Addr) (x:Int) (w:World),w.cell? a=some (.int .i64 x)→(callFunc f #[.pointer (some a)]).run P w = .ok (.value (.int .i64 x)) w
 | .add=>∀ (a:Addr) (x y:Int) (w:World),w.cell? a=some (.int .i64 x)→w.frozen? a=false→
   (callFunc f #[.pointer (some a),.int .i64 y]).run P w = .ok (.value (.int .i64 (IntKind.wrap .i64 (x + y)))) (w.setCell a (.int .i64 (IntKind.wrap .i64 (x + y))))
structure Ctx.Ok (C:Ctx):Prop where
 fns:∀ f fn us p rs,C.P.funcs[f]? = some fn→C.fns f us=some (p,rs)→wh p True→vc C.P f fn us rs
 trs:∀ f fn fs F,C.P.funcs[f]? = some fn→C.trs f=some (fs,F)→lE C.P f fn F
 eqs:∀ t ks,C.eqs t=some ks→xF C.P t ks
 mixed:C.P.follows .mixedOrders=true
 exts:∀ f e,C.exts f=some e→Hd C.P f e
theorem bL {b:Bool} {x y:Prop} (h:(bif b then x else y)):(b=true∧x)∨(b=false∧y):=by
 cases b
 ·exact .inr ⟨rfl,h⟩
 ·exact .inl ⟨rfl,h⟩
theorem aA {b:Bool} {x:Prop} (h:(bif b then x else False)):b=true∧x:=by
 cases b
 ·cases h
 ·exact ⟨rfl,h⟩
theorem lU {α:Type} {b:Bool} {x:Option α} {r:α} (h:(bif b then x else none)=some r):b=true∧x=some r:=by
 cases b
 ·cases h
 ·exact ⟨rfl,h⟩
theorem g9 {i j:IntKind} (h:IntKind.same i j=true):i=j:=by cases i<;>cases j<;>first | rfl | simp [IntKind.same] at h
theorem rQ {w:World} {Z:Nat→Prop} {op:BinOp} {i:IntKind} {x y z:Int} (h:arith op i x y=some z):aR w Z (.int i) (.int i z) (.i z):=by
 unfold arith at h
 split at h<;>first | (injection h with h;subst h;exact du _ _) | cases h
theorem jh {w:World} {Z:Nat→Prop} {G:Nat→Value}:∀ {ks:List IntKind} {xs ys:List SV} {b:Bool} {vs us:List Value},jr ks xs ys=some b→ab w Z G xs vs→ab w Z G ys us→
  ∃ is js:List Int,is.length=ks.length∧js.length=ks.length∧vs=List.zipWith Value.int ks is∧us=List.zipWith Value.int ks js∧b=decide (is=js)
 | [],[],[],b,vs,us,h,hx,hy=>by
  have hx:vs=[]:=hx
  have hy:us=[]:=hy
  simp only [jr,Option.some.injEq] at h
  exact ⟨[],[],rfl,rfl,hx,hy,by rw [← h];rfl⟩
 | k :: ks,xs,ys,b,vs,us,h,hx,hy=>by
  unfold jr at h
  split at h
  ·exact absurd ‹k :: ks=[]› (by simp)
  ·rename_i k' ks' k1 x xs k2 y ys heq
   cases heq
   split at h
   ·rename_i b' h1 h2 h3
    injection h with h
    obtain ⟨v,t,rfl,hv,ht⟩:=hx
    obtain ⟨u,s,rfl,hu,hs⟩:=hy
    obtain ⟨is,js,l1,l2,e1,e2,e3⟩:=jh h3 ht hs
    have hv:v = .int k1 x.int:=hv.1
    have hu:u = .int k2 y.int:=hu.1
    have:=g9 h1;subst this
    have:=g9 h2;subst this
    refine ⟨x.int :: is,y.int :: js,by simp [l1],by simp [l2],by simp [hv,e1],by simp [hu,e2],?_⟩
    rw [← h,e3]
    by_cases hxy:x.int=y.int<;>by_cases his:is=js<;>simp [hxy,his]
   ·cases h
  ·cases h
 | [],[],_ :: _,b,vs,us,h,hx,hy=>by simp [jr] at h
 | [],_ :: _,_,b,vs,us,h,hx,hy=>by simp [jr] at h
section
variable {C:Ctx} {a:Act} {w:World} {Z:Nat→Prop} {G:Nat→Value} {o:Oper} {K:Act→World→Prop} {Q:Exit→Act→World→Prop}
theorem gJ {op:BinOp} {t t2:TypeId} {x y:Operand} {v:Value} (ho:o.op = .binOp op t x y t2) (h:(do eqGuard op t x y (a.eval x) (a.eval y);binOp op t (a.eval x) (a.eval y)).run C.P w = .ok v w) (hk:K (a.put o.dst v) w):o.wp C.P a w K Q:=by
 refine aG (v:=v) (w':=w) ?_ hk
 simp only [Sem.run_bind] at h
 simp only [execOp,ho,Sem.run_bind]
 cases hg:(eqGuard op t x y (a.eval x) (a.eval y)).run C.P w with
 | ok u w1=>
  rw [hg] at h
  simp only [Result.andThen] at h ⊢
  rw [h]
  rfl
 | halt e w1=>rw [hg] at h;simp [Result.andThen] at h
theorem run_equal_bool {t:TypeId} (hu:C.P.underlying t=some .bool) (m n:Bool):(Op.equal t (.bool m) (.bool n)).run C.P w = .ok (m == n) w:=by
 have h:∀ d:Nat,(Op.equalIn (d + 1) t (.bool m) (.bool n)).run C.P w = .ok (m == n) w:=fun d=>by simp [Op.equalIn,run_underlying hu]
 exact h 9999
theorem kn (op:BinOp) (t:TypeId) (x y:Operand) (i j:IntKind) (m n:Int):(eqGuard op t x y (.int i m) (.int j n)).run C.P w = .ok () w:=by
 cases op<;>rfl
theorem fi {op:BinOp} {t t2:TypeId} {x y:Operand} {i j:IntKind} {m n:Int} {v:Value} (ho:o.op = .binOp op t x y t2) (hx:a.eval x = .int i m) (hy:a.eval y = .int j n)
  (h:(binOp op t (.int i m) (.int j n)).run C.P w = .ok v w) (hk:K (a.put o.dst v) w):o.wp C.P a w K Q:=by
 refine gJ (C:=C) (v:=v) ho ?_ hk
 rw [hx,hy]
 simp only [Sem.run_bind,kn,Result.andThen,h]
theorem cJ {P:Program} {w:World} {t e:TypeId} (hu:P.underlying t=some (.slice e)) (A:Option Addr) (n c:Nat):(Op.equal t (.slice A n c) (.slice none 0 0)).run P w = .ok A.isNone w:=by
 have h:∀ d:Nat,(Op.equalIn (d + 1) t (.slice A n c) (.slice none 0 0)).run P w = .ok A.isNone w:=fun d=>by cases A<;>simp [Op.equalIn,run_underlying hu]
 exact h 9999
theorem nA {l:List U} (h:0 < l.length→∃ b o,(none:Option Addr)=some ⟨b,o,none⟩):l=[]:=by
 cases l with
 | nil=>rfl
 | cons x r=>
  obtain ⟨_,_,e⟩:=h (by simp)
  cases e
theorem Ia (hC:C.Ok) {op:BinOp} {t t2:TypeId} {x y:Operand} {sx sy:SV} {k:SV→Prop} (ho:o.op = .binOp op t x y t2) (hx:ag w Z G sx (a.eval x)) (hy:ag w Z G sy (a.eval y))
  (h:bin C op t sx sy k) (hk:∀ s v,k s→ag w Z G s v→K (a.put o.dst v) w):o.wp C.P a w K Q:=by
 unfold bin at h
 split at h
 ·rename_i i m j n
  obtain ⟨hx,hmr⟩:a.eval x = .int i m.int∧i.min≤m.int∧m.int≤i.max:=hx
  have hy:a.eval y = .int j n.int:=hy.1
  split at h
  ·rcases bL h with ⟨_,h⟩ | ⟨hb,h⟩
   ·cases h
   ·have hb:¬ n.int < 0:=of_decide_eq_false hb
    refine fi (C:=C) (v:=.int i (i.wrap (m.int * 2 ^ (min n.int.toNat i.bits)))) ho hx hy ?_ (hk _ _ h (du _ _))
    simp [binOp,Op.shift,hb]
  ·rcases bL h with ⟨_,h⟩ | ⟨hb,h⟩
   ·cases h
   ·have hb:¬ n.int < 0:=of_decide_eq_false hb
    refine fi (C:=C) (v:=.int i (m.int.fdiv (2 ^ (min n.int.toNat i.bits)))) ho hx hy ?_ (hk _ _ h (zq hmr _))
    simp [binOp,Op.shift,hb]
  ·rename_i hnl hnr
   split at h
   ·cases h
   ·rename_i hs
    have:=g9 hs
    subst this
    split at h
    ·rcases bL h with ⟨_,h⟩ | ⟨hb,h⟩
     ·cases h
     ·have hb:¬ n.int=0:=of_decide_eq_false hb
      refine fi (C:=C) (v:=.int i (i.wrap (m.int.tdiv n.int))) ho hx hy ?_ (hk _ _ h (du _ _))
      simp [binOp,Op.intDiv,hb]
    ·rcases bL h with ⟨_,h⟩ | ⟨hb,h⟩
     ·cases h
     ·have hb:¬ n.int=0:=of_decide_eq_false hb
      refine fi (C:=C) (v:=.int i (m.int.tmod n.int)) ho hx hy ?_ (hk _ _ h (zw hmr _))
      simp [binOp,Op.intDiv,hb]
    ·rename_i hnq hnm
     split at h
     ·rename_i z hz
      refine fi (C:=C) (v:=.int i z) ho hx hy ?_ (hk _ _ h (rQ hz))
      cases op<;>simp [arith] at hz<;>subst hz<;>simp [binOp,Op.intArith,Op.intBits]
     ·rename_i hz
      split at h
      ·rename_i b hb
       refine fi (C:=C) (v:=.bool b) ho hx hy ?_ (hk _ _ h rfl)
       cases op<;>simp [cmp] at hb<;>subst hb<;>simp [binOp,Op.intCmp]
      ·cases h
 ·rename_i m n
  have hx:a.eval x = .string m.str:=hx.1
  have hy:a.eval y = .string n.str:=hy.1
  split at h
  ·refine gJ (C:=C) (v:=.bool (m.str.toList == n.str.toList)) ho ?_ (hk _ _ h rfl)
   rw [hx,hy]
   simp [eqGuard,binOp,Op.stringOp]
  ·refine gJ (C:=C) (v:=.bool !(m.str.toList == n.str.toList)) ho ?_ (hk _ _ h rfl)
   rw [hx,hy]
   simp [eqGuard,binOp,Op.stringOp]
  ·cases h
 ·rename_i m n
  have hx:a.eval x = .bool m.bool:=hx
  have hy:a.eval y = .bool n.bool:=hy
  split at h
  ·rename_i hu
   split at h
   ·refine gJ (C:=C) (v:=.bool (m.bool == n.bool)) ho ?_ (hk _ _ h rfl)
    rw [hx,hy]
    simp [eqGuard,binOp,run_equal_bool hu]
   ·refine gJ (C:=C) (v:=.bool !(m.bool == n.bool)) ho ?_ (hk _ _ h rfl)
    rw [hx,hy]
    simp [eqGuard,binOp,run_equal_bool hu]
   ·cases h
  ·cases h
 ·rename_i xs ys
  split at h
  ·rename_i ks hks
   split at h
   ·rename_i b hb
    obtain ⟨vs,hvx,hrx⟩:=hx
    obtain ⟨us,hvy,hry⟩:=hy
    obtain ⟨is,js,l1,l2,e1,e2,rfl⟩:=jh hb hrx hry
    obtain ⟨h1,h2⟩:=hC.eqs t ks hks x y is js w l1 l2
    have hx:a.eval x=jZ ks is:=by rw [hvx];unfold jZ;rw [← e1]
    have hy:a.eval y=jZ ks js:=by rw [hvy];unfold jZ;rw [← e2]
    split at h
    ·refine gJ (C:=C) (v:=.bool (decide (is=js))) ho ?_ (hk _ _ h rfl)
     rw [hx,hy];exact h1
    ·refine gJ (C:=C) (v:=.bool (!decide (is=js))) ho ?_ (hk _ _ h rfl)
     rw [hx,hy];exact h2
    ·cases h
   ·cases h
  ·cases h
 ·rename_i mm cs u
  split at h
  ·rename_i el hu
   obtain ⟨A,c,hx,_,_,hel⟩:=hx
   have hy:a.eval y = .slice none 0 0:=hy
   cases A with
   | none=>
    have h0:=nA (fun h=>let ⟨b,o,e,_⟩:=hel 0 h;⟨b,o,e⟩)
    split at h
    ·refine gJ (C:=C) (v:=.bool true) ho ?_ (hk _ _ (h.t h0) rfl)
     rw [hx,hy]
     simp [eqGuard,binOp,cJ hu]
    ·refine gJ (C:=C) (v:=.bool false) ho ?_ (hk _ _ (h.t h0) rfl)
     rw [hx,hy]
     simp [eqGuard,binOp,cJ hu]
    ·cases h
   | some p=>
    split at h
    ·refine gJ (C:=C) (v:=.bool false) ho ?_ (hk _ _ h.f rfl)
     rw [hx,hy]
     simp [eqGuard,binOp,cJ hu]
    ·refine gJ (C:=C) (v:=.bool true) ho ?_ (hk _ _ h.f rfl)
     rw [hx,hy]
     simp [eqGuard,binOp,cJ hu]
    ·cases h
  ·cases h
 ·cases h
theorem foldl_push (l:List UInt8):∀ r:ByteArray,(l.foldl (fun r x=>r.push x) r)=⟨r.data ++ l.toArray⟩:=by
 induction l with
 | nil=>intro r;simp
 | cons x l ih=>intro r;rw [List.foldl_cons,ih];simp [ByteArray.push]
theorem mB {v:Value} {u:U} (h:aR w Z (.sl false [.int .u8]) v u):(Conv.bytesToString v).run C.P w = .ok (.string ⟨(u.list.map fun x=>UInt8.ofNat x.int.toNat).toArray⟩) w:=by
 obtain ⟨A,c,rfl,_,_,hk⟩:=h
 cases A with
 | none=>
  have h0:u.list=[]:=by
   cases hl:u.list with
   | nil=>rfl
   | cons x l=>
    obtain ⟨b,o,hA,_⟩:=hk 0 (by simp [hl])
    cases hA
  rw [h0]
  rfl
 | some p=>
  have hcell:∀ j v,(u.list.map fun x=>Value.int .u8 x.int)[j]? = some v→w.cell? (p.add j)=some v:=by
   intro j v hj
   have hjl:j < u.list.length:=by
    have:=(List.getElem?_eq_some_iff.1 hj).1
    simpa using this
   obtain ⟨b,o,hA,_,⟨⟨v',hc,hr⟩,_⟩⟩:=hk j hjl
   injection hA with hA
   subst hA
   simp only [List.length_singleton,Nat.mul_one] at hc
   rw [bp,hc]
   have hr:v' = .int .u8 (U.at (dF false (U.at u.list j)) 0).int:=hr.1
   rw [hr,← hj]
   have:U.at u.list j=u.list[j]:=by
    have:∀ (l:List U) (j:Nat) (h:j < l.length),U.at l j=l[j]:=by
     intro l
     induction l with
     | nil=>intro j h;simp at h
     | cons x l ih=>intro j h;cases j with
      | zero=>rfl
      | succ j=>exact ih j (by simpa using h)
    exact this _ _ hjl
   simp [this,hjl]
  have hl:=run_loadCells_list (P:=C.P) w p (u.list.map fun x=>Value.int .u8 x.int) hcell
  rw [run_bytesToString w p u.list.length c (u.list.map U.int) (by
   rw [List.length_map] at hl
   rw [hl]
   simp)]
  congr 2
  have:=foldl_push (u.list.map fun x=>UInt8.ofNat x.int.toNat) ByteArray.empty
  rw [List.foldl_map] at this ⊢
  rw [this]
  simp
end
end Go.Den

namespace Go.Den
open Go Go.RowKit
theorem ln {w:World} {Z:Nat→Prop} {G:Nat→Value} (hG:∀ id,(G id).oneCell' = true) {s:SV} {v:Value} (h:fK s=true) (hs:ag w Z G s v):v.oneCell' = true:=by
 cases s with
 | val c u=>exact aR.one (c:=c) hs
 | agg cs=>cases h
 | nil=>have hs:v=_:=hs;subst hs;rfl
 | own id=>have hs:v=_:=hs;subst hs;exact hG id
 | ptr id off=>obtain ⟨b,_,rfl⟩:=hs;rfl
 | aptr id sz j off=>obtain ⟨b,n,c,_,rfl⟩:=hs;rfl
 | osl id j z=>cases h
 | rptr cs us=>obtain ⟨b,o,rfl,_⟩:=hs;rfl
 | nilp=>have hs:v=_:=hs;subst hs;rfl
 | tup l=>cases h
 | clo f l=>obtain ⟨vs,rfl,_⟩:=hs;rfl
 | mp id=>obtain ⟨b,_,rfl⟩:=hs;rfl
 | ifc t s=>obtain ⟨x,rfl,_⟩:=hs;rfl
 | nili=>have hs:v=_:=hs;subst hs;rfl
 | und=>cases h
 | unk=>cases h
theorem cr {v:Value} (h:v.oneCell' = true):v.cells = #[v]:=by cases v<;>first | rfl | cases h
theorem mA {w:World} {Z:Nat→Prop} {G:Nat→Value} (hG:∀ id,(G id).oneCell' = true):∀ {l:List SV} {vs:List Value},bN l=true→ab w Z G l vs→∀ v ∈ vs,v.oneCell' = true
 | [],vs,_,hs,v,hv=>by have hs:vs=[]:=hs;subst hs;cases hv
 | s :: l,vs,h,hs,v,hv=>by
  unfold bN at h
  split at h
  ·rename_i hc
   obtain ⟨x,t,rfl,hx,ht⟩:=hs
   rcases List.mem_cons.1 hv with rfl | hv
   ·exact ln hG hc hx
   ·exact mA hG h ht v hv
  ·cases h
theorem lz {w:World} {Z:Nat→Prop} {G:Nat→Value} (hG:∀ id,(G id).oneCell' = true) {s:SV} {v:Value} (h:bN (br s)=true) (hs:ag w Z G s v) :
  ab w Z G (br s) v.cells.toList∧∀ u ∈ v.cells.toList,u.oneCell' = true:=by
 have key:ab w Z G (br s) v.cells.toList:=by
  have one:fK s=true→ab w Z G [s] v.cells.toList:=fun hc=>by
   rw [cr (ln hG hc hs)]
   exact ⟨v,[],rfl,hs,rfl⟩
  cases s with
  | agg cs=>obtain ⟨vs,rfl,hr⟩:=hs;exact hr
  | tup l=>simp [br,bN,fK] at h
  | und=>simp [br,bN,fK] at h
  | unk=>simp [br,bN,fK] at h
  | val c u=>exact one rfl
  | nil=>exact one rfl
  | own id=>exact one rfl
  | ptr id off=>exact one rfl
  | aptr id sz j off=>exact one rfl
  | osl id j z=>simp [br,bN,fK] at h
  | rptr cs us=>exact one rfl
  | nilp=>exact one rfl
  | clo f l=>exact one rfl
  | mp id=>exact one rfl
  | ifc t s=>exact one rfl
  | nili=>exact one rfl
 exact ⟨key,mA hG h key⟩
theorem gv {w:World} {Z:Nat→Prop} {G:Nat→Value}:∀ l:List Value,ab w Z G (py l) l
 | []=>rfl
 | v :: r=>⟨v,r,rfl,n4 v,gv r⟩
theorem ab.patch {w:World} {Z:Nat→Prop} {G:Nat→Value} {l m:List SV} {vs us:List Value} (h:ab w Z G l vs) (k:ab w Z G m us) (off:Nat) :
  ab w Z G (patch l off m) (vs.take off ++ us ++ vs.drop (off + us.length)):=by
 unfold Den.patch
 rw [k.length]
 exact ((h.take off).app k).app (h.drop _)
theorem CG (vs:List Value):∀ (off i:Nat) (cells:Array Value),off + i + vs.length≤cells.size→
  ((vs.zipIdx i).foldl (fun cs x=>cs.setIfInBounds (off + x.2) x.1) cells).toList=cells.toList.take (off + i) ++ vs ++ cells.toList.drop (off + i + vs.length):=by
 induction vs with
 | nil=>intro off i cells _;simp
 | cons v r ih=>
  intro off i cells h
  simp only [List.length_cons] at h
  rw [List.zipIdx_cons,List.foldl_cons,ih off (i + 1) _ (by simp;omega)]
  have ho:off + i < cells.toList.length:=by simp;omega
  rw [Array.toList_setIfInBounds,show off + (i + 1)=off + i + 1 by omega,List.take_succ_eq_append_getElem (by simpa using ho)]
  simp only [List.length_cons]
  rw [List.take_set_of_le (Nat.le_refl _),List.getElem_set_self,List.drop_set_of_lt (by omega),show off + i + 1 + r.length=off + i + (r.length + 1) by omega]
  simp
theorem qZ (place:Nat→Option (Nat × Nat)) (cells:Array Value) (i off size:Nat) (v:Value) (rest:List (Nat × Value)) (hp:place i=some (off,size)) (hv:v.cells.size=size) (hl:off + size≤cells.size) :
  ∃ cells',Instr.fill place cells ((i,v) :: rest)=Instr.fill place cells' rest∧cells'.toList=cells.toList.take off ++ v.cells.toList ++ cells.toList.drop (off + v.cells.toList.length)∧cells'.size=cells.size:=by
 have hf:=CG v.cells.toList off 0 cells (by simp;omega)
 have heq:(v.cells.zipIdx.foldl (fun cs x=>cs.setIfInBounds (off + x.2) x.1) cells)=((v.cells.toList.zipIdx 0).foldl (fun cs x=>cs.setIfInBounds (off + x.2) x.1) cells):=by
  rw [← Array.foldl_toList,Array.toList_zipIdx]
 refine ⟨v.cells.zipIdx.foldl (fun cs x=>cs.setIfInBounds (off + x.2) x.1) cells,?_,?_,?_⟩
 ·have h1:¬ (v.cells.size≠size || off + v.cells.size > cells.size)=true:=by simp [hv];omega
  simp only [Instr.fill,hp]
  rw [if_neg h1]
 ·rw [heq,hf];simp
 ·have:=congrArg List.length hf
  rw [heq,← Array.length_toList,this]
  simp;omega
section
variable {P:Program} {w:World} {Z:Nat→Prop} {G:Nat→Value}
theorem j4:∀ (fs:List Field),kM P fs=true→∃ pl:List (Nat × Nat),fs.mapM (fun f=>(P.info? f.type).map fun i=>(f.offset,i.size))=some pl∧
  ∀ (i:Nat) (f:Field) (k:Nat),fs[i]? = some f→cI P f.type=some k→pl[i]? = some (f.offset,k)
 | [],_=>⟨[],rfl,fun i f k h _=>by simp at h⟩
 | f :: fs,h=>by
  unfold kM at h
  split at h
  ·rename_i k hk
   obtain ⟨pl,h1,h2⟩:=j4 fs h
   obtain ⟨ti,hi,rfl⟩:=pw hk
   refine ⟨(f.offset,ti.size) :: pl,by simp [hi,h1],fun i g k hg hk'=>?_⟩
   cases i with
   | zero=>simp at hg;subst hg;rw [hk] at hk';injection hk' with hk';simp [hk']
   | succ i=>exact h2 i g k (by simpa using hg) hk'
  ·cases h
def j7 (w:World) (Z:Nat→Prop) (G:Nat→Value):List (Nat × SV)→List (Nat × Value)→Prop
 | [],vs=>vs=[]
 | (i,s) :: r,vs=>∃ v t,vs=(i,v) :: t∧ag w Z G s v∧j7 w Z G r t
theorem lb (hG:∀ id,(G id).oneCell' = true) {fs:List Field} {pl:List (Nat × Nat)} (hpl:∀ (i:Nat) (f:Field) (k:Nat),fs[i]? = some f→cI P f.type=some k→pl[i]? = some (f.offset,k)) :
  ∀ {ps:List (Nat × SV)} {cells cs:List SV} {vs:List (Nat × Value)} {zc:Array Value},fP P fs ps cells=some cs→j7 w Z G ps vs→ab w Z G cells zc.toList→
   ∃ out,Instr.fill (pl.toArray[·]?) zc vs=some out∧ab w Z G cs out.toList
 | [],cells,cs,vs,zc,h,hp,hz=>by
  have hp:vs=[]:=hp
  subst hp
  simp only [fP,Option.some.injEq] at h
  subst h
  exact ⟨zc,rfl,hz⟩
 | (i,s) :: r,cells,cs,vs,zc,h,hp,hz=>by
  obtain ⟨v,t,rfl,hv,ht⟩:=hp
  unfold fP at h
  split at h
  ·rename_i f hf
   split at h
   ·rename_i k hk
    obtain ⟨hb,h⟩:=lU h
    simp only [Bool.and_eq_true] at hb
    obtain ⟨⟨hb1,hb2⟩,hb3⟩:=hb
    obtain ⟨hr,_⟩:=lz hG hb3 hv
    have hn:v.cells.size=k:=by
     have:=hr.length;rw [Nat.eq_of_beq_eq_true hb1] at this;simpa using this.symm
    have hle:f.offset + k≤zc.size:=by have:=hz.length;have:=Nat.le_of_ble_eq_true hb2;simp at *;omega
    obtain ⟨zc',h1,h2,h3⟩:=qZ (pl.toArray[·]?) zc i f.offset k v t (by simpa using hpl i f k hf hk) hn hle
    obtain ⟨out,h4,h5⟩:=lb hG hpl (zc:=zc') h ht (by rw [h2];exact hz.patch hr f.offset)
    exact ⟨out,h1.trans h4,h5⟩
   ·cases h
  ·cases h
theorem kZ (hG:∀ id,(G id).oneCell' = true) {t:TypeId} {fs:Array Field} {ps:List (Nat × SV)} {z cs:List SV} {vs:Array (Nat × Value)} (hu:P.underlying t=some (.struct fs)) (hz:zeroCells P t=some z) (hs:kM P fs.toList=true)
  (h:fP P fs.toList ps z=some cs) (hp:j7 w Z G ps vs.toList):∃ out,(∀ w':World,(Instr.build t vs).run P w' = .ok (.agg out) w')∧ab w Z G cs out.toList:=by
 unfold zeroCells at hz
 split at hz
 ·rename_i it hi
  split at hz
  ·rename_i zv hzv
   injection hz with hz
   subst hz
   obtain ⟨pl,h1,h2⟩:=j4 fs.toList hs
   obtain ⟨out,h3,h4⟩:=lb hG h2 (zc:=zv.cells) h hp (gv _)
   refine ⟨out,fun w'=>run_build w' t vs out ?_,h4⟩
   unfold Program.built
   simp only [hi,hu,hzv,h1,h3]
  ·cases hz
 ·cases hz
theorem iX {t:TypeId} {cs:List Ct} (h:Cs P t=some (false,cs)):∃ c,cs=[c]:=by
 unfold Cs cts at h
 split at h<;>first | (cases h;done) | (cases h;exact ⟨_,rfl⟩) | skip
 ·split at h
  ·cases h;exact ⟨_,rfl⟩
  ·cases h
 ·split at h<;>cases h
theorem aX.elem {m:Bool} {cs:List Ct} {vs:List Value} {us:List U} (hm:m=false→∃ c,cs=[c]) (h:aX w Z cs vs us):aX w Z cs vs (dF m (ofElem m us)):=by
 cases m with
 | true=>exact h
 | false=>
  obtain ⟨c,rfl⟩:=hm rfl
  obtain ⟨v,t,rfl,hr,ht⟩:=h
  exact ⟨v,t,rfl,hr,ht⟩
theorem mO (hG:∀ id,(G id).oneCell' = true) {m:Bool} {cs:List Ct} (hm:m=false→∃ c,cs=[c]):∀ {ps:List (Nat × SV)} {xs ys:List U} {vs:List (Nat × Value)} {zc:Array Value},fk m cs ps xs=some ys→j7 w Z G ps vs→ah w Z m cs xs zc.toList→
   (∀ i s,(i,s) ∈ ps→bN (br s)=true)→∃ out,Instr.fill (fun i=>some (i * cs.length,cs.length)) zc vs=some out∧ah w Z m cs ys out.toList∧ys.length=xs.length∧out.size=zc.size
 | [],xs,ys,vs,zc,h,hp,hz,_=>by
  have hp:vs=[]:=hp
  subst hp
  simp only [fk,Option.some.injEq] at h
  subst h
  exact ⟨zc,rfl,hz,rfl,rfl⟩
 | (i,s) :: r,xs,ys,vs,zc,h,hp,hz,ha=>by
  obtain ⟨v,t,rfl,hv,ht⟩:=hp
  unfold fk at h
  split at h
  ·rename_i us hus
   obtain ⟨hb,h⟩:=lU h
   have hb:i < xs.length:=by simpa [Nat.blt_eq] using hb
   obtain ⟨hr,_⟩:=lz hG (ha i s (by simp)) hv
   have hl:aX w Z cs v.cells.toList us:=dH hus hr
   have hn:v.cells.size=cs.length:=by have:=hl.length;simpa using this
   have htot:zc.size=xs.length * cs.length:=by have:=hz.length;simpa using this
   have hle:i * cs.length + cs.length≤zc.size:=by
    rw [htot,← Nat.succ_mul];exact Nat.mul_le_mul_right _ hb
   obtain ⟨zc',h1,h2,h3⟩:=qZ (fun i=>some (i * cs.length,cs.length)) zc i (i * cs.length) cs.length v t rfl hn hle
   obtain ⟨p,q,r',he,hpl,hq⟩:=hz.at_ i hb
   have hql:=hq.length
   rw [he] at hz
   have hset:=ah.set_ (k:=i) (x:=ofElem m us) hz hb hpl hql (aX.elem hm hl)
   have hz':ah w Z m cs (xs.set i (ofElem m us)) zc'.toList:=by
    rw [h2,he,← hpl,hl.length,← hql]
    simpa [List.append_assoc] using hset
   obtain ⟨out,h4,h5,h6,h7⟩:=mO hG hm h ht hz' (fun j s' hj=>ha j s' (by simp [hj]))
   exact ⟨out,h1.trans h4,h5,by simpa using h6,h7.trans h3⟩
  ·cases h
end
end Go.Den

namespace Go.Den
open Go Go.RowKit
theorem od {σ:St} {l:List Operand} {s x:SV} (h:evs σ l=[s,x]):∃ p q,l=[p,q]∧s=σ.ev p∧x=σ.ev q:=by
 match l with
 | []=>simp [evs] at h
 | [_]=>simp [evs] at h
 | [p,q]=>simp [evs] at h;exact ⟨p,q,rfl,h.1.symm,h.2.symm⟩
 | _ :: _ :: _ :: _=>simp [evs] at h
theorem ze {σ:St} {l:List Operand} {s:SV} (h:evs σ l=[s]):∃ p,l=[p]∧s=σ.ev p:=by
 match l with
 | []=>simp [evs] at h
 | [p]=>simp [evs] at h;exact ⟨p,rfl,h.symm⟩
 | _ :: _ :: _=>simp [evs] at h
theorem cW {P:Program} {t e:TypeId} (h:ja P t=some e):P.underlying t=some (.slice e):=by
 unfold ja at h
 split at h
 ·rename_i e' hu;injection h with h;subst h;exact hu
 ·cases h
theorem bF {P:Program} {e:TypeId} (h:bE P e=true):∃ i m cs z,P.info? e=some i∧Cs P e=some (m,cs)∧i.zero=some z∧i.bytes≤128∧i.size=cs.length∧z.cells.size=cs.length∧0 < cs.length:=by
 unfold bE at h
 split at h
 ·rename_i i m cs hi hc
  split at h
  ·rename_i z hz
   simp only [Bool.and_eq_true] at h
   obtain ⟨⟨⟨h1,h2⟩,h3⟩,h4⟩:=h
   exact ⟨i,m,cs,z,hi,hc,hz,Nat.le_of_ble_eq_true h1,Nat.eq_of_beq_eq_true h2,Nat.eq_of_beq_eq_true h3,by simpa [Nat.blt_eq] using h4⟩
  ·cases h
 ·cases h
theorem cY {P:Program} {t:TypeId} {k:Nat} (h:lx P t k=true):cI P t=some k:=by
 unfold lx at h
 split at h
 ·rename_i j hj;rw [hj,Nat.eq_of_beq_eq_true h]
 ·cases h
theorem uW {s:SV} (h:isNil s=true):s = .nil:=by cases s<;>first | rfl | cases h
theorem dN:∀ (l:List U) (j:Nat) (h:j < l.length),U.at l j=l[j]
 | _ :: _,0,_=>rfl
 | _ :: l,j + 1,h=>dN l j (by simpa using h)
section
variable {P:Program} {Θ:Anc} {n:Nat} {σ:St} {a:Act} {w:World} {Z:Nat→Prop} {G:Nat→Value}
theorem x7 (S:Sim P Θ n σ a w Z G) {m:Bool} {cs:List Ct} {str:Bool} {tx:TypeId} {s:SV} {v:Value} {ys:List U} (hs:ag w Z G s v) (hk:if str=true then P.underlying tx=some .string else ∃ e,P.underlying tx=some (.slice e))
  (h:source P σ.objs m cs str s=some ys):∃ news,ah w Z m cs ys news∧Src P cs.length tx v ys.length news w:=by
 cases str with
 | true=>
  simp only [if_true] at hk
  unfold source at h
  simp only at h
  split at h
  ·rename_i u
   split at h
   ·rename_i hb
    have hb:=Ct.beq_eq hb
    cases hb
    injection h with h
    subst h
    have hs:v = .string u.str:=hs.1
    subst hs
    have hlen:(u.str.data.toList.map fun b=>U.i (b.toNat:Int)).length=u.str.size:=by simp
    refine ⟨byteCells u.str,?_,?_⟩
    ·unfold byteCells
     generalize u.str.data.toList=l
     induction l with
     | nil=>exact rfl
     | cons b l ih=>exact ⟨[.int .u8 b.toNat],l.map _,rfl,⟨_,[],rfl,⟨rfl,by show (0:Int)≤_;exact Int.natCast_nonneg _,by show ((b.toNat:Nat):Int)≤2 ^ 8 - 1;have:=b.toNat_lt;omega⟩,rfl⟩,ih⟩
    ·rw [hlen]
     exact Src.ofString w hk u.str
   ·cases h
  ·cases h
 | false=>
  simp only [if_false,Bool.false_eq_true] at hk
  obtain ⟨e',hk⟩:=hk
  unfold source at h
  simp only at h
  split at h
  ·rename_i u hu
   injection h with h
   subst h
   have plain:aR w Z (.sl m cs) v u→∃ news,ah w Z m cs u.list news∧Src P cs.length tx v u.list.length news w:=by
    rintro ⟨A,c,rfl,hc,_,hk'⟩
    cases A with
    | none=>
     have h0:u.list=[]:=by
      cases hl:u.list with
      | nil=>rfl
      | cons x l=>
       obtain ⟨b,o,hA,_⟩:=hk' 0 (by simp [hl])
       cases hA
     rw [h0]
     exact ⟨[],rfl,Src.ofNil w hk c⟩
    | some p=>
     cases hl:u.list with
     | nil=>exact ⟨[],rfl,Src.ofSlice w hk p 0 c [] (by simp) (fun j v hj=>by simp at hj) (fun v hv=>by cases hv)⟩
     | cons x l=>
      rw [← hl]
      obtain ⟨b,o,hA,_⟩:=hk' 0 (by simp [hl])
      injection hA with hA
      subst hA
      obtain ⟨vs,h1,h2⟩:=gq (us:=u.list) (o:=o) (b:=b) (fun k hkk=>by
       obtain ⟨b',o',hA,_,hr⟩:=hk' k hkk
       injection hA with hA
       injection hA with hb ho
       subst hb ho
       exact hr)
      exact ⟨vs,h1,Src.ofSlice w hk ⟨b,o,none⟩ u.list.length c vs h1.length (fun j v hj=>by rw [bp];exact h2 j v hj) h1.one⟩
   unfold toU at hu
   split at hu
   ·rename_i id
    split at hu
    ·rename_i m1 cs1 e xs heq ho
     split at hu
     ·rename_i m' cs' hcs
      split at hu
      ·rename_i hb
       have hb:=Ct.beq_eq hb
       cases hb
       cases heq
       injection hu with hu
       subst hu
       obtain ⟨m2,cs2,vs,h1,h2,h3⟩:=S.obj id _ ho
       rw [hcs] at h1
       cases h1
       have hs:v=G id:=hs
       subst hs
       refine ⟨vs,h3,?_⟩
       show Src P _ tx (G id) xs.length vs w
       rcases h2.2 with ⟨h4,h5⟩ | ⟨g,cap,cur,h4,_⟩
       ·have hx:xs=[]:=List.eq_nil_of_length_eq_zero h5
        subst hx
        have hvs:vs=[]:=h3
        subst hvs
        rw [h4]
        exact Src.ofNil w hk 0
       ·have hc:=World.ownsRow.cells h2 (g:=g) (by rw [h4];rfl)
        rw [h4]
        exact Src.ofSlice w hk ⟨g,0,none⟩ xs.length cap vs h3.length hc h3.one
      ·cases hu
     ·cases hu
    ·cases hu
   ·exact plain (dM hu hs)
  ·cases h
theorem cX:∀ {ids:List Nat} {σ σ':St} {Z:Nat→Prop},Sim P Θ n σ a w Z G→σ.freezes P ids=some σ'→∃ Z',Sim P Θ n σ' a w Z' G
 | [],σ,σ',Z,S,h=>by simp only [St.freezes,Option.some.injEq] at h;subst h;exact ⟨Z,S⟩
 | id :: r,σ,σ',Z,S,h=>by
  unfold St.freezes at h
  split at h
  ·rename_i e xs ho
   split at h
   ·rename_i m cs hcs
    obtain ⟨m2,cs2,vs,h1,h2,h3⟩:=S.obj id _ ho
    rw [hcs] at h1
    cases h1
    have hx:aR w (fun b=>Z b∨blk (G id)=some b) (.sl m cs) (G id) (.l xs):=kJ (fun _ hb=>Or.inl hb) (fun b hb=>Or.inr hb) h2 h3
    exact cX (S.freeze (x:=.val (.sl m cs) (.l xs)) ho hx fun b hb=>qV (S.obj id _ ho) hb) h
   ·cases h
  ·cases h
  ·cases h
  ·exact cX S h
theorem iV:∀ {es:List (Option TypeId)} {id:Nat} {acc l cs:List SV} {σ τ:St} {G:Nat→Value} {vs us:List Value},Sim P Θ n σ a w Z G→owned P id es acc l σ=some (cs,τ)→ab w Z G acc vs→ab w Z G l us→
   ∃ G',Sim P Θ n τ a w Z G'∧ab w Z G' cs (vs ++ us)
 | [],id,acc,l,cs,σ,τ,G,vs,us,S,h,ha,hl=>by
  simp only [owned,Option.some.injEq,Prod.mk.injEq] at h
  obtain ⟨rfl,rfl⟩:=h
  exact ⟨G,S,ha.app hl⟩
 | e :: es,id,acc,[],cs,σ,τ,G,vs,us,S,h,ha,hl=>by
  have hl:us=[]:=hl
  subst hl
  cases e<;>(simp only [owned,Option.some.injEq,Prod.mk.injEq] at h;obtain ⟨rfl,rfl⟩:=h;exact ⟨G,S,by simpa using ha⟩)
 | none :: es,id,acc,s :: l,cs,σ,τ,G,vs,us,S,h,ha,hl=>by
  obtain ⟨v,t,rfl,hv,ht⟩:=hl
  unfold owned at h
  obtain ⟨G',S',hr⟩:=iV S h (ha.app (m:=[s]) (us:=[v]) ⟨v,[],rfl,hv,rfl⟩) ht
  exact ⟨G',S',by simpa using hr⟩
 | some e :: es,id,acc,s :: l,cs,σ,τ,G,vs,us,S,h,ha,hl=>by
  obtain ⟨v,t,rfl,hv,ht⟩:=hl
  unfold owned at h
  split at h
  ·rename_i hn
   have:=uW hn
   subst this
   have hv:v = .slice none 0 0:=hv
   subst hv
   split at h
   ·rename_i hsm
    obtain ⟨i,m,ds,z,h1,h2,h3,h4,h5,h6,h7⟩:=bF hsm
    have T:nz w w Z Z G (fun i=>if i=2 * id then (Value.slice none 0 0) else G i) (2 * id) .unk:={ sub:=fun _ h=>h,same:=fun _ _=>rfl,other:=fun i hi=>if_neg hi,its:=trivial }
    have S':=S.newO (id:=2 * id) (o:=.arr e []) (v:=.slice none 0 0) (row:=none) (w':=w) (by omega) ⟨rfl,rfl,rfl,Nat.le_refl _,fun _ _ _=>rfl⟩ (fun b hb=>by cases hb) (fun b hb=>by cases hb)
     ⟨m,ds,[],h2,by simp only [if_true];exact World.ownsRow_nil w 0 e ds.length,rfl⟩
    obtain ⟨G',S'',hr⟩:=iV S' h ((ab.sub T _ _ ha).app (m:=[.own (2 * id)]) (us:=[.slice none 0 0]) ⟨_,[],rfl,by show _=_;simp,rfl⟩) (ab.sub T _ _ ht)
    exact ⟨G',S'',by simpa using hr⟩
   ·cases h
  ·obtain ⟨G',S',hr⟩:=iV S h (ha.app (m:=[s]) (us:=[v]) ⟨v,[],rfl,hv,rfl⟩) ht
   exact ⟨G',S',by simpa using hr⟩
end
end Go.Den

namespace Go.Den
open Go Go.RowKit
theorem aX.vals {w:World} {Z:Nat→Prop} {G:Nat→Value}:∀ {cs:List Ct} {vs:List Value} {us:List U},aX w Z cs vs us→ab w Z G (vals cs us) vs
 | [],_,_,h=>h
 | _ :: _,_,_,h=>by
  obtain ⟨v,t,rfl,hr,ht⟩:=h
  exact ⟨v,t,rfl,hr,aX.vals ht⟩
theorem ab.repL {w:World} {Z:Nat→Prop} {G:Nat→Value}:∀ {cs:List Ct} {vs:List Value} {us:List U},ab w Z G (Den.vals cs us) vs→aX w Z cs vs us
 | [],_,_,h=>h
 | _ :: _,_,_,h=>by
  obtain ⟨v,t,rfl,hr,ht⟩:=h
  exact ⟨v,t,rfl,hr,ab.repL ht⟩
section
variable {P:Program} {w:World} {Z Zc:Nat→Prop} {G G':Nat→Value}
theorem pY {f:Ct→SV→Option U} (hf:∀ c s u v,f c s=some u→ag w Z G s v→aR w Zc c v u):∀ {cs:List Ct} {l:List SV} {us:List U} {vs:List Value},fE f cs l=some us→ab w Z G l vs→aX w Zc cs vs us
 | [],[],us,vs,h,hs=>by
  have hs:vs=[]:=hs
  subst hs
  rfl
 | [],_ :: _,us,vs,h,hs=>by simp [fE] at h
 | _ :: _,[],us,vs,h,hs=>by simp [fE] at h
 | c :: cs,s :: l,us,vs,h,hs=>by
  unfold fE at h
  split at h
  ·rename_i u us' h1 h2
   injection h with h
   subst h
   obtain ⟨v,t,rfl,hv,ht⟩:=hs
   exact ⟨v,t,rfl,hf _ _ _ _ h1 hv,pY hf h2 ht⟩
  ·cases h
theorem uu {f:Ct→SV→Option U} (hf:∀ c s u v,f c s=some u→ag w Z G s v→aR w Zc c v u) {t:TypeId} {s:SV} {us:List U} {v:Value} (h:flat P f t s=some us) (hs:ag w Z G s v) :
  ∃ s',gk P t us=some s'∧ag w Zc none_ s' v:=by
 unfold flat at h
 split at h
 ·rename_i cs hcs
  split at h
  ·rename_i l
   obtain ⟨vs,rfl,hr⟩:=hs
   exact ⟨.agg (vals cs us),by simp [gk,hcs],⟨vs,rfl,aX.vals (pY hf h hr)⟩⟩
  ·cases h
 ·rename_i cs hcs
  obtain ⟨c,rfl⟩:=iX hcs
  obtain ⟨v',t',hv,hr,_⟩:=pY hf h (vs:=[v]) ⟨v,[],rfl,hs,rfl⟩
  cases hv
  exact ⟨.val c (U.at us 0),by simp [gk,hcs],hr⟩
 ·cases h
theorem nw {f:Ct→SV→Option U} (hf:∀ c s u v,f c s=some u→ag w Z G s v→aR w Zc c v u):∀ {ts:List TypeId} {l:List SV} {us:List (List U)} {vs:List Value},ij P f ts l=some us→ab w Z G l vs→
  ∃ svs,aU P ts us=some svs∧ab w Zc none_ svs vs
 | [],[],us,vs,h,hs=>by
  simp only [ij,Option.some.injEq] at h
  subst h
  exact ⟨[],rfl,hs⟩
 | [],_ :: _,us,vs,h,hs=>by simp [ij] at h
 | _ :: _,[],us,vs,h,hs=>by simp [ij] at h
 | t :: ts,s :: l,us,vs,h,hs=>by
  unfold ij at h
  split at h
  ·rename_i u us' h1 h2
   injection h with h
   subst h
   obtain ⟨v,t,rfl,hv,ht⟩:=hs
   obtain ⟨s',h3,h4⟩:=uu hf h1 hv
   obtain ⟨svs,h5,h6⟩:=nw hf h2 ht
   exact ⟨s' :: svs,by simp [aU,h3,h5],⟨v,_,rfl,h4,h6⟩⟩
  ·cases h
theorem lL {t:TypeId} {us:List U} {s:SV} {v:Value} (h:gk P t us=some s) (hs:ag w Z G s v):ag w Z G' s v:=by
 unfold gk at h
 split at h
 ·injection h with h;subst h
  obtain ⟨vs,rfl,hr⟩:=hs
  exact ⟨vs,rfl,aX.vals (ab.repL hr)⟩
 ·injection h with h;subst h;exact hs
 ·cases h
theorem jY:∀ {ts:List TypeId} {us:List (List U)} {svs:List SV} {vs:List Value},aU P ts us=some svs→ab w Z G svs vs→ab w Z G' svs vs
 | [],[],svs,vs,h,hs=>by simp only [aU,Option.some.injEq] at h;subst h;exact hs
 | [],_ :: _,svs,vs,h,hs=>by simp [aU] at h
 | _ :: _,[],svs,vs,h,hs=>by simp [aU] at h
 | t :: ts,u :: us,svs,vs,h,hs=>by
  unfold aU at h
  split at h
  ·rename_i s l h1 h2
   injection h with h
   subst h
   obtain ⟨v,r,rfl,hv,hr⟩:=hs
   exact ⟨v,r,rfl,lL h1 hv,jY h2 hr⟩
  ·cases h
theorem nQ {Z':Nat→Prop} {c:Ct} {v:Value} {u:U} (h:jo c=true) (hr:aR w Z c v u):aR w Z' c v u:=by
 cases c<;>first | exact hr | cases h
theorem l5 {Z':Nat→Prop}:∀ {cs:List Ct} {vs:List Value} {us:List U},ek cs=true→aX w Z cs vs us→aX w Z' cs vs us
 | [],_,_,_,h=>h
 | c :: cs,vs,us,hc,h=>by
  unfold ek at hc
  split at hc
  ·rename_i h1
   obtain ⟨v,t,rfl,hr,ht⟩:=h
   exact ⟨v,t,rfl,nQ h1 hr,l5 hc ht⟩
  ·cases hc
theorem kA {Z':Nat→Prop}:∀ {ts:List TypeId} {us:List (List U)} {svs:List SV} {vs:List Value},oC P ts=true→aU P ts us=some svs→ab w Z none_ svs vs→ab w Z' none_ svs vs
 | [],[],svs,vs,_,h,hs=>by simp only [aU,Option.some.injEq] at h;subst h;exact hs
 | [],_ :: _,svs,vs,_,h,hs=>by simp [aU] at h
 | _ :: _,[],svs,vs,_,h,hs=>by simp [aU] at h
 | t :: ts,u :: us,svs,vs,hsc,h,hs=>by
  unfold aU at h
  split at h
  ·rename_i s l h1 h2
   injection h with h
   subst h
   obtain ⟨v,r,rfl,hv,hr⟩:=hs
   unfold oC at hsc
   split at hsc
   ·rename_i m cs hcs
    split at hsc
    ·rename_i hcs'
     refine ⟨v,r,rfl,?_,kA hsc h2 hr⟩
     unfold gk at h1
     rw [hcs] at h1
     split at h1
     ·rename_i heq
      cases heq
      injection h1 with h1;subst h1
      obtain ⟨vs',rfl,hr'⟩:=hv
      exact ⟨vs',rfl,aX.vals (l5 hcs' (ab.repL hr'))⟩
     ·rename_i c heq
      cases heq
      injection h1 with h1;subst h1
      unfold ek at hcs'
      split at hcs'
      ·rename_i hc
       exact nQ hc hv
      ·cases hcs'
     ·cases h1
    ·cases hsc
   ·cases hsc
  ·cases h
theorem iE.any {ts:List TypeId} {us:List (List U)} {svs:List SV} {v:Value} (h:aU P ts us=some svs) (hr:iE w Z svs v):(∃ s,svs=[s]∧ag w Z G s v)∨((∀ s,svs≠[s])∧ag w Z G (.tup svs) v):=by
 unfold iE at hr
 split at hr
 ·rename_i s
  refine .inl ⟨s,rfl,?_⟩
  obtain ⟨v',t,hv,hs,_⟩:=jY (G:=none_) (G':=G) (vs:=[v]) h ⟨v,[],rfl,hr,rfl⟩
  cases hv
  exact hs
 ·rename_i hne
  obtain ⟨vs,rfl,hs⟩:=hr
  exact .inr ⟨fun s hs'=>hne s hs',⟨vs,rfl,jY h hs⟩⟩
end
section
variable {P:Program} {Θ:Anc} {n:Nat} {σ:St} {a:Act} {w:World} {Z:Nat→Prop} {G:Nat→Value}
theorem sI (S:Sim P Θ n σ a w Z G) {c:Ct} {s:SV} {u:U} {v:Value} (h:toU P σ.objs c s=some u) (hs:ag w Z G s v):aR w (fun b=>Z b∨Live σ G b) c v u:=by
 unfold toU at h
 split at h
 ·rename_i id
  split at h
  ·rename_i m1 cs1 e xs ho
   split at h
   ·rename_i m' cs' hcs
    split at h
    ·rename_i hb
     have hb:=Ct.beq_eq hb
     cases hb
     injection h with h
     subst h
     obtain ⟨m2,cs2,vs,h1,h2,h3⟩:=S.obj id _ ho
     rw [hcs] at h1
     cases h1
     have hs:v=G id:=hs
     subst hs
     exact kJ (fun _ hb=>Or.inl hb) (fun b hb=>Or.inr ⟨id,_,_,ho,hb⟩) h2 h3
    ·cases h
   ·cases h
  ·cases h
 ·exact aR.mono ⟨fun _ h=>Or.inl h,fun _ _=>rfl⟩ _ _ _ (dM h hs)
theorem Sim.evs_rep (S:Sim P Θ n σ a w Z G):∀ xs:List Operand,ab w Z G (evs σ xs) (xs.map a.eval)
 | []=>rfl
 | x :: xs=>⟨a.eval x,_,rfl,S.ev x,S.evs_rep xs⟩
theorem zh {C:Ctx} (hC:C.Ok) {o:Oper} {K:Act→World→Prop} {Q:Exit→Act→World→Prop} {k:St→Prop} (S:Sim C.P Θ n σ a w Z G) (hd:∀ t,o.dst=some t→t < n)
  (hk:∀ σ' a' w' Z' G',k σ'→Sim C.P Θ n σ' a' w' Z' G'→K a' w')
  {f:FuncId} {fn:Func} {cf:Operand} {args:Array Operand} {ts:Array TypeId} (ho:o.op = .call { callee:=.value cf,args:=args,argTypes:=ts }) (hcf:a.eval cf = .func (.func f) #[] #[]) (hf:C.P.funcs[f]? = some fn)
  {g:Ct→SV→Option U} {Zc:Nat→Prop} (hg:∀ c s u v,g c s=some u→ag w Z G s v→aR w Zc c v u) (hZc:∀ b,Zc b→b < w.heap.size)
  (hres:∀ rs svs w' v Z',aU C.P fn.resultTypes.toList rs=some svs→iE w' Z' svs v→(∀ b,Z' b→Zc b∨(w.heap.size≤b∧Plain w' b))→(∀ b,Z' b→b < w'.heap.size)→(∀ b,Zc b→Z' b)→∃ Z'',(∀ b,Z'' b→Z b∨(w.heap.size≤b∧Plain w' b))∧(∀ b,Z b→Z'' b)∧(∀ b,Z'' b→b < w'.heap.size)∧iE w' Z'' svs v)
  (h:lX C g o.dst f fn args.toList σ k):o.wp C.P a w K Q:=by
 unfold lX at h
 split at h
 ·cases h
 rename_i us hus
 split at h
 ·cases h
 rename_i p rs hrs
 obtain ⟨hp,h⟩:wh p True∧(match aU C.P fn.resultTypes.toList rs with | none=>False | some [v]=>k (bS σ o.dst v) | some vs=>k (bS σ o.dst (.tup vs))):=by
  generalize aU C.P fn.resultTypes.toList rs=q at h ⊢
  rcases q with _ | _ | ⟨v,_ | ⟨v2,r⟩⟩
  ·exact h.elim
  ·cases p with
   | none=>exact ⟨trivial,h⟩
   | some p=>exact ⟨⟨h.1,trivial⟩,h.2⟩
  ·cases p with
   | none=>exact ⟨trivial,h⟩
   | some p=>exact ⟨⟨h.1,trivial⟩,h.2⟩
  ·cases p with
   | none=>exact ⟨trivial,h⟩
   | some p=>exact ⟨⟨h.1,trivial⟩,h.2⟩
 obtain ⟨hbody,hname,hcalls⟩:=hC.fns f fn us p rs hf hrs hp
 have hc:=hcalls w Zc (args.toList.map a.eval) hZc (j8 hus) (nw hg hus (S.evs_rep _))
 unfold Oper.wp execOp
 have hrun:(do let d ← resolve a.eval { callee:=.value cf,args:=args,argTypes:=ts } o.type;invoke d.target d.args:Sem Next).run C.P w = .ok (.enter f (args.toList.map a.eval).toArray) w:=by
  have harr:args.map a.eval=(args.toList.map a.eval).toArray:=by apply Array.ext';simp
  have hn:¬ fn.name = "runtime.NumGoroutine" := by simpa using hname
  have hb:¬ fn.body=none:=by intro e;rw [e] at hbody;cases hbody
  simp [resolve,hcf,Deferred.ofValue,invoke,callFunc,hf,hn,hb,harr]
 simp only [ho,hrun,Oper.upon]
 refine hc.mono fun e w' ⟨v,Z',he,hfut,hz1,hz2,hz3,svs,hsv,hrr⟩=>?_
 subst he
 obtain ⟨Z'',hy1,hy2,hy3,hrr'⟩:=hres rs svs w' v Z' hsv hrr hz2 hz3 hz1
 have hblk:∀ b,b < w.heap.size→w'.heap[b]? = w.heap[b]?:=fun b hb=>hfut.block b hb (fun x=>x)
 have hK:Stays w w' Z Z'':=⟨hy2,fun b hb=>hblk b (S.lt b hb)⟩
 have S':Sim C.P Θ n σ a w' Z'' G:=
  {size:=S.size,calm:=S.calm
   slot:=fun t=>ag.mono hK _ _ (S.slot t)
   obj:=fun id o' ho'=>cg.mono hK (fun b hb=>hblk b (cg.lt S ho' hb)) (S.obj id o' ho')
   sep:=S.sep
   free:=fun id o' b ho' hb=>⟨fun hz=>by
    rcases hy1 b hz with h1 | h1
    ·exact (S.free id o' b ho' hb).1 h1
    ·have h1:=h1.1;have:=cg.lt S ho' hb;omega,(S.free id o' b ho' hb).2⟩
   keep:=S.keep
   nlt:=S.nlt
   lt:=hy3
   fut:=S.fut.trans hfut (fun _ h=>h) (fun _ _ h=>h.elim)
   new:=fun b hb=>by
    rcases hy1 b hb with h1 | h1
    ·exact S.new b h1
    ·exact .inr (.inr (.inr (Nat.le_trans S.fut.size h1.1)))
   sub:=fun b hb=>hy2 b (S.sub b hb)
   flat:=S.flat
   odd:=S.odd
   row:=fun b hb=>by
    rcases hy1 b hb with h1 | h1
    ·exact (S.row b h1).imp (fun h=>h) fun h=>h.of (hK.same b h1)
    ·exact .inr h1.2 }
 rw [hsv] at h
 rcases iE.any (G:=G) hsv hrr' with ⟨s,rfl,hs⟩ | ⟨hne,hs⟩
 ·exact hk _ _ _ _ _ h (S'.put hs hd)
 ·split at h
  ·exact h.elim
  ·rename_i v' heq;exact absurd (Option.some.inj heq) (hne v')
  ·rename_i vs' _ heq
   have:=Option.some.inj heq
   subst this
   exact hk _ _ _ _ _ h (S'.put hs hd)
end
end Go.Den

namespace Go.Den
open Go Go.RowKit
theorem i6 {P:Program} {Θ:Anc} {n:Nat} {σ:St} {a:Act} {w:World} {Z:Nat→Prop} {G:Nat→Value} (S:Sim P Θ n σ a w Z G) :
  ∀ ps:List (Nat × Operand),j7 w Z G (uq σ ps) (ps.map fun x=>(x.1,a.eval x.2))
 | []=>rfl
 | (_,x) :: r=>⟨a.eval x,_,rfl,S.ev x,i6 S r⟩
theorem c3:∀ {cs:List Ct} {l:List SV} {us:List U},fE cQ cs l=some us→bN l=true
 | [],[],_,_=>rfl
 | [],_ :: _,_,h=>by simp [fE] at h
 | _ :: _,[],_,h=>by simp [fE] at h
 | c :: cs,s :: l,us,h=>by
  unfold fE at h
  split at h
  ·rename_i u us' h1 h2
   unfold bN
   have:fK s=true:=by
    unfold cQ at h1
    split at h1<;>first | rfl | cases h1
   rw [this]
   exact c3 h2
  ·cases h
theorem jT {m:Bool} {cs:List Ct}:∀ {ps:List (Nat × SV)} {xs ys:List U},fk m cs ps xs=some ys→∀ i s,(i,s) ∈ ps→bN (br s)=true
 | [],_,_,_,i,s,hm=>by cases hm
 | (j,v) :: r,xs,ys,h,i,s,hm=>by
  unfold fk at h
  split at h
  ·rename_i us hus
   obtain ⟨_,h⟩:=lU h
   rcases List.mem_cons.1 hm with hm | hm
   ·cases hm;exact c3 hus
   ·exact jT h i s hm
  ·cases h
theorem jm {P:Program} {w:World} {Z:Nat→Prop} {e:TypeId} {z:U} (h:gV P e=some z):∃ i m cs zv,P.info? e=some i∧i.zero=some zv∧Cs P e=some (m,cs)∧aX w Z cs zv.cells.toList (dF m z):=by
 unfold gV at h
 split at h
 ·rename_i zc m cs hz hcs
  split at h
  ·rename_i us hus
   injection h with h
   subst h
   unfold zeroCells at hz
   split at hz
   ·rename_i i hi
    split at hz
    ·rename_i zv hzv
     injection hz with hz
     subst hz
     refine ⟨i,m,cs,zv,hi,hzv,hcs,aX.elem (fun hm=>by subst hm;exact iX hcs) ?_⟩
     exact dH (G:=none_) hus (gv _)
    ·cases hz
   ·cases hz
  ·cases h
 ·cases h
theorem gP (z:Array Value) (hz:0 < z.size):∀ k:Nat,(madeCells z (k * z.size)).toList=(List.replicate k z.toList).flatten
 | 0=>by simp [madeCells]
 | k + 1=>by
  have ih:=gP z hz k
  rw [List.replicate_succ',List.flatten_append,← ih]
  simp only [madeCells,Array.toList_map,Array.toList_range,Nat.add_mul,Nat.one_mul,List.range_add,List.map_append,List.map_map,List.flatten_cons,List.flatten_nil,List.append_nil]
  congr 1
  apply List.ext_getElem
  ·simp
  ·intro i h1 h2
   have hi:i < z.size:=by simpa using h1
   simp [Nat.mod_eq_of_lt hi,hi]
section
variable {C:Ctx} {Θ:Anc} {n:Nat} {σ:St} {a:Act} {w:World} {Z:Nat→Prop} {G:Nat→Value} {o:Oper} {K:Act→World→Prop} {Q:Exit→Act→World→Prop} {k:St→Prop}
theorem jv {d:Nat} {id:Nat} {ob:Obj} {v:Value} {s:SV} {w':World} {row:Option Nat} (S:Sim C.P Θ n σ a w Z G) (hdst:o.dst=some d) (hd:∀ t,o.dst=some t→t < n)
  (hk:∀ σ' a' w' Z' G',k σ'→Sim C.P Θ n σ' a' w' Z' G'→K a' w') (hev:id % 2=0) (hg:w.grownBy w' row)
  (hrow:∀ b,row=some b→blk (G id)=some b∧∃ p,az σ.objs id=some p∧Θ.keeps p=false) (hv:∀ b,blk v=some b→row=some b∨w.heap.size≤b)
  (ho:cg w' Z (fun i=>if i=id then v else G i) C.P id ob) (hs:ag w' Z (fun i=>if i=id then v else G i) s v) (h:k ((σ.new id ob).set d s)):K (a.put o.dst v) w':=by
 have S':=S.newO hev hg hrow hv ho
 have:=S'.put (d:=o.dst) hs hd
 rw [hdst] at this ⊢
 exact hk _ _ _ _ _ h this
theorem mH {d:Nat} {t:TypeId} {cells:List SV} {cur:Array Value} (S:Sim C.P Θ n σ a w Z G) (hdst:o.dst=some d) (hd:∀ t,o.dst=some t→t < n)
  (hk:∀ σ' a' w' Z' G',k σ'→Sim C.P Θ n σ' a' w' Z' G'→K a' w') (hc:ab w Z G cells cur.toList) (h:tT C d t cells σ k) :
  K (a.put o.dst (.pointer (some ⟨w.heap.size,0,none⟩))) (w.alloc (.cells cur t)):=by
 unfold tT at h
 split at h
 ·rename_i cs σ' hown
  obtain ⟨G',S',hr⟩:=iV S hown (vs:=[]) rfl hc
  simp only [List.nil_append] at hr
  have hg:w.grownBy (w.alloc (.cells cur t)) none:=World.grownBy_alloc w _ none
  have T:nz w (w.alloc (.cells cur t)) Z Z G' (fun i=>if i=2 * (d * 64) then (Value.pointer (some ⟨w.heap.size,0,none⟩)) else G' i) (2 * (d * 64)) .unk:=
   {sub:=fun _ h=>h,same:=fun b hb=>hg.block b (S'.lt b hb) (by simp),other:=fun i hi=>if_neg hi,its:=trivial }
  refine jv (s:=.ptr (2 * (d * 64)) 0) (v:=.pointer (some ⟨w.heap.size,0,none⟩)) (id:=2 * (d * 64)) (row:=none) S' hdst hd hk (by omega) hg (fun b hb=>by cases hb) (fun b hb=>.inr (by simp [blk] at hb;omega)) ?_ ⟨w.heap.size,by simp,rfl⟩ h
  exact ⟨w.heap.size,t,cur,by simp,heap_alloc_new w _,ab.sub T _ _ hr⟩
 ·cases h
theorem mL {d:Nat} {e t tx:TypeId} {str:Bool} {p q:Operand} {args:Array Operand} {ts:Array TypeId} (S:Sim C.P Θ n σ a w Z G) (hdst:o.dst=some d) (hd:∀ t,o.dst=some t→t < n)
  (hk:∀ σ' a' w' Z' G',k σ'→Sim C.P Θ n σ' a' w' Z' G'→K a' w') (ho:o.op = .call { callee:=.builtin .append,args:=args,argTypes:=ts }) (ha:args.toList=[p,q]) (ht:ts.toList=[t,tx])
  (hka:Θ.ka=false) (hu:C.P.underlying t=some (.slice e)) (hx:if str=true then C.P.underlying tx=some .string else ∃ e,C.P.underlying tx=some (.slice e)) (h:gU C d e str (σ.ev p) (σ.ev q) σ k):o.wp C.P a w K Q:=by
 have ha':args = #[p,q]:=by cases args;simp_all
 have ht':ts = #[t,tx]:=by cases ts;simp_all
 subst ha' ht'
 unfold gU at h
 split at h
 ·cases h
 rename_i m cs hcs
 split at h
 ·rename_i ys hsrc hsm
  obtain ⟨i,m',cs',z,h1,h2,h3,h4,h5,h6,h7⟩:=bF hsm
  rw [hcs] at h2
  cases h2
  obtain ⟨news,hnews,hS⟩:=x7 S (S.ev q) hx hsrc
  have run_op:∀ v v' w',a.eval p=v→(Builtin.append_ #[t,tx] o.type #[v,a.eval q]).run C.P w = .ok v' w'→K (a.put o.dst v') w'→o.wp C.P a w K Q:=by
   intro v v' w' hv hr hkk
   refine aG (v:=v') (w':=w') ?_ hkk
   simp [execOp,ho,resolve,invoke,builtin,hv,hr]
  split at h
  ·rename_i hp
   obtain ⟨hroom,h⟩:=aA h
   have hroom:ys.length≤room:=of_decide_eq_true hroom
   have hv:a.eval p = .slice none 0 0:=by have:=S.ev p;rw [hp] at this;exact this
   obtain ⟨v',w',hr,hown,hg,hbl⟩:=fm t tx o.type e i z cs.length hu h1 h3 h5 h6 h7 h4 _ 0 [] (World.ownsRow_nil w 0 e cs.length) (a.eval q) ys.length news hS (by omega)
   refine run_op _ v' w' hv hr (jv (id:=2 * (d * 64 + 63)) (row:=none) (v:=v') S hdst hd hk (by omega) hg (fun b hb=>by cases hb) (fun b hb=>.inr ?_) ?_ (by show _=_;simp) h)
   ·have hb':v'.ownBlock=some b:=by
     rcases hown.2 with ⟨h8,_⟩ | ⟨g,cap,cur,h8,_⟩
     ·rw [h8] at hb;cases hb
     ·rw [h8] at hb ⊢;exact hb
    rcases hbl with h9 | h9
    ·rw [h9] at hb';cases hb'
    ·rw [h9] at hb';cases hb';exact Nat.le_refl _
   ·have hK:Stays w w' Z Z:=⟨fun _ h=>h,fun b hb=>hg.block b (S.lt b hb) (by simp [Value.ownBlock])⟩
    refine ⟨m,cs,news,hcs,?_,ah.mono hK hnews⟩
    simp only [if_true]
    simpa using hown
  ·rename_i id hp
   have key:gU.opAppendOwn d e σ k id ys→o.wp C.P a w K Q:=by
    intro h
    unfold gU.opAppendOwn at h
    split at h
    ·rename_i e' xs hob
     obtain ⟨hb,h⟩:=aA h
     have hee:=Nat.eq_of_beq_eq_true hb
     subst hee
     obtain ⟨hroom,h⟩:=aA h
     simp only [Bool.and_eq_true] at hroom
     obtain ⟨hroom,heven⟩:=hroom
     have heven:id % 2=0:=by
      have h1:lM id=false:=by simpa using heven
      have h2:=Nat.ne_of_beq_eq_false h1
      omega
     have hroom:xs.length + ys.length≤room:=of_decide_eq_true hroom
     obtain ⟨m2,cs2,vs,g1,g2,g3⟩:=S.obj id _ hob
     rw [hcs] at g1
     cases g1
     have hv:a.eval p=G id:=by have:=S.ev p;rw [hp] at this;exact this
     obtain ⟨v',w',hr,hown,hg,hbl⟩:=fm t tx o.type e' i z cs.length hu h1 h3 h5 h6 h7 h4 _ xs.length vs g2 (a.eval q) ys.length news hS hroom
     have hblk:∀ b,(G id).ownBlock=some b→blk (G id)=some b:=fun b hb=>tu _ _ hb
     refine run_op _ v' w' hv hr (jv (id:=id) (row:=(G id).ownBlock) (v:=v') S hdst hd hk heven hg (fun b hb=>⟨hblk b hb,_,hob,hka⟩) (fun b hb=>?_) ?_ (by show _=_;simp) h)
     ·have hb':v'.ownBlock=some b:=by
       rcases hown.2 with ⟨h8,_⟩ | ⟨g,cap,cur,h8,_⟩
       ·rw [h8] at hb;cases hb
       ·rw [h8] at hb ⊢;exact hb
      rcases hbl with h9 | h9
      ·exact .inl (h9.symm.trans hb')
      ·rw [h9] at hb';cases hb';exact .inr (Nat.le_refl _)
     ·have hK:Stays w w' Z Z:=⟨fun _ h=>h,fun b hb=>hg.block b (S.lt b hb) (fun he=>(S.free id _ b hob (hblk b he.symm)).1 hb)⟩
      refine ⟨m,cs,vs ++ news,hcs,?_,ah.mono hK (g3.app hnews)⟩
      simp only [if_true,List.length_append]
      exact hown
    ·cases h
   split at h
   ·obtain ⟨_,h⟩:(false=true→False)∧gU.opAppendOwn d e σ k id ys:=by
     refine ⟨by simp,?_⟩
     rcases bL h with ⟨_,h⟩ | ⟨_,h⟩
     ·cases h
     ·exact h
    exact key h
   ·exact key h
  ·cases h
 ·cases h
end
end Go.Den

namespace Go.Den
open Go Go.RowKit
section
variable {C:Ctx} {Θ:Anc} {n:Nat} {σ:St} {a:Act} {w:World} {Z:Nat→Prop} {G:Nat→Value} {o:Oper} {K:Act→World→Prop} {Q:Exit→Act→World→Prop} {k:St→Prop}
theorem vJ {t:TypeId} {ps:Array (Nat × Operand)} {fs:Array Field} {z cs:List SV} (S:Sim C.P Θ n σ a w Z G) (hd:∀ t,o.dst=some t→t < n)
  (hk:∀ σ' a' w' Z' G',k σ'→Sim C.P Θ n σ' a' w' Z' G'→K a' w') (ho:o.op = .build t ps) (hu:C.P.underlying t=some (.struct fs)) (hz:zeroCells C.P t=some z)
  (hs:kM C.P fs.toList=true) (hf:fP C.P fs.toList (uq σ ps.toList) z=some cs) (h:k (bS σ o.dst (.agg cs))):o.wp C.P a w K Q:=by
 obtain ⟨out,hr,hrep⟩:=kZ (w:=w) (Z:=Z) (G:=G) S.flat (vs:=ps.map fun x=>(x.1,a.eval x.2)) hu hz hs hf (by simpa using i6 S ps.toList)
 refine aG (v:=.agg out) (w':=w) ?_ (hk _ _ _ _ _ h (S.put ⟨out,rfl,hrep⟩ hd))
 have heq:(ps.map fun (i,x)=>(i,a.eval x))=ps.map fun x=>(x.1,a.eval x.2):=rfl
 simp only [execOp,ho,Sem.run_bind]
 rw [heq,hr w]
 rfl
theorem rS {t e:TypeId} {m:Bool} {cs:List Ct} {ne:Nat} {ps:Array (Nat × Operand)} {d:Nat} {xs:List U} {z:U} (S:Sim C.P Θ n σ a w Z G) (hdst:o.dst=some d) (hd:∀ t,o.dst=some t→t < n)
  (hk:∀ σ' a' w' Z' G',k σ'→Sim C.P Θ n σ' a' w' Z' G'→K a' w') (ho:o.op = .buildSlice t ne ps) (hu:C.P.underlying t=some (.slice e)) (hcs:Cs C.P e=some (m,cs)) (hsm:bE C.P e=true)
  (hz:gV C.P e=some z) (hl:fk m cs (uq σ ps.toList) (List.replicate ne z)=some xs) (hroom:ne * cs.length≤2 ^ 24) (hne:0 < ne) (h:k ((σ.new (2 * (d * 64 + 63)) (.arr e xs)).set d (.own (2 * (d * 64 + 63))))):o.wp C.P a w K Q:=by
 obtain ⟨i,m',cs',zv,h1,h2,h3,h4,h5,h6,h7⟩:=bF hsm
 rw [hcs] at h2
 cases h2
 obtain ⟨i',m',cs',zv',g1,g2,g3,g4⟩:=jm (w:=w) (Z:=Z) hz
 rw [h1] at g1
 cases g1
 rw [h3] at g2
 cases g2
 rw [hcs] at g3
 cases g3
 have hmade:(madeCells zv.cells (ne * i.size)).toList=(List.replicate ne zv.cells.toList).flatten:=by
  rw [h5,← h6];exact gP _ (by omega) ne
 have hz0:ah w Z m cs (List.replicate ne z) (madeCells zv.cells (ne * i.size)).toList:=by
  rw [hmade];exact ah.replicate g4 ne
 obtain ⟨out,hf,hrep,hlen,hsz⟩:=mO S.flat (fun hm=>by subst hm;exact iX hcs) hl (by simpa using i6 S ps.toList) hz0 (jT hl) (vs:=(ps.map fun x=>(x.1,a.eval x.2)).toList)
 have hrun:=run_buildSlice w t e ne (ps.map fun x=>(x.1,a.eval x.2)) out i zv hu h1 h3 (by rw [h5];omega) (by rw [h5];have:=Nat.mul_pos hne h7;omega) (by rw [h5] at hf ⊢;exact hf)
 have hg:w.grownBy (w.alloc (.cells out e)) none:=World.grownBy_alloc w _ none
 have hlx:xs.length=ne:=by rw [hlen];simp
 refine aG (v:=.slice (some ⟨w.heap.size,0,none⟩) ne ne) (w':=w.alloc (.cells out e)) ?_
  (jv (id:=2 * (d * 64 + 63)) (row:=none) S hdst hd hk (by omega) hg (fun b hb=>by cases hb) (fun b hb=>.inr (by simp [blk] at hb;omega)) ?_ (by show _=_;simp) h)
 ·have heq:(ps.map fun (i,x)=>(i,a.eval x))=ps.map fun x=>(x.1,a.eval x.2):=rfl
  simp only [execOp,ho,Sem.run_bind]
  rw [heq,hrun]
  rfl
 ·have hK:Stays w (w.alloc (.cells out e)) Z Z:=⟨fun _ h=>h,fun b hb=>hg.block b (S.lt b hb) (by simp)⟩
  have hos:out.size=ne * cs.length:=by rw [hsz,size_madeCells,h5]
  refine ⟨m,cs,out.toList,hcs,?_,ah.mono hK hrep⟩
  simp only [if_true,hlx]
  refine ⟨by simp [hos],.inr ⟨w.heap.size,ne,out,rfl,Nat.zero_le _,heap_alloc_new w _,Nat.le_refl _,?_,hos,?_⟩⟩
  ·have:ne≤ne * cs.length:=Nat.le_mul_of_pos_right _ h7
   unfold maxLen;omega
  ·rw [← hos,List.take_of_length_le (by simp)]
theorem xA {t e:TypeId} {ps:Array (Nat × Operand)} {d:Nat} (S:Sim C.P Θ n σ a w Z G) (hdst:o.dst=some d) (hd:∀ t,o.dst=some t→t < n)
  (hk:∀ σ' a' w' Z' G',k σ'→Sim C.P Θ n σ' a' w' Z' G'→K a' w') (ho:o.op = .buildSlice t 0 ps) (hu:C.P.underlying t=some (.slice e)) (hsm:bE C.P e=true) (hps:ps.toList=[])
  (h:k ((σ.new (2 * (d * 64 + 63)) (.arr e [])).set d (.own (2 * (d * 64 + 63))))):o.wp C.P a w K Q:=by
 obtain ⟨i,m,cs,zv,h1,h2,h3,h4,h5,h6,h7⟩:=bF hsm
 have hg:w.grownBy (w.alloc (.cells #[] e)) none:=World.grownBy_alloc w _ none
 have hps':ps = #[]:=by apply Array.ext';simpa using hps
 have hrun:(Instr.buildSlice t 0 #[]).run C.P w = .ok (.slice (some ⟨w.heap.size,0,none⟩) 0 0) (w.alloc (.cells #[] e)):=by
  have h0:Array.range 0 = #[]:=rfl
  simp [Instr.buildSlice,run_underlying hu,sizeOf,typeInfo,h1,Instr.fill,newRow,h0]
 refine aG (v:=.slice (some ⟨w.heap.size,0,none⟩) 0 0) (w':=w.alloc (.cells #[] e)) ?_
  (jv (id:=2 * (d * 64 + 63)) (row:=none) S hdst hd hk (by omega) hg (fun b hb=>by cases hb) (fun b hb=>.inr (by simp [blk] at hb;omega)) ?_ (by show _=_;simp) h)
 ·subst hps'
  simp only [execOp,ho,Sem.run_bind]
  simp only [Array.map_empty,hrun]
  rfl
 ·refine ⟨m,cs,[],h2,?_,rfl⟩
  simp only [if_true,List.length_nil]
  exact ⟨by simp,.inr ⟨w.heap.size,0,#[],rfl,Nat.zero_le _,heap_alloc_new w _,Nat.le_refl _,Nat.zero_le _,by simp,by simp⟩⟩
theorem yk {t e:TypeId} {x y:Operand} {d:Nat} {kl kc:IntKind} {l c:U} {z:U} (S:Sim C.P Θ n σ a w Z G) (hdst:o.dst=some d) (hd:∀ t,o.dst=some t→t < n)
  (hk:∀ σ' a' w' Z' G',k σ'→Sim C.P Θ n σ' a' w' Z' G'→K a' w') (ho:o.op = .makeSlice t x y) (hu:C.P.underlying t=some (.slice e)) (hx:σ.ev x = .val (.int kl) l) (hy:σ.ev y = .val (.int kc) c)
  (hsm:bE C.P e=true) (hz:gV C.P e=some z) (hb:0≤l.int∧l.int≤c.int∧c.int≤(room:Int)) (h:k ((σ.new (2 * (d * 64 + 63)) (.arr e (List.replicate l.int.toNat z))).set d (.own (2 * (d * 64 + 63))))):o.wp C.P a w K Q:=by
 obtain ⟨i,m,cs,zv,h1,h2,h3,h4,h5,h6,h7⟩:=bF hsm
 obtain ⟨i',m',cs',zv',g1,g2,g3,g4⟩:=jm (w:=w) (Z:=Z) hz
 rw [h1] at g1
 cases g1
 rw [h3] at g2
 cases g2
 rw [h2] at g3
 cases g3
 have ex:a.eval x = .int kl l.int:=by have:=S.ev x;rw [hx] at this;exact this.1
 have ey:a.eval y = .int kc c.int:=by have:=S.ev y;rw [hy] at this;exact this.1
 have hroom:c.int≤1073741824:=hb.2.2
 have hrun:=run_make (P:=C.P) w t e i zv hu h1 h3 kl kc l.int c.int hb.1 hb.2.1 (by
  have hi:(i.bytes:Int)≤128:=by omega
  have h1':(i.bytes:Int) * c.int≤128 * c.int:=Int.mul_le_mul_of_nonneg_right hi (by omega)
  omega) (by omega)
 have hg:w.grownBy (w.alloc (.cells (madeCells zv.cells (c.int.toNat * i.size)) e)) none:=World.grownBy_alloc w _ none
 refine aG (v:=.slice (some ⟨w.heap.size,0,none⟩) l.int.toNat c.int.toNat) (w':=w.alloc (.cells (madeCells zv.cells (c.int.toNat * i.size)) e)) ?_
  (jv (id:=2 * (d * 64 + 63)) (row:=none) S hdst hd hk (by omega) hg (fun b hb=>by cases hb) (fun b hb=>.inr (by simp [blk] at hb;omega)) ?_ (by show _=_;simp) h)
 ·simp [execOp,ho,ex,ey,hrun]
 ·have hK:Stays w (w.alloc (.cells (madeCells zv.cells (c.int.toNat * i.size)) e)) Z Z:=⟨fun _ h=>h,fun b hb=>hg.block b (S.lt b hb) (by simp)⟩
  have hmade:∀ q:Nat,(madeCells zv.cells (q * i.size)).toList=(List.replicate q zv.cells.toList).flatten:=fun q=>by
   rw [h5,← h6];exact gP _ (by omega) q
  have hrep:ah w Z m cs (List.replicate l.int.toNat z) (List.replicate l.int.toNat zv.cells.toList).flatten:=ah.replicate g4 _
  refine ⟨m,cs,_,h2,?_,ah.mono hK hrep⟩
  simp only [if_true,List.length_replicate]
  have hlen:=hrep.length
  simp only [List.length_replicate] at hlen
  refine ⟨hlen,.inr ⟨w.heap.size,c.int.toNat,_,rfl,Nat.zero_le _,heap_alloc_new w _,by omega,by unfold maxLen;omega,by rw [size_madeCells,h5],?_⟩⟩
  rw [hmade,show c.int.toNat=l.int.toNat + (c.int.toNat - l.int.toNat) by omega,← List.replicate_append_replicate,List.flatten_append,List.take_append_of_le_length (by rw [hlen];exact Nat.le_refl _),List.take_of_length_le (by rw [hlen];exact Nat.le_refl _)]
theorem yi {t:TypeId} {x:Operand} (S:Sim C.P Θ n σ a w Z G) (hd:∀ t,o.dst=some t→t < n)
  (hk:∀ σ' a' w' Z' G',k σ'→Sim C.P Θ n σ' a' w' Z' G'→K a' w') (ho:o.op = .load t x) (h:op1 C o σ k):o.wp C.P a w K Q:=by
 have hx:=S.ev x
 simp only [op1,ho] at h
 split at h
 ·rename_i id off hp
  rw [hp] at hx
  obtain ⟨b,hG,hv⟩:=hx
  split at h
  ·rename_i cells hob
   split at h
   ·rename_i s hs
    obtain ⟨b',ty,c,h1,h2,h3⟩:=S.obj id _ hob
    rw [hG] at h1
    cases h1
    obtain ⟨v,hl,hrep⟩:=fV (P:=C.P) (o:=0) (b:=b) h3 (fun j v hj=>by rw [Nat.zero_add,cell_of_row w b j c ty (0,0) h2];simpa using hj) hs
    rw [Nat.zero_add] at hl
    exact kT (P:=C.P) ho hv hl (hk _ _ _ _ _ h (S.put hrep hd))
   ·cases h
  ·cases h
 ·rename_i id sz j off hp
  rw [hp] at hx
  obtain ⟨b,n',c,hG,hv⟩:=hx
  split at h
  ·rename_i e xs hob
   split at h
   ·rename_i m cs hcs
    obtain ⟨hb,h'⟩:=aA h
    clear h
    simp only [Bool.and_eq_true] at hb
    have hsz:=Nat.eq_of_beq_eq_true hb.1
    have hj:j < xs.length:=by simpa [Nat.blt_eq] using hb.2
    subst hsz
    split at h'
    ·rename_i s hs
     obtain ⟨m2,cs2,vs,h1,h2,h3⟩:=S.obj id _ hob
     rw [hcs] at h1
     cases h1
     obtain ⟨p,q,r',hvs,hpl,hq⟩:=h3.at_ j hj
     have hcell:=World.ownsRow.cells h2 (g:=b) (by rw [hG];rfl)
     obtain ⟨v,hl,hrep⟩:=fV (P:=C.P) (o:=j * cs.length) (b:=b) (G:=G) (aX.vals hq) (fun i v hi=>by
      have:=hcell (p.length + i) v (by rw [hvs,List.append_assoc,List.getElem?_append_right (by omega),Nat.add_sub_cancel_left,List.getElem?_append_left (by
       have:=(List.getElem?_eq_some_iff.1 hi).1;omega)];exact hi)
      rw [bp,hpl] at this
      simpa using this) hs
     exact kT (P:=C.P) ho hv hl (hk _ _ _ _ _ h' (S.put hrep hd))
    ·cases h'
   ·cases h
  ·cases h
 ·rename_i cs us hp
  rw [hp] at hx
  obtain ⟨b,off,hv,hb,hr⟩:=hx
  split at h
  ·rename_i s hs
   obtain ⟨vs,hl,hvs,hcell⟩:=bz.vals (G:=G) hr
   obtain ⟨v,hl',hrep⟩:=fV (P:=C.P) (o:=off) (b:=b) hvs hcell hs
   exact kT (P:=C.P) ho hv hl' (hk _ _ _ _ _ h (S.put hrep hd))
  ·cases h
 ·cases h
theorem gE (S:Sim C.P Θ n σ a w Z G) {x:Operand} (h:bN (br (σ.ev x))=true):ab w Z G (br (σ.ev x)) (a.eval x).cells.toList∧∀ u ∈ (a.eval x).cells.toList,u.oneCell' = true:=
 lz S.flat h (S.ev x)
theorem v8 {t:TypeId} {x y:Operand} {p:Addr} {w':World} (ho:o.op = .store t x y) (hx:a.eval x = .pointer (some p)) (hs:(storeVar t p (a.eval y)).run C.P w = .ok () w') (hk:K (a.put o.dst undef) w'):o.wp C.P a w K Q:=
 gH (by simp [execOp,ho,hx,Instr.storeAt,Instr.sureAddr,hs]) hk
theorem aX.front:∀ {ds cs:List Ct} {q v:List Value} {us xs:List U},aX w Z ds v xs→cs.take ds.length=ds→xs.length=ds.length→aX w Z cs q us→aX w Z cs (v ++ q.drop v.length) (xs ++ us.drop xs.length)
 | [],cs,q,v,us,xs,hv,_,hx,hq=>by
  have hv:v=[]:=hv
  have hx:xs=[]:=List.eq_nil_of_length_eq_zero hx
  subst hv hx
  simpa using hq
 | d :: ds,[],q,v,us,xs,_,ht,_,_=>by simp at ht
 | d :: ds,c :: cs,q,v,us,[],_,_,hx,_=>by simp at hx
 | d :: ds,c :: cs,q,v,us,x :: xs,hv,ht,hx,hq=>by
  obtain ⟨v0,v',rfl,hr,hv'⟩:=hv
  obtain ⟨q0,q',rfl,_,hq'⟩:=hq
  simp only [List.length_cons,List.take_succ_cons,List.cons.injEq] at ht
  obtain ⟨rfl,ht⟩:=ht
  refine ⟨v0,_,rfl,hr,?_⟩
  have:=aX.front hv' ht (by simpa using hx) hq'
  simpa using this
theorem qc:∀ {off:Nat} {cs ds:List Ct} {q v:List Value} {us xs:List U},aX w Z cs q us→aX w Z ds v xs→(cs.drop off).take ds.length=ds→off + ds.length≤cs.length→xs.length=ds.length→
  aX w Z cs (q.take off ++ v ++ q.drop (off + v.length)) (c4 us off xs)
 | 0,cs,ds,q,v,us,xs,hq,hv,hd,_,hx=>by
  have:=aX.front hv (by simpa using hd) hx hq
  simpa [c4,sj] using this
 | off + 1,[],ds,q,v,us,xs,_,_,_,hle,_=>by simp at hle
 | off + 1,c :: cs,ds,q,v,us,xs,hq,hv,hd,hle,hx=>by
  obtain ⟨q0,q',rfl,hr,hq'⟩:=hq
  have:=qc (off:=off) hq' hv (by simpa using hd) (by simp at hle;omega) hx
  refine ⟨q0,_,rfl,hr,?_⟩
  have e1:(q0 :: q').drop (off + 1 + v.length)=q'.drop (off + v.length):=by rw [show off + 1 + v.length=(off + v.length) + 1 by omega];rfl
  have e2:us.drop (off + 1 + xs.length)=us.tail.drop (off + xs.length):=by
   rw [show off + 1 + xs.length=(off + xs.length) + 1 by omega]
   cases us<;>simp
  simp only [c4,sj,List.cons_append,e1,e2] at this ⊢
  exact this
theorem wa {t:TypeId} {x y:Operand} (hkb:Θ.kb=false) (hka:Θ.ka=false) (S:Sim C.P Θ n σ a w Z G) (hd:o.dst=none)
  (hk:∀ σ' a' w' Z' G',k σ'→Sim C.P Θ n σ' a' w' Z' G'→K a' w') (ho:o.op = .store t x y) (h:op1 C o σ k):o.wp C.P a w K Q:=by
 simp only [op1,ho] at h
 split at h
 ·rename_i id off ne hp hsz
  obtain ⟨hb,h'⟩:=aA h
  clear h
  simp only [Bool.and_eq_true] at hb
  have hlen:=Nat.eq_of_beq_eq_true hb.1
  obtain ⟨hcv,hone⟩:=gE S hb.2
  split at h'
  ·rename_i cs σ' hown
   obtain ⟨G',S',hr⟩:=iV S hown (vs:=[]) rfl hcv
   simp only [List.nil_append] at hr
   have hx:=S'.ev x
   split at h'
   ·rename_i id' off' hp'
    rw [hp'] at hx
    obtain ⟨b,hG,hv⟩:=hx
    split at h'
    ·rename_i cells hob
     obtain ⟨hb2,h''⟩:=aA h'
     clear h'
     have hle:=Nat.le_of_ble_eq_true hb2
     obtain ⟨b',ty,cur,h1,h2,h3⟩:=S'.obj id' _ hob
     rw [hG] at h1
     cases h1
     have hvl:(a.eval y).cells.size=ne:=by have:=hcv.length;rw [hlen] at this;simpa using this.symm
     have hcl:cells.length=cur.size:=by have:=h3.length;simpa using this
     have hst:=cO (P:=C.P) (w:=w) (o:=off') hsz hvl hone h2 (by omega)
     obtain ⟨cur',g1,g2,g3⟩:=cc b ty (a.eval y).cells.toList off' w cur h2 (by simp;omega)
     have hg:=cM b (a.eval y).cells.toList off' w
     have hK:Stays w (w.setCells b off' (a.eval y).cells.toList) Z Z:=⟨fun _ h=>h,fun c hc=>hg.block c (S'.lt c hc) (fun e=>by
      cases e;exact (S'.free id' _ b hob (by rw [hG];rfl)).1 hc)⟩
     have hcl2:cs.length=(a.eval y).cells.toList.length:=hr.length
     have Snew:=S'.stored (o':=.box (patch cells off' cs)) hob (by rw [hG];rfl) hg (bV b _ _ w).2.2.2 hkb ⟨b,ty,cur',hG,g1,by
      rw [g2]
      exact ab.mono hK _ _ (h3.patch hr off')⟩
     have hput:a.put o.dst undef=a:=by rw [hd];rfl
     exact v8 (C:=C) ho hv hst (by rw [hput];exact hk _ _ _ _ _ h'' Snew)
    ·cases h'
   ·cases h'
  ·cases h'
 ·rename_i ne hp hsz
  split at h
  ·rename_i σ' hfr
   obtain ⟨Z',S'⟩:=cX S hfr
   have hx:=S'.ev x
   split at h
   ·rename_i id sz j off hp'
    rw [hp'] at hx
    obtain ⟨b,n',c,hG,hv⟩:=hx
    split at h
    ·rename_i e xs hob
     split at h
     ·rename_i m cs mt ds hcs hct
      split at h
      ·rename_i us hus hbq
       obtain ⟨hb,h'⟩:=aA h
       clear h
       simp only [Bool.and_eq_true] at hb
       obtain ⟨⟨⟨⟨hb1,hb5⟩,hb2⟩,hb3⟩,hb4⟩:=hb
       have hul:=Nat.eq_of_beq_eq_true hb1
       have hdl:=Nat.eq_of_beq_eq_true hb5
       have hle:=Nat.le_of_ble_eq_true hb2
       have hszz:=Nat.eq_of_beq_eq_true hb3
       have hj:j < xs.length:=by simpa [Nat.blt_eq] using hb4
       have hds:=zb hbq
       obtain ⟨m2,cs2,vs,h1,h2,h3⟩:=S'.obj id _ hob
       rw [hcs] at h1
       cases h1
       obtain ⟨hcv,hone⟩:=gE S' (c3 hus)
       have hrv:aX w Z' ds (a.eval y).cells.toList us:=dH hus hcv
       have hvl:(a.eval y).cells.size=ne:=by have:=hrv.length;simp at this;omega
       rcases h2.2 with ⟨h4,_⟩ | ⟨g,cap,cur,h4,_,h5,h6,h7,h8,h9⟩
       ·rw [hG] at h4;cases h4
       rw [hG] at h4
       cases h4
       obtain ⟨p,q,r',hvs,hpl,hq⟩:=h3.at_ j hj
       have hql:=hq.length
       have hvsl:=h3.length
       have hfit:j * cs.length + cs.length≤xs.length * cs.length:=by rw [← Nat.succ_mul];exact Nat.mul_le_mul_right _ hj
       have hcapl:xs.length * cs.length≤c * cs.length:=Nat.mul_le_mul_right _ h6
       have hst:=cO (P:=C.P) (w:=w) (o:=j * sz + off) hsz hvl hone h5 (by rw [← hszz];omega)
       obtain ⟨cur',g1,g2,g3⟩:=cc b e (a.eval y).cells.toList (j * sz + off) w cur h5 (by rw [← hszz];simp;omega)
       have hg:=cM b (a.eval y).cells.toList (j * sz + off) w
       have hK:Stays w (w.setCells b (j * sz + off) (a.eval y).cells.toList) Z' Z':=⟨fun _ h=>h,fun c hc=>hg.block c (S'.lt c hc) (fun e=>by
        cases e;exact (S'.free id _ b hob (by rw [hG];rfl)).1 hc)⟩
       have hrep:=qc (off:=off) hq hrv (by rw [hdl];exact hds) (by omega) (by omega)
       have hset:=h3
       rw [hvs] at hset
       have hset:=ah.set_ (x:=ofElem m (c4 (dF m (U.at xs j)) off us)) hset hj hpl hql (aX.elem (fun hm=>by subst hm;exact iX hcs) hrep)
       have Snew:=S'.stored (o':=.arr e (xs.set j (ofElem m (c4 (dF m (U.at xs j)) off us)))) hob (by rw [hG];rfl) hg (bV b _ _ w).2.2.2 hka ⟨m,cs,_,hcs,?_,ah.mono hK hset⟩
       ·have hput:a.put o.dst undef=a:=by rw [hd];rfl
        exact v8 (C:=C) ho hv hst (by rw [hput];exact hk _ _ _ _ _ h' Snew)
       ·rw [hG,List.length_set]
        refine ⟨?_,.inr ⟨b,c,cur',rfl,Nat.zero_le _,g1,h6,h7,by rw [g3,h8],?_⟩⟩
        ·have:=(ah.set_ (x:=ofElem m (c4 (dF m (U.at xs j)) off us)) (by rw [← hvs];exact h3) hj hpl hql (aX.elem (fun hm=>by subst hm;exact iX hcs) hrep)).length
         simpa using this
        ·rw [g2]
         have hcurl:cur.toList.length=c * cs.length:=by simp [h8]
         have hvq:(a.eval y).cells.toList.length=ne:=by simpa using hvl
         have hcur:cur.toList=(p ++ q ++ r') ++ cur.toList.drop (xs.length * cs.length):=by
          rw [← hvs,← h9,List.take_append_drop]
         have hpq:p.length + q.length≤xs.length * cs.length:=by omega
         have hplen:j * sz + off=p.length + off:=by rw [hpl,hszz]
         rw [hplen]
         generalize cur.toList.drop (xs.length * cs.length)=tl at hcur
         rw [hcur]
         have e1:(p ++ q ++ r' ++ tl).take (p.length + off)=p ++ q.take off:=by
          rw [List.append_assoc,List.append_assoc,List.take_append,List.take_append]
          simp [List.take_of_length_le,show off - q.length=0 by omega]
         have e2:(p ++ q ++ r' ++ tl).drop (p.length + off + (a.eval y).cells.toList.length)=q.drop (off + (a.eval y).cells.toList.length) ++ r' ++ tl:=by
          rw [List.append_assoc,List.append_assoc,List.drop_append,List.drop_append]
          have z1:p.drop (p.length + off + (a.eval y).cells.toList.length)=[]:=List.drop_of_length_le (by omega)
          have z2:p.length + off + (a.eval y).cells.toList.length - p.length=off + (a.eval y).cells.toList.length:=by omega
          have z3:off + (a.eval y).cells.toList.length - q.length=0:=by omega
          rw [z1,z2,z3]
          simp
         rw [e1,e2]
         have htot:(p ++ (q.take off ++ (a.eval y).cells.toList ++ q.drop (off + (a.eval y).cells.toList.length)) ++ r').length=xs.length * cs.length:=by
          have hl1:(p ++ q ++ r').length=xs.length * cs.length:=by rw [← hvs];exact hvsl
          simp only [List.length_append,List.length_take,List.length_drop] at hl1 ⊢
          omega
         have:p ++ q.take off ++ (a.eval y).cells.toList ++ (q.drop (off + (a.eval y).cells.toList.length) ++ r' ++ tl)=(p ++ (q.take off ++ (a.eval y).cells.toList ++ q.drop (off + (a.eval y).cells.toList.length)) ++ r') ++ tl:=by simp [List.append_assoc]
         rw [this,← htot,List.take_left]
      ·cases h
     ·cases h
    ·cases h
   ·cases h
  ·cases h
 ·cases h
end
end Go.Den

namespace Go.Den
open Go Go.RowKit
theorem pd {i:Nat}:∀ {l:List Nat},dZ i l=true↔i ∈ l
 | []=>by simp [dZ]
 | j :: r=>by
  unfold dZ
  by_cases h:i=j
  ·subst h;simp
  ·rw [jf h,cond_false,pd];simp [h]
theorem wC {i:Nat} {r:List Nat} (h:d4 (i :: r)=true):i ∉ r∧d4 r=true:=by
 unfold d4 at h
 cases hm:dZ i r with
 | true=>rw [hm] at h;cases h
 | false=>rw [hm] at h;exact ⟨(fun hi=>by rw [pd.2 hi] at hm;cases hm),h⟩
theorem zo (a b i:Nat) (r:List (Nat × Nat)):lk ((a,b) :: r) i=if a=i then some b else lk r i:=by
 show (bif Nat.beq a i then some b else lk r i)=_
 by_cases h:a=i
 ·subst h;simp
 ·simp [h,jf h]
theorem lG:∀ {m:List (Nat × Nat)} {i j:Nat},lk m i=some j→(i,j) ∈ m
 | [],_,_,h=>by cases h
 | (a,b) :: r,i,j,h=>by
  rw [zo] at h
  split at h
  ·rename_i hai;injection h with h;subst hai h;exact List.mem_cons_self ..
  ·exact List.mem_cons_of_mem _ (lG h)
theorem qv:∀ {m:List (Nat × Nat)} {i j:Nat},(i,j) ∈ m→i ∈ mM m
 | (a,b) :: r,i,j,h=>by
  rcases List.mem_cons.1 h with h | h
  ·cases h;exact List.mem_cons_self ..
  ·exact List.mem_cons_of_mem _ (qv h)
theorem cL:∀ {m:List (Nat × Nat)} {i j:Nat},d4 (mM m)=true→(i,j) ∈ m→lk m i=some j
 | (a,b) :: r,i,j,hn,h=>by
  obtain ⟨h1,h2⟩:=wC hn
  rw [zo]
  rcases List.mem_cons.1 h with h | h
  ·cases h;rw [if_pos rfl]
  ·rw [if_neg (fun e=>h1 (by rw [e];exact qv h))];exact cL h2 h
theorem o9:∀ m:List (Nat × Nat),mM (cm m)=n6 m
 | []=>rfl
 | (a,b) :: r=>by show b :: mM (cm r)=b :: n6 r;rw [o9 r]
theorem gB:∀ {m:List (Nat × Nat)} {i j:Nat},(i,j) ∈ cm m↔(j,i) ∈ m
 | [],i,j=>by simp [cm]
 | (a,b) :: r,i,j=>by
  show (i,j) ∈ (b,a) :: cm r↔_
  simp only [List.mem_cons,Prod.mk.injEq,gB (m:=r)]
  constructor<;>(rintro (⟨h1,h2⟩ | h)<;>first | exact .inl ⟨h2,h1⟩ | exact .inr h)
theorem jX {m:List (Nat × Nat)} (hs:d4 (n6 m)=true) {i j:Nat} (h:lk m i=some j):lk (cm m) j=some i:=
 cL (by rw [o9];exact hs) (gB.2 (lG h))
section
variable {w:World} {Z:Nat→Prop} {G G':Nat→Value} {m:List (Nat × Nat)}
mutual
theorem ag.ren (H:∀ i j,lk m i=some j→G' j=G i):∀ (s:SV) (v:Value),ag w Z G s v→ag w Z G' (SV.ren m s) v
 | .val _ _,_,h=>h
 | .agg cs,v,h=>by
  obtain ⟨vs,hv,hr⟩:=h
  exact ⟨vs,hv,ab.ren H cs _ hr⟩
 | .nil,_,h=>h
 | .own i,v,h=>by
  unfold SV.ren
  have h:v=G i:=h
  split
  ·rename_i j hj;show v=G' j;rw [H i j hj];exact h
  ·trivial
 | .ptr i off,v,h=>by
  unfold SV.ren
  obtain ⟨b,h1,h2⟩:=h
  split
  ·rename_i j hj;exact ⟨b,(H i j hj).trans h1,h2⟩
  ·trivial
 | .osl i k z,v,h=>by
  unfold SV.ren
  have h:v=gX k z (G i):=h
  split
  ·rename_i j hj;show v=gX k z (G' j);rw [H i j hj];exact h
  ·trivial
 | .aptr i sz k off,v,h=>by
  unfold SV.ren
  obtain ⟨b,n,c,h1,h2⟩:=h
  split
  ·rename_i j hj;exact ⟨b,n,c,(H i j hj).trans h1,h2⟩
  ·trivial
 | .rptr _ _,_,h=>h
 | .nilp,_,h=>h
 | .tup l,v,h=>by
  obtain ⟨vs,hv,hr⟩:=h
  exact ⟨vs,hv,ab.ren H l _ hr⟩
 | .clo _ l,v,h=>by
  obtain ⟨vs,hv,hr⟩:=h
  exact ⟨vs,hv,ab.ren H l _ hr⟩
 | .mp i,v,h=>by
  unfold SV.ren
  obtain ⟨b,h1,h2⟩:=h
  split
  ·rename_i j hj;exact ⟨b,(H i j hj).trans h1,h2⟩
  ·trivial
 | .ifc _ s,v,h=>by
  obtain ⟨x,hv,hr⟩:=h
  exact ⟨x,hv,ag.ren H s x hr⟩
 | .nili,_,h=>h
 | .und,_,h=>h
 | .unk,_,_=>trivial
theorem ab.ren (H:∀ i j,lk m i=some j→G' j=G i):∀ (l:List SV) (vs:List Value),ab w Z G l vs→ab w Z G' (SV.ren.rens m l) vs
 | [],_,h=>h
 | s :: r,vs,h=>by
  obtain ⟨v,t,hv,hs,hr⟩:=h
  exact ⟨v,t,hv,ag.ren H s v hs,ab.ren H r t hr⟩
end
theorem cg.ren {P:Program} (H:∀ i j,lk m i=some j→G' j=G i) {i j:Nat} {o:Obj} (hij:lk m i=some j) (h:cg w Z G P i o):cg w Z G' P j (o.ren m):=by
 cases o with
 | box cells=>
  obtain ⟨b,ty,c,h1,h2,h3⟩:=h
  exact ⟨b,ty,c,(H i j hij).trans h1,h2,ab.ren H _ _ h3⟩
 | arr e xs=>
  obtain ⟨mm,cs,vs,h1,h2,h3⟩:=h
  refine ⟨mm,cs,vs,h1,?_,h3⟩
  rw [H i j hij];exact h2
 | map t es=>
  obtain ⟨b,ents,kt,vt,km,kcs,vm,vcs,h1,h2⟩:=h
  exact ⟨b,ents,kt,vt,km,kcs,vm,vcs,(H i j hij).trans h1,h2⟩
end
theorem kU {objs:bX} {m:List (Nat × Nat)}:∀ {l:List (Nat × Nat)} {j:Nat} {o':Obj},(j,o') ∈ dO objs m l→∃ i o,(i,j) ∈ l∧az objs i=some o∧o' = o.ren m
 | [],_,_,h=>by cases h
 | (i,k) :: r,j,o',h=>by
  unfold dO at h
  split at h
  ·rename_i o ho
   rcases List.mem_cons.1 h with h | h
   ·cases h;exact ⟨i,o,List.mem_cons_self ..,ho,rfl⟩
   ·obtain ⟨i',o'',h1,h2⟩:=kU h
    exact ⟨i',o'',List.mem_cons_of_mem _ h1,h2⟩
  ·obtain ⟨i',o'',h1,h2⟩:=kU h
   exact ⟨i',o'',List.mem_cons_of_mem _ h1,h2⟩
theorem qt:∀ {l:bX} {j:Nat} {o:Obj},az l j=some o→(j,o) ∈ l
 | [],_,_,h=>by cases h
 | (k,p) :: r,j,o,h=>by
  rw [ba] at h
  split at h
  ·rename_i hk;injection h with h;subst hk h;exact List.mem_cons_self ..
  ·exact List.mem_cons_of_mem _ (qt h)
theorem fQ {objs:bX} {m l:List (Nat × Nat)} {j:Nat} {o':Obj} (h:az (dO objs m l) j=some o'):∃ i o,(i,j) ∈ l∧az objs i=some o∧o' = o.ren m:=kU (qt h)
theorem iP:∀ {l:bX} {j:Nat} {o:Obj},(j,o) ∈ l→∃ o',az l j=some o'
 | (k,p) :: r,j,o,h=>by
  rw [ba]
  split
  ·exact ⟨p,rfl⟩
  ·rename_i hk
   rcases List.mem_cons.1 h with h | h
   ·cases h;exact absurd rfl hk
   ·exact iP h
theorem nv {objs:bX} {m:List (Nat × Nat)}:∀ {l:List (Nat × Nat)} {i j:Nat} {o:Obj},(i,j) ∈ l→az objs i=some o→(j,o.ren m) ∈ dO objs m l
 | (a,b) :: r,i,j,o,h,ho=>by
  unfold dO
  rcases List.mem_cons.1 h with h | h
  ·cases h;rw [ho];exact List.mem_cons_self ..
  ·split
   ·exact List.mem_cons_of_mem _ (nv h ho)
   ·exact nv h ho
theorem jz {objs:bX}:∀ {ids:List Nat} {k i j:Nat},(i,j) ∈ iJ objs k ids→∃ o,az objs i=some o
 | [],_,_,_,h=>by cases h
 | a :: r,k,i,j,h=>by
  unfold iJ at h
  split at h
  ·rename_i o ho
   rcases List.mem_cons.1 h with h | h
   ·cases h;exact ⟨o,ho⟩
   ·exact jz h
  ·exact jz h
theorem rT:∀ {l:bX} {j:Nat} {o:Obj},(j,o) ∈ l→j ∈ iL l
 | (a,b) :: r,j,o,h=>by
  rcases List.mem_cons.1 h with h | h
  ·cases h;exact List.mem_cons_self ..
  ·exact List.mem_cons_of_mem _ (rT h)
theorem j5 {m:List (Nat × Nat)}:∀ {l:List Nat} {b c i:Nat},(c,i) ∈ kQ m b l→lk m c=some i∨(lk m c=none∧i % 2=0)
 | [],_,_,_,h=>by cases h
 | a :: r,b,c,i,h=>by
  unfold kQ at h
  split at h
  ·rename_i x hx
   rcases List.mem_cons.1 h with h | h
   ·cases h;exact .inl hx
   ·exact j5 h
  ·rename_i hx
   rcases List.mem_cons.1 h with h | h
   ·cases h;exact .inr ⟨hx,by omega⟩
   ·exact j5 h
theorem ju {m:List (Nat × Nat)}:∀ {l:List (Nat × Nat)} {c i:Nat},(c,i) ∈ l→lk m c=none→i ∈ dJ m l
 | (a,b) :: r,c,i,h,hn=>by
  unfold dJ
  rcases List.mem_cons.1 h with h | h
  ·cases h;rw [hn];exact List.mem_cons_self ..
  ·split
   ·exact ju h hn
   ·exact List.mem_cons_of_mem _ (ju h hn)
theorem iA:∀ {l:List (Nat × Nat)} {i j:Nat},(i,j) ∈ l→lM j=false→i ∈ c9 l
 | (a,b) :: r,i,j,h,hn=>by
  unfold c9
  rcases List.mem_cons.1 h with h | h
  ·cases h;rw [hn,cond_false];exact List.mem_cons_self ..
  ·cases lM b with
   | true=>exact iA h hn
   | false=>exact List.mem_cons_of_mem _ (iA h hn)
theorem nP:∀ {l:List Nat} {i:Nat},oB l=true→i ∈ l→i % 2=0
 | a :: r,i,h,hm=>by
  unfold oB at h
  cases ho:lM a with
  | true=>rw [ho] at h;cases h
  | false=>
   rw [ho] at h
   rcases List.mem_cons.1 hm with hm | hm
   ·subst hm
    have:=Nat.ne_of_beq_eq_false ho
    omega
   ·exact nP h hm
theorem kB:∀ {l:List (Nat × Nat)} {objs:bX} {j:Nat} {o:Obj},az (nm objs l) j=some o→j ∉ mM l∧az objs j=some o
 | [],_,_,_,h=>⟨by simp [mM],h⟩
 | (a,b) :: r,objs,j,o,h=>by
  obtain ⟨h1,h2⟩:=kB (l:=r) h
  by_cases hj:j=a
  ·subst hj;rw [eu] at h2;cases h2
  ·rw [bO _ hj] at h2
   exact ⟨by simp [mM,hj,h1],h2⟩
theorem gD:∀ {l objs:bX} {j:Nat} {o:Obj},az (DX objs l) j=some o→(j,o) ∈ l∨az objs j=some o
 | [],_,_,_,h=>.inr h
 | (a,p) :: r,objs,j,o,h=>by
  rcases gD (l:=r) h with h1 | h1
  ·exact .inl (List.mem_cons_of_mem _ h1)
  ·rw [ba] at h1
   split at h1
   ·rename_i hk;injection h1 with h2;subst hk h2;exact .inl (List.mem_cons_self ..)
   ·rename_i hk
    rw [bO _ (Ne.symm hk)] at h1
    exact .inr h1
section
variable {P:Program} {Θ:Anc} {n:Nat} {σ:St} {a:Act} {w w':World} {Z Z':Nat→Prop} {G G':Nat→Value}
theorem Sim.wipe1 (S:Sim P Θ n σ a w Z G) (id:Nat) {v:Value} (hf:v.oneCell' = true) (ho:id % 2=1→v=Θ.G0 id):Sim P Θ n ⟨qB id .unk σ.env,mY id .unk (dV σ.objs id)⟩ a w Z (fun i=>if i=id then v else G i):=by
 have T:nz w w Z Z G (fun i=>if i=id then v else G i) id .unk:={ sub:=fun _ h=>h,same:=fun _ _=>rfl,other:=fun i hi=>if_neg hi,its:=trivial }
 have hobj:∀ j o',az (mY id .unk (dV σ.objs id)) j=some o'→j≠id∧∃ p,az σ.objs j=some p∧o' = p.sub id .unk:=by
  intro j o' h
  rw [kF] at h
  obtain ⟨p,h1,h2⟩:=Option.map_eq_some_iff.1 h
  by_cases hj:j=id
  ·subst hj;rw [eu] at h1;cases h1
  ·rw [bO _ hj] at h1;exact ⟨hj,p,h1,h2.symm⟩
 refine { size:=S.size,calm:=S.calm,slot:=?_,obj:=?_,sep:=?_,free:=?_,keep:=?_,nlt:=S.nlt,lt:=S.lt,fut:=S.fut,new:=S.new,sub:=S.sub,flat:=?_,odd:=?_,row:=S.row }
 ·intro t
  show ag w Z _ (get (qB id .unk σ.env) t) _
  rw [pr]
  exact ag.sub T _ _ (S.slot t)
 ·intro j o' hj
  obtain ⟨h,p,hp,rfl⟩:=hobj j o' hj
  exact cg.sub T h (fun _ _=>rfl) (S.obj j p hp)
 ·intro j j' p p' b hp hp' hb hb'
  obtain ⟨h,q,hq,_⟩:=hobj j p hp
  obtain ⟨h',q',hq',_⟩:=hobj j' p' hp'
  simp only [if_neg h] at hb
  simp only [if_neg h'] at hb'
  exact S.sep j j' q q' b hq hq' hb hb'
 ·intro j p b hp hb
  obtain ⟨h,q,hq,_⟩:=hobj j p hp
  simp only [if_neg h] at hb
  exact S.free j q b hq hb
 ·intro j p b hp hb hN
  obtain ⟨h,q,hq,rfl⟩:=hobj j p hp
  simp only [if_neg h] at hb
  have h2:=S.keep j q b hq hb hN
  cases q<;>exact h2
 ·intro j
  by_cases h:j=id
  ·simp only [h,if_true];exact hf
  ·simp only [if_neg h];exact S.flat j
 ·intro j hj
  by_cases h:j=id
  ·subst h;simp only [if_true];exact ho hj
  ·simp only [if_neg h];exact S.odd j hj
theorem Sim.wipe:∀ (l:List Nat) {σ:St} {G G':Nat→Value},Sim P Θ n σ a w Z G→(∀ i,i ∉ l→G' i=G i)→(∀ i,(G' i).oneCell' = true)→(∀ i,i % 2=1→G' i=Θ.G0 i)→Sim P Θ n (σ.wipe l) a w Z G'
 | [],σ,G,G',S,h,_,_=>by
  have:G' = G:=funext fun i=>h i (by simp)
  rw [this];exact S
 | id :: r,σ,G,G',S,h,hf,ho=>by
  have S1:=S.wipe1 id (v:=G' id) (hf id) (ho id)
  refine Sim.wipe r S1 (fun i hi=>?_) hf ho
  by_cases hid:i=id
  ·simp [hid]
  ·rw [if_neg hid];exact h i (by simp [hid,hi])
theorem vn:∀ {l:List Nat} {σ:St} {j:Nat} {o:Obj},az (σ.wipe l).objs j=some o→j ∉ l∧∃ p,az σ.objs j=some p
 | [],_,_,o,h=>⟨by simp,o,h⟩
 | id :: r,σ,j,o,h=>by
  obtain ⟨h1,p,hp⟩:=vn (l:=r) h
  have hp:az (mY id .unk (dV σ.objs id)) j=some p:=hp
  rw [kF] at hp
  obtain ⟨q,h3,_⟩:=Option.map_eq_some_iff.1 hp
  by_cases hj:j=id
  ·subst hj;rw [eu] at h3;cases h3
  ·rw [bO _ hj] at h3;exact ⟨by simp [hj,h1],q,h3⟩
theorem Sim.goes (S:Sim P Θ n σ a w Z G) {B:Nat→Prop} (hB:∀ b,B b→(Θ.M b∨Θ.w.heap.size≤b)∧b < w.heap.size∧¬ Z b) (hl:∀ id o b,az σ.objs id=some o→blk (G id)=some b→¬ B b) (hf:Fut B w w')
  (h1:∀ b,Z b→Z' b) (h2:∀ b,Z' b→Z b∨B b∨w.heap.size≤b) (h3:∀ b,Z' b→b < w'.heap.size) (h4:∀ b,Z' b→Z b∨Plain w' b):Sim P Θ n σ a w' Z' G:=by
 have hK:Stays w w' Z Z':=⟨h1,fun b hb=>hf.block b (S.lt b hb) (fun hm=>(hB b hm).2.2 hb)⟩
 have hob:∀ id o b,az σ.objs id=some o→blk (G id)=some b→w'.heap[b]? = w.heap[b]?:=fun id o b h hb=>hf.block b (cg.lt S h hb) (hl id o b h hb)
 exact { size:=S.size,calm:=S.calm,sep:=S.sep,keep:=S.keep,nlt:=S.nlt,flat:=S.flat,odd:=S.odd
         row:=fun b hb=>(h4 b hb).elim (fun h=>(S.row b h).imp (fun h=>h) fun h5=>h5.of (hK.same b h)) .inr
         slot:=fun t=>ag.mono hK _ _ (S.slot t)
         obj:=fun id o h=>cg.mono hK (fun b hb=>hob id o b h hb) (S.obj id o h)
         free:=fun id o b h hb=>⟨fun hz=>by
          rcases h2 b hz with h4 | h4 | h4
          ·exact (S.free id o b h hb).1 h4
          ·exact hl id o b h hb h4
          ·have:=cg.lt S h hb;omega,(S.free id o b h hb).2⟩
         lt:=h3
         fut:=S.fut.trans hf (fun _ h=>h) (fun b hb hm=>by
          rcases (hB b hm).1 with h4 | h4
          ·exact h4
          ·omega)
         new:=fun b hb=>by
          rcases h2 b hb with h4 | h4 | h4
          ·exact S.new b h4
          ·exact (hB b h4).1.elim (fun h=>.inr (.inl h)) (fun h=>.inr (.inr (.inr h)))
          ·exact .inr (.inr (.inr (Nat.le_trans S.fut.size h4)))
         sub:=fun b hb=>h1 b (S.sub b hb) }
theorem Sim.lay (S:Sim P Θ n σ a w Z G) {L:bX} (ho:∀ id o,(id,o) ∈ L→cg w Z G P id o) (hfree:∀ id o b,(id,o) ∈ L→blk (G id)=some b→¬ Z b∧(Θ.M b∨Θ.w.heap.size≤b)) (hkeep:∀ id o b,(id,o) ∈ L→blk (G id)=some b→Θ.N b→Θ.keeps o=true)
  (hsep:∀ id id' o o' b,(id,o) ∈ L→(id',o') ∈ L→blk (G id)=some b→blk (G id')=some b→id=id') (hold:∀ id id' o o' b,(id,o) ∈ L→az σ.objs id' = some o'→blk (G id)=some b→blk (G id')≠some b) :
  Sim P Θ n ⟨σ.env,DX σ.objs L⟩ a w Z G:=
 {size:=S.size,calm:=S.calm,slot:=S.slot,nlt:=S.nlt,lt:=S.lt,fut:=S.fut,new:=S.new,sub:=S.sub,flat:=S.flat,odd:=S.odd,row:=S.row
  obj:=fun id o h=>by
   rcases gD h with h | h
   ·exact ho id o h
   ·exact S.obj id o h
  sep:=fun id id' o o' b h h' hb hb'=>by
   rcases gD h with h | h<;>rcases gD h' with h' | h'
   ·exact hsep id id' o o' b h h' hb hb'
   ·exact absurd hb' (hold id id' o o' b h h' hb)
   ·exact absurd hb (hold id' id o' o b h' h hb')
   ·exact S.sep id id' o o' b h h' hb hb'
  free:=fun id o b h hb=>by
   rcases gD h with h | h
   ·obtain ⟨h1,h2⟩:=hfree id o b h hb
    exact ⟨h1,h2.elim .inl (fun h=>.inr (.inr h))⟩
   ·exact S.free id o b h hb
  keep:=fun id o b h hb hN=>by
   rcases gD h with h | h
   ·exact hkeep id o b h hb hN
   ·exact S.keep id o b h hb hN }
end
section
variable {C:Ctx} {Θ:Anc} {n:Nat} {σ:St} {a:Act} {w:World} {Z:Nat→Prop} {G:Nat→Value}
theorem yb {P:Program} {t:TypeId} {s:SV} {v:Value} (h:ag w Z G s v):ag w Z G (xt P t s) v:=by
 unfold xt
 split
 ·rename_i us hus
  obtain ⟨s',h1,h2⟩:=uu (Zc:=Z) (fun c s u v hu hs=>dM hu hs) hus h
  rw [h1]
  exact lL h1 h2
 ·exact h
theorem nW {P:Program}:∀ {fs:List Bool} {ts:List TypeId} {l:List SV} {vs:List Value},ab w Z G l vs→ab w Z G (mo P fs ts l) vs
 | _,[],[],_,h=>h
 | _,_ :: _,[],_,h=>h
 | _,[],_ :: _,_,h=>h
 | fs,t :: ts,s :: l,_,h=>by
  obtain ⟨v,r,hv,hs,hr⟩:=h
  refine ⟨v,r,hv,?_,nW hr⟩
  split
  ·exact hs
  ·exact yb hs
theorem vQ (hC:C.Ok) {o:Oper} {K:Act→World→Prop} {Q:Exit→Act→World→Prop} {k:St→Prop} {q:Bool} (hkq:q=false→Θ.kb=false∧Θ.ka=false) (S:Sim C.P Θ n σ a w Z G) (hd:∀ t,o.dst=some t→t < n)
  (hk:∀ σ' a' w' Z' G',k σ'→Sim C.P Θ n σ' a' w' Z' G'→K a' w') (hp:∀ s σ' w' Z' G' v,C.pan s σ'→Sim C.P Θ n σ' a w' Z' G'→ag w' Z' G' s v→Q (.panic [{ v:=v,recovered:=false }]) a w')
  {f:FuncId} {fn:Func} {cf:Operand} {args:Array Operand} {ts:Array TypeId} {cs:List SV} {fs:List Bool} {F:Tr} (ho:o.op = .call { callee:=.value cf,args:=args,argTypes:=ts }) (hcf:σ.ev cf = .clo f cs) (hf:C.P.funcs[f]? = some fn)
  (hF:C.trs f=some (fs,F)) (h:sF C o.dst q fs F fn args.toList cf σ k):o.wp C.P a w K Q:=by
 obtain ⟨hbody,hname,hcalls⟩:=hC.trs f fn fs F hf hF
 unfold sF at h
 split at h
 ·cases h
 rename_i σ1 hfr
 simp only [force_eq,mX,dE,lR] at h
 obtain ⟨Z1,S1⟩:=cX S hfr
 split at h
 case h_2=>cases h
 rename_i f' caps hcf'
 obtain ⟨hb,h⟩:=aA h
 simp only [Bool.and_eq_true] at hb
 obtain ⟨⟨⟨hn1,hn2⟩,hcan⟩,hqm⟩:=hb
 generalize hm:iJ σ1.objs 0 (reach σ1.objs 400 (SV.hs.hss (mo C.P fs fn.params.toList (evs σ1 args.toList) ++ caps)) [])=m at h hn1 hn2 hcan hqm
 have hkk:∀ {i j:Nat},lk m i=some j→Θ.kb=false∧Θ.ka=false:=fun {i j} hij=>hkq (by
  cases q with
  | false=>rfl
  | true=>
   cases m with
   | nil=>cases hij
   | cons x r=>simp [EP] at hqm)
 obtain ⟨cv,hcv,_⟩:∃ vs,a.eval cf = .func (.func f) #[] vs∧ab w Z G cs vs.toList:=by have:=S.ev cf;rw [hcf] at this;exact this
 obtain ⟨cv',hcv',hcaps⟩:∃ vs,a.eval cf = .func (.func f') #[] vs∧ab w Z1 G caps vs.toList:=by have:=S1.ev cf;rw [hcf'] at this;exact this
 have hcveq:cv' = cv:=by rw [hcv] at hcv';cases hcv';rfl
 subst hcveq
 let Gc:Nat→Value:=fun j=>match lk (cm m) j with | some i=>G i | none=>.pointer none
 have hGc:∀ i j,lk m i=some j→Gc j=G i:=fun i j hij=>by show (match lk (cm m) j with | some i=>G i | none=>.pointer none)=_;rw [jX hn2 hij]
 have hargs:ab w Z1 Gc (SV.ren.rens m (mo C.P fs fn.params.toList (evs σ1 args.toList) ++ caps)) (args.toList.map a.eval ++ cv'.toList):=
  ab.ren hGc _ _ ((nW (S1.evs_rep _)).app hcaps)
 have hpk:∀ j o',az (dO σ1.objs m m) j=some o'→∃ i p,lk m i=some j∧az σ1.objs i=some p∧o' = p.ren m∧Gc j=G i:=fun j o' hj=>by
  obtain ⟨i,p,h1,h2,h3⟩:=fQ hj
  exact ⟨i,p,cL hn1 h1,h2,h3,hGc i j (cL hn1 h1)⟩
 have hst:yV C.P w Z1 Gc (dO σ1.objs m m):=
  {lt:=S1.lt
   flat:=fun j=>by
    show (match lk (cm m) j with | some i=>G i | none=>Value.pointer none).oneCell' = true
    split
    ·exact S1.flat _
    ·rfl
   obj:=fun j o' hj=>by
    obtain ⟨i,p,h1,h2,rfl,_⟩:=hpk j o' hj
    exact cg.ren hGc h1 (S1.obj i p h2)
   sep:=fun j j' o1 o2 b hj hj' hb hb'=>by
    obtain ⟨i,p,h1,h2,_,h3⟩:=hpk j o1 hj
    obtain ⟨i',p',h1',h2',_,h3'⟩:=hpk j' o2 hj'
    rw [h3] at hb
    rw [h3'] at hb'
    have:=S1.sep i i' p p' b h2 h2' hb hb'
    subst this
    rw [h1] at h1'
    exact Option.some.inj h1'
   free:=fun j o' b hj hb=>by
    obtain ⟨i,p,h1,h2,_,h3⟩:=hpk j o' hj
    rw [h3] at hb
    exact (S1.free i p b h2 hb).1 }
 have hc:=hcalls _ _ _ hcan h w Z1 Gc (args.toList.map a.eval ++ cv'.toList) hargs hst
 unfold Oper.wp execOp
 have hrun:(do let d ← resolve a.eval { callee:=.value cf,args:=args,argTypes:=ts } o.type;invoke d.target d.args:Sem Next).run C.P w = .ok (.enter f (args.toList.map a.eval ++ cv'.toList).toArray) w:=by
  have harr:args.map a.eval ++ cv' = (args.toList.map a.eval ++ cv'.toList).toArray:=by apply Array.ext';simp
  have hn:¬ fn.name = "runtime.NumGoroutine" := by simpa using hname
  have hb:¬ fn.body=none:=by intro e;rw [e] at hbody;cases hbody
  simp [resolve,hcv,Deferred.ofValue,invoke,callFunc,hf,hn,hb,harr]
 simp only [ho,hrun,Oper.upon]
 refine hc.mono fun e w' ⟨out,objs',Z',G',hR,hout,A⟩=>?_
 unfold rR at hR
 simp only [force_eq,mX,jx,dE] at hR
 generalize hbm:kQ (cm m) ((match o.dst with | some d=>d | none=>0) * 64 + 8) (iL objs')=b at hR
 obtain ⟨hb,hR⟩:=aA hR
 simp only [Bool.and_eq_true] at hb
 obtain ⟨⟨hb1,hb2⟩,hev⟩:=hb
 have hbmem:∀ c i,(c,i) ∈ b→lk (cm m) c=some i∨(lk (cm m) c=none∧i % 2=0):=fun c i hci=>j5 (by rw [hbm];exact hci)
 let G2:Nat→Value:=fun id=>match lk (cm b) id with | some c=>G' c | none=>G id
 have hG2:∀ c i,lk b c=some i→G2 i=G' c:=fun c i hci=>by show (match lk (cm b) i with | some c=>G' c | none=>G i)=_;rw [jX hb2 hci]
 have hmobj:∀ i j,(i,j) ∈ m→∃ p,az σ1.objs i=some p:=fun i j hij=>jz (by rw [hm];exact hij)
 have hsame:∀ i,i ∉ c9 m ++ dJ (cm m) b→G2 i=G i:=by
  intro i hi
  have hi1:i ∉ c9 m:=fun hx=>hi (List.mem_append.2 (.inl hx))
  have hi2:i ∉ dJ (cm m) b:=fun hx=>hi (List.mem_append.2 (.inr hx))
  show (match lk (cm b) i with | some c=>G' c | none=>G i)=_
  split
  ·rename_i c hc'
   have hci:(c,i) ∈ b:=gB.1 (lG hc')
   rcases hbmem c i hci with h1 | ⟨h1,_⟩
   ·have him:(i,c) ∈ m:=gB.1 (lG h1)
    have hoc:c % 2=1:=by
     cases hod:lM c with
     | true=>exact Nat.eq_of_beq_eq_true hod
     | false=>exact absurd (iA him hod) hi1
    obtain ⟨p,hp'⟩:=hmobj i c him
    obtain ⟨p',hp''⟩:=iP (nv (m:=m) him hp')
    rw [A.keep c p' hp'' hoc,hGc i c (cL hn1 him)]
   ·exact absurd (ju hci h1) hi2
  ·rfl
 have hflat:∀ i,(G2 i).oneCell' = true:=fun i=>by
  show (match lk (cm b) i with | some c=>G' c | none=>G i).oneCell' = true
  split
  ·exact A.stand.flat _
  ·exact S1.flat _
 have hodd:∀ i,i % 2=1→G2 i=Θ.G0 i:=fun i hi=>by
  rw [hsame i (fun hm'=>by have:=nP hev hm';omega)]
  exact S1.odd i hi
 have S2:Sim C.P Θ n ⟨σ1.env,nm σ1.objs m⟩ a w Z1 G:=S1.less (fun t=>.inl rfl) (fun id o' ho'=>(kB ho').2)
 have S3:=Sim.wipe (c9 m ++ dJ (cm m) b) S2 hsame hflat hodd
 generalize hσ3:St.wipe ⟨σ1.env,nm σ1.objs m⟩ (c9 m ++ dJ (cm m) b)=σ3 at S3 hR
 have hold:∀ id o',az σ3.objs id=some o'→id ∉ mM m∧G2 id=G id∧∃ p,az σ1.objs id=some p:=by
  intro id o' hid
  rw [← hσ3] at hid
  obtain ⟨h1,p,h2⟩:=vn hid
  obtain ⟨h3,h4⟩:=kB h2
  exact ⟨h3,hsame id h1,p,h4⟩
 have hB:∀ c,bH Gc (dO σ1.objs m m) c→∃ i j p,lk m i=some j∧az σ1.objs i=some p∧blk (G i)=some c:=fun c ⟨j,o',hj,hbj⟩=>by
  obtain ⟨i,p,h1,h2,_,h3⟩:=hpk j o' hj
  rw [h3] at hbj
  exact ⟨i,j,p,h1,h2,hbj⟩
 have hBM:∀ c,bH Gc (dO σ1.objs m m) c→(Θ.M c∨Θ.w.heap.size≤c)∧c < w.heap.size∧¬ Z1 c:=fun c hc'=>by
  obtain ⟨i,j,p,h1,h2,h3⟩:=hB c hc'
  obtain ⟨h4,h5⟩:=S1.free i p c h2 h3
  refine ⟨?_,cg.lt S1 h2 h3,h4⟩
  rcases h5 with h5 | h5 | h5
  ·exact .inl h5
  ·have:=S1.keep i p c h2 h3 h5
   obtain ⟨hkb,hka⟩:=hkk h1
   cases p<;>simp [Anc.keeps,hkb,hka] at this
  ·exact .inr h5
 have hnot:∀ id o' c,az σ3.objs id=some o'→blk (G2 id)=some c→¬ bH Gc (dO σ1.objs m m) c∧c < w.heap.size:=by
  intro id o' c hid hbc
  obtain ⟨h1,h2,p,h3⟩:=hold id o' hid
  rw [h2] at hbc
  refine ⟨fun hc'=>?_,cg.lt S1 h3 hbc⟩
  obtain ⟨i,j,q,h4,h5,h6⟩:=hB c hc'
  have:=S1.sep id i p q c h3 h5 hbc h6
  subst this
  exact h1 (qv (lG h4))
 have S4:=S3.goes hBM (fun id o' c hid hbc=>(hnot id o' c hid hbc).1) A.fut A.sub A.new A.stand.lt A.row
 have hL:∀ id o',(id,o') ∈ dO objs' b b→∃ c p,lk b c=some id∧az objs' c=some p∧o' = p.ren b∧G2 id=G' c:=fun id o' hid=>by
  obtain ⟨c,p,h1,h2,h3⟩:=kU hid
  exact ⟨c,p,cL hb1 h1,h2,h3,hG2 c id (cL hb1 h1)⟩
 have hown:∀ c p d,az objs' c=some p→blk (G' c)=some d→¬ Z' d∧(Θ.M d∨Θ.w.heap.size≤d):=fun c p d hc' hbd=>by
  refine ⟨A.stand.free c p d hc' hbd,?_⟩
  rcases A.own c p d hc' hbd with h1 | h1
  ·exact (hBM d h1).1
  ·exact .inr (Nat.le_trans S1.fut.size h1)
 have S5:Sim C.P Θ n ⟨σ3.env,DX σ3.objs (dO objs' b b)⟩ a w' Z' G2:=by
  refine S4.lay ?_ ?_ ?_ ?_ ?_
  ·intro id o' hid
   obtain ⟨c,p,h1,h2,rfl,_⟩:=hL id o' hid
   exact cg.ren hG2 h1 (A.stand.obj c p h2)
  ·intro id o' d hid hbd
   obtain ⟨c,p,h1,h2,_,h3⟩:=hL id o' hid
   rw [h3] at hbd
   exact hown c p d h2 hbd
  ·intro id o' d hid hbd hN
   obtain ⟨c,p,h1,h2,_,h3⟩:=hL id o' hid
   rw [h3] at hbd
   rcases A.own c p d h2 hbd with h4 | h4
   ·obtain ⟨i,j,q,h5,h6,h7⟩:=hB d h4
    have:=S1.keep i q d h6 h7 hN
    obtain ⟨hkb,hka⟩:=hkk h5
    cases q<;>simp [Anc.keeps,hkb,hka] at this
   ·have h5:=S1.nlt d hN
    have h6:=S1.fut.size
    omega
  ·intro id id' o1 o2 d hid hid' hbd hbd'
   obtain ⟨c,p,h1,h2,_,h3⟩:=hL id o1 hid
   obtain ⟨c',p',h1',h2',_,h3'⟩:=hL id' o2 hid'
   rw [h3] at hbd
   rw [h3'] at hbd'
   have:=A.stand.sep c c' p p' d h2 h2' hbd hbd'
   subst this
   rw [h1] at h1'
   exact Option.some.inj h1'
  ·intro id id' o1 o2 d hid hid' hbd hbd'
   obtain ⟨c,p,h1,h2,_,h3⟩:=hL id o1 hid
   rw [h3] at hbd
   obtain ⟨h4,h5⟩:=hnot id' o2 d hid' hbd'
   rcases A.own c p d h2 hbd with h6 | h6
   ·exact h4 h6
   ·omega
 cases out with
 | ret vs=>
  match vs,hout,hR with
  | [v],⟨x,he,hx⟩,hR=>
   subst he
   exact hk _ _ _ _ _ hR (S5.put (ag.ren hG2 _ _ hx) hd)
  | [],⟨x,he,hx⟩,hR=>
   subst he
   exact hk _ _ _ _ _ hR (S5.put (ag.ren hG2 (.tup []) _ hx) hd)
  | v :: v' :: vs,⟨x,he,hx⟩,hR=>
   subst he
   exact hk _ _ _ _ _ hR (S5.put (ag.ren hG2 (.tup (v :: v' :: vs)) _ hx) hd)
 | pan s=>
  obtain ⟨x,he,hx⟩:=hout
  subst he
  exact hp _ _ _ _ _ _ hR S5 (ag.ren hG2 _ _ hx)
end
end Go.Den

namespace Go.Den
open Go Go.RowKit
theorem bK {P:Program} {w:World} {r:Nat} {es:Array MapEntry} {clock:Nat} (hb:w.heap[r]? = some (.map es clock)):(getObj r).run P w = .ok (.map es clock) w:=by
 simp [getObj,Sem.run,hb]
theorem cZ {P:Program} {w:World} {r:Nat} {es:Array MapEntry} {clock:Nat} (o:Go.Obj) (hb:w.heap[r]? = some (.map es clock)):(setObj r o).run P w = .ok () { w with heap:=w.heap.setIfInBounds r o }:=by
 simp [setObj,Sem.run,hb]
theorem gF (w:World) (r:Nat) (o:Go.Obj):w.grownBy { w with heap:=w.heap.setIfInBounds r o } (some r):=
 ⟨rfl,rfl,rfl,by simp,fun k hk hne=>by
   have:k≠r:=fun e=>hne (by rw [e])
   simp [Ne.symm this]⟩
theorem heap_set {w:World} {r:Nat} {o o':Go.Obj} (h:w.heap[r]? = some o'):(({ w with heap:=w.heap.setIfInBounds r o }:World)).heap[r]? = some o:=by
 have:r < w.heap.size:=(Array.getElem?_eq_some_iff.1 h).1
 simp [this]
section
variable {P:Program} {w:World} {Z:Nat→Prop} {G:Nat→Value}
theorem bC.length {km vm:Bool} {kcs vcs:List Ct}:∀ {es:List (U × U)} {n:Nat} {l:List MapEntry},bC w Z km kcs vm vcs n es l→l.length=es.length
 | [],_,_,h=>by have h:_=[]:=h;subst h;rfl
 | (_,_) :: _,_,_,h=>by
  obtain ⟨e,t,rfl,_,_,_,ht⟩:=h
  simp [bC.length ht]
theorem jB {t:TypeId} {kc:Ct} (h:nF P t=some kc):∃ d,P.underlying t=some d∧((∃ k,d = .int k∧kc = .int k)∨(d = .bool∧kc = .bool)∨(d = .string∧kc = .str))∧Cs P t=some (false,[kc]):=by
 unfold nF at h
 split at h
 ·rename_i k hu
  injection h with h;subst h
  refine ⟨_,hu,.inl ⟨k,rfl,rfl⟩,?_⟩
  unfold Cs cts;rw [hu]
 ·rename_i hu
  injection h with h;subst h
  refine ⟨_,hu,.inr (.inl ⟨rfl,rfl⟩),?_⟩
  unfold Cs cts;rw [hu]
 ·rename_i hu
  injection h with h;subst h
  refine ⟨_,hu,.inr (.inr ⟨rfl,rfl⟩),?_⟩
  unfold Cs cts;rw [hu]
 ·cases h
theorem pR {t:TypeId} {kc:Ct} {vt:TypeId} {vm:Bool} {vcs:List Ct} (h:mapOf P t=some (kc,vt,vm,vcs)):∃ kt,P.underlying t=some (.map kt vt)∧nF P kt=some kc∧Cs P vt=some (vm,vcs):=by
 unfold mapOf at h
 split at h
 ·rename_i kt vt' hu
  split at h
  ·rename_i kc' vm' vcs' h1 h2
   injection h with h
   cases h
   exact ⟨kt,hu,h1,h2⟩
  ·cases h
 ·cases h
theorem iv {kt:TypeId} {kc:Ct} (h:nF P kt=some kc) (e:Bool) (v:Value):(Instr.checkKey e 10000 kt v).run P w = .ok () w:=by
 obtain ⟨d,hu,hd,_⟩:=jB h
 have key:∀ n:Nat,(Instr.checkKey e (n + 1) kt v).run P w = .ok () w:=fun n=>by
  rcases hd with ⟨k,rfl,_⟩ | ⟨rfl,_⟩ | ⟨rfl,_⟩<;>simp [Instr.checkKey,run_underlying hu]
 exact key 9999
theorem wE {kt:TypeId} {kc:Ct} {d:TypeDesc} (hu:P.underlying kt=some d) (h:nF P kt=some kc) {v x:Value} {u a:U} (hv:aR w Z kc v u) (hx:aR w Z kc x a):Instr.sameNow d v x=some (ueq kc u a):=by
 obtain ⟨d',hu',hd,_⟩:=jB h
 rw [hu] at hu'
 cases hu'
 rcases hd with ⟨k,rfl,rfl⟩ | ⟨rfl,rfl⟩ | ⟨rfl,rfl⟩
 ·have hv:v = .int k u.int:=hv.1
  have hx:x = .int k a.int:=hx.1
  subst hv hx
  simp only [Instr.sameNow,ueq,if_true,Option.some.injEq]
  rw [Bool.eq_iff_iff]
  simp
 ·have hv:v = .bool u.bool:=hv
  have hx:x = .bool a.bool:=hx
  subst hv hx
  rfl
 ·have hv:v = .string u.str:=hv.1
  have hx:x = .string a.str:=hx.1
  subst hv hx
  have e:(u.str == a.str)=(u.str.data == a.str.data):=rfl
  simp only [Instr.sameNow,ueq,Option.some.injEq,e]
  rw [Bool.eq_iff_iff]
  simp only [beq_iff_eq]
  exact ⟨fun h=>by rw [h],fun h=>Array.ext' h⟩
theorem EB {kc:Ct} {v x:Value} {u a:U} (hs:jo kc=true) (hv:aR w Z kc v u) (hx:aR w Z kc x a) (h:ueq kc u a=true):v=x:=by
 cases kc with
 | int k=>
  have hv:v = .int k u.int:=hv.1
  have hx:x = .int k a.int:=hx.1
  have:u.int=a.int:=of_decide_eq_true h
  rw [hv,hx,this]
 | bool=>
  have hv:v = .bool u.bool:=hv
  have hx:x = .bool a.bool:=hx
  have:u.bool=a.bool:=by simpa [ueq] using h
  rw [hv,hx,this]
 | str=>
  have hv:v = .string u.str:=hv.1
  have hx:x = .string a.str:=hx.1
  have h:u.str.data.toList=a.str.data.toList:=by simp only [ueq,beq_iff_eq] at h;exact h
  have:u.str=a.str:=by
   have:u.str.data=a.str.data:=Array.ext' h
   cases hu:u.str;cases ha:a.str
   rw [hu,ha] at this
   cases this
   rfl
  rw [hv,hx,this]
 | sl m cs=>cases hs
 | oth=>cases hs
theorem lI {vm:Bool} {vcs:List Ct} {v:Value} {u:U} (h:gp w Z vm vcs v u):ag w Z G (m8 vm vcs u) v:=by
 cases vm with
 | true=>obtain ⟨vs,rfl,hr⟩:=h;exact ⟨vs,rfl,aX.vals hr⟩
 | false=>obtain ⟨c,rfl,hr⟩:=h;exact hr
theorem iQ {kt:TypeId} {kc:Ct} {d:TypeDesc} (hu:P.underlying kt=some d) (hkc:nF P kt=some kc) {vm:Bool} {vcs:List Ct} {kv:Value} {ku:U} (hkv:aR w Z kc kv ku) (z:U) :
  ∀ {es:List (U × U)} {n:Nat} {l:List MapEntry} (i:Nat),bC w Z false [kc] vm vcs n es l→
   (gL kc ku es=false∧Instr.findNow d kv l i=some none∧gf kc ku z es=z∧fO kc ku es=es.length)∨
   (gL kc ku es=true∧∃ x,Instr.findNow d kv l i=some (some (i + fO kc ku es,x))∧gp w Z vm vcs x (gf kc ku z es)∧fO kc ku es < es.length∧∃ e,l[fO kc ku es]? = some e∧e.val=x∧e.born=n + fO kc ku es∧e.key=kv)
 | [],n,l,i,h=>by
  have h:l=[]:=h
  subst h
  exact .inl ⟨rfl,rfl,rfl,rfl⟩
 | (a,x) :: r,n,l,i,h=>by
  obtain ⟨e,t,rfl,hb,⟨c,hc,hk⟩,hx,ht⟩:=h
  cases hc
  have hs:=wE hu hkc hkv hk
  unfold Instr.findNow gL gf fO
  rw [hs]
  cases hq:ueq kc ku a with
  | true=>
   have hsc:jo kc=true:=by
    obtain ⟨d',_,hd,_⟩:=jB hkc
    rcases hd with ⟨k,_,rfl⟩ | ⟨_,rfl⟩ | ⟨_,rfl⟩<;>rfl
   have:=EB hsc hkv hk hq
   exact .inr ⟨rfl,e.val,by simp,hx,by simp,e,by simp,rfl,by simp [hb],this.symm⟩
  | false=>
   rcases iQ hu hkc hkv z (i + 1) ht with ⟨h1,h2,h3,h4⟩ | ⟨h1,y,h2,h3,h4,e',h5,h6,h7,h8⟩
   ·exact .inl ⟨by simpa using h1,by simpa using h2,by simpa using h3,by simp [h4]⟩
   ·refine .inr ⟨by simpa using h1,y,?_,by simpa using h3,by simpa using h4,e',by simpa using h5,h6,by simp [h7];omega,h8⟩
    simp only [cond_false]
    rw [h2,show i + 1 + fO kc ku r=i + (fO kc ku r + 1) by omega]
theorem dc {kt:TypeId} {d:TypeDesc} (hu:P.underlying kt=some d) {kv:Value} {l:List MapEntry} {x:Option (Nat × Value)} (h:Instr.findNow d kv l 0=some x):(Instr.findKey kt kv l).run P w = .ok x w:=by
 simp [Instr.findKey,run_underlying hu,h]
theorem gp.ofL {vm:Bool} {vcs:List Ct} {v:Value} {us:List U} {vt:TypeId} (hcs:Cs P vt=some (vm,vcs)) (hv:Bj vm v=true) (h:aX w Z vcs v.cells.toList us):gp w Z vm vcs v (ofElem vm us):=by
 cases vm with
 | true=>
  cases v<;>simp [Bj,sX] at hv
  exact ⟨_,rfl,h⟩
 | false=>
  obtain ⟨c,rfl⟩:=iX hcs
  refine ⟨c,rfl,?_⟩
  have hc:v.cells = #[v]:=by cases v<;>simp [Bj,sX] at hv<;>rfl
  rw [hc] at h
  obtain ⟨v',t,hv,hr,_⟩:=h
  cases hv
  exact hr
theorem vV {e:TypeId} {z:U} {vm:Bool} {vcs:List Ct} (hcs:Cs P e=some (vm,vcs)) (h:za P e vm=some z):∃ i zv,P.info? e=some i∧i.zero=some zv∧gp w Z vm vcs zv z:=by
 unfold za at h
 split at h
 ·rename_i i hi
  split at h
  ·rename_i zv hzv
   obtain ⟨hb,h⟩:=lU h
   obtain ⟨i',m,cs,zv',h1,h2,h3,h4⟩:=jm (w:=w) (Z:=Z) h
   rw [hi] at h1
   cases h1
   rw [hzv] at h2
   cases h2
   rw [hcs] at h3
   cases h3
   refine ⟨i,zv,hi,hzv,?_⟩
   have:=gp.ofL (P:=P) hcs hb h4
   cases vm with
   | true=>
    obtain ⟨vs,hv,hr⟩:=this
    exact ⟨vs,hv,hr⟩
   | false=>
    obtain ⟨c,hc,hr⟩:=this
    exact ⟨c,hc,hr⟩
  ·cases h
 ·cases h
end
theorem mE {w:World} {Z:Nat→Prop} {kc:Ct} {vm:Bool} {vcs:List Ct} {kv xv:Value} {ku xu:U} (hs:jo kc=true) (hkv:aR w Z kc kv ku) (hxv:gp w Z vm vcs xv xu) :
  ∀ {es:List (U × U)} {n:Nat} {l:List MapEntry},bC w Z false [kc] vm vcs n es l→
   (gL kc ku es=false→bC w Z false [kc] vm vcs n (dn kc ku xu es) (l ++ [{ key:=kv,val:=xv,born:=n + es.length }])∧(dn kc ku xu es).length=es.length + 1)∧
   (gL kc ku es=true→bC w Z false [kc] vm vcs n (dn kc ku xu es) (l.modify (fO kc ku es) fun e=>{ e with key:=kv,val:=xv })∧(dn kc ku xu es).length=es.length)
 | [],n,l,h=>by
  have h:l=[]:=h
  subst h
  exact ⟨fun _=>⟨⟨_,[],rfl,rfl,⟨kc,rfl,hkv⟩,hxv,rfl⟩,rfl⟩,fun h=>by cases h⟩
 | (a,x) :: r,n,l,h=>by
  obtain ⟨e,t,rfl,hb,⟨c,hc,hk⟩,hx,ht⟩:=h
  cases hc
  obtain ⟨i1,i2⟩:=mE hs hkv hxv ht
  unfold gL dn fO
  cases hq:ueq kc ku a with
  | true=>
   refine ⟨fun h=>by simp at h,fun _=>⟨?_,by simp⟩⟩
   simp only [cond_true,List.modify_zero_cons]
   exact ⟨_,t,rfl,hb,⟨kc,rfl,hkv⟩,hxv,ht⟩
  | false=>
   simp only [Bool.false_or,cond_false]
   refine ⟨fun h=>?_,fun h=>?_⟩
   ·obtain ⟨j1,j2⟩:=i1 h
    refine ⟨⟨e,t ++ [_],rfl,hb,⟨kc,rfl,hk⟩,hx,?_⟩,by simp [j2]⟩
    simpa [Nat.add_assoc,Nat.add_comm 1] using j1
   ·obtain ⟨j1,j2⟩:=i2 h
    refine ⟨⟨e,_,by rw [List.modify_succ_cons],hb,⟨kc,rfl,hk⟩,hx,j1⟩,by simp [j2]⟩
theorem zE {w:World} {Z:Nat→Prop} {km:Bool} {kcs:List Ct} {vm:Bool} {vcs:List Ct} {xv:Value} {xu:U} (hxv:gp w Z vm vcs xv xu) :
  ∀ {es:List (U × U)} {n:Nat} {l:List MapEntry} (j:Nat),bC w Z km kcs vm vcs n es l→j < es.length→
   bC w Z km kcs vm vcs n (AJ xu j es) (l.modify j fun e=>{ e with val:=xv })∧(AJ xu j es).length=es.length∧l.findIdx? (fun e=>(e.born:Int) == ((n + j:Nat):Int))=some j
 | [],n,l,j,_,hj=>absurd hj (by simp)
 | (a,x) :: r,n,l,0,h,_=>by
  obtain ⟨e,t,rfl,hb,hk,hx,ht⟩:=h
  refine ⟨⟨{ e with val:=xv },t,by simp,hb,hk,hxv,ht⟩,rfl,?_⟩
  simp [List.findIdx?_cons,hb]
 | (a,x) :: r,n,l,j + 1,h,hj=>by
  obtain ⟨e,t,rfl,hb,hk,hx,ht⟩:=h
  obtain ⟨h1,h2,h3⟩:=zE hxv j ht (by simpa using hj)
  refine ⟨⟨e,_,by rw [List.modify_succ_cons],hb,hk,hx,h1⟩,by simp [AJ,h2],?_⟩
  have hne:((e.born:Int) == ((n + (j + 1):Nat):Int))=false:=by simp [hb];omega
  rw [List.findIdx?_cons,hne]
  rw [show n + (j + 1)=n + 1 + j by omega,h3]
  rfl
section
variable {C:Ctx} {Θ:Anc} {n:Nat} {σ:St} {a:Act} {w:World} {Z:Nat→Prop} {G:Nat→Value} {o:Oper} {K:Act→World→Prop} {Q:Exit→Act→World→Prop} {k:St→Prop}
theorem xE {t kt vt:TypeId} {args:Array Operand} {x:Operand} {r:Nat} {es:Array MapEntry} {clock:Nat} {ts:Array TypeId} (ho:o.op = .call { callee:=.builtin .len,args:=args,argTypes:=ts }) (ha:args.toList=[x]) (ht:ts.toList=[t])
  (hu:C.P.underlying t=some (.map kt vt)) (hx:a.eval x = .map (some r)) (hr:w.heap[r]? = some (.map es clock)) (hk:K (a.put o.dst (.int .i64 (es.size:Int))) w):o.wp C.P a w K Q:=by
 refine aG (v:=.int .i64 (es.size:Int)) (w':=w) ?_ hk
 have ha':args = #[x]:=by cases args;simp_all
 have ht':ts = #[t]:=by cases ts;simp_all
 subst ha' ht'
 simp [execOp,ho,resolve,invoke,builtin,Builtin.len_,run_underlying hu,hx,bK hr,goInt]
theorem tj (S:Sim C.P Θ n σ a w Z G) {x i:Operand} {t:TypeId} {kc:Ct} {vt:TypeId} {vm:Bool} {vcs:List Ct} {id:Nat} {es:List (U × U)} {ku:U} (hm:mapOf C.P t=some (kc,vt,vm,vcs)) (hx:σ.ev x = .mp id) (ho:az σ.objs id=some (.map t es)) (hi:cQ kc (σ.ev i)=some ku) :
  ∃ b ents kt d,C.P.underlying t=some (.map kt vt)∧C.P.underlying kt=some d∧nF C.P kt=some kc∧jo kc=true∧G id = .pointer (some ⟨b,0,none⟩)∧a.eval x = .map (some b)∧w.heap[b]? = some (.map ents es.length)∧bC w Z false [kc] vm vcs 0 es ents.toList∧aR w Z kc (a.eval i) ku∧
   Cs C.P kt=some (false,[kc])∧Cs C.P vt=some (vm,vcs):=by
 obtain ⟨kt,h1,h2,h3⟩:=pR hm
 obtain ⟨d,h4,hd,h5⟩:=jB h2
 obtain ⟨b,hG,hv⟩:∃ b,G id = .pointer (some ⟨b,0,none⟩)∧a.eval x = .map (some b):=by have:=S.ev x;rw [hx] at this;exact this
 obtain ⟨b',ents,kt',vt',km,kcs,vm',vcs',g1,g2,g3,g4,g5,g6⟩:=S.obj id _ ho
 rw [hG] at g1
 cases g1
 rw [h1] at g3
 cases g3
 rw [h5] at g4
 cases g4
 rw [h3] at g5
 cases g5
 refine ⟨b,ents,kt,d,h1,h4,h2,?_,hG,hv,g2,g6,dM hi (S.ev i),h5,h3⟩
 rcases hd with ⟨k,_,rfl⟩ | ⟨_,rfl⟩ | ⟨_,rfl⟩<;>rfl
theorem tZ {t:TypeId} {x i:Operand} {ok:Bool} (S:Sim C.P Θ n σ a w Z G) (hd:∀ t,o.dst=some t→t < n)
  (hk:∀ σ' a' w' Z' G',k σ'→Sim C.P Θ n σ' a' w' Z' G'→K a' w') (ho:o.op = .lookup t x i ok) (h:op1 C o σ k):o.wp C.P a w K Q:=by
 simp only [op1,ho] at h
 split at h
 ·rename_i kc vt vm vcs id hm hx
  split at h
  ·rename_i t' es ku z hob hku hz
   obtain ⟨hb,h'⟩:=aA h
   clear h
   have htt:=Nat.eq_of_beq_eq_true hb
   subst htt
   obtain ⟨b,ents,kt,d,h1,h2,h3,h4,h5,h6,h7,h8,h9,h10,h11⟩:=tj S hm hx hob hku
   obtain ⟨zi,zv,z1,z2,hzk⟩:=vV (w:=w) (Z:=Z) h11 hz
   have hch:(Instr.checkKey ents.isEmpty 10000 kt (a.eval i)).run C.P w = .ok () w:=iv h3 _ _
   have hfin:∃ v,gp w Z vm vcs v (gf kc ku z es)∧(execOp a.eval o).run C.P w = .ok (.value (if ok then .tuple #[v,.bool (gL kc ku es)] else v)) w:=by
    rcases iQ h2 h3 h9 z 0 h8 with ⟨g1,g2,g3,_⟩ | ⟨g1,y,g2,g3,_⟩
    ·refine ⟨zv,by rw [g3];exact hzk,?_⟩
     have hf:=dc (w:=w) h2 g2
     cases ok<;>simp [execOp,ho,Instr.lookup,run_underlying h1,h6,bK h7,hch,hf,zeroValue,typeInfo,z1,z2,g1]
    ·refine ⟨y,g3,?_⟩
     have hf:=dc (w:=w) h2 g2
     cases ok<;>simp [execOp,ho,Instr.lookup,run_underlying h1,h6,bK h7,hch,hf,g1]
   obtain ⟨v,hv,hrun⟩:=hfin
   refine aG hrun ?_
   cases ok with
   | true=>exact hk _ _ _ _ _ h' (S.put (s:=.tup [m8 vm vcs (gf kc ku z es),.val .bool (.b (gL kc ku es))]) ⟨_,rfl,_,_,rfl,lI hv,_,[],rfl,rfl,rfl⟩ hd)
   | false=>exact hk _ _ _ _ _ h' (S.put (lI hv) hd)
  ·cases h
 ·cases h
theorem nk {kc:Ct} {kv:Value} {u:U} {e:MapEntry} (hs:jo kc=true) (h:aR w Z kc kv u) (he:e.key=kv):(Instr.keyThatStays e.key kv).run C.P w = .ok kv w:=by
 have:Instr.sameBits (9999 + 1) kv kv=true:=by
  cases kc with
  | int k=>have h:kv = .int k u.int:=h.1;subst h;simp [Instr.sameBits]
  | bool=>have h:kv = .bool u.bool:=h;subst h;simp [Instr.sameBits]
  | str=>
   have h:kv = .string u.str:=h.1
   subst h
   have e:(u.str == u.str)=(u.str.data == u.str.data):=rfl
   simp [Instr.sameBits,e]
  | sl m cs=>cases hs
  | oth=>cases hs
 simp [Instr.keyThatStays,he,this]
theorem qj (hG:∀ id,(G id).oneCell' = true) {vm:Bool} {s:SV} {v:Value} {us:List U} {vcs:List Ct} (hus:fE cQ vcs (br s)=some us) (h:Cv vm s=true) (hr:ag w Z G s v):Bj vm v=true:=by
 have hc:=c3 hus
 have one:fK s=true→Cv vm s = !vm→Bj vm v=true:=fun h1 h2=>by
  rw [h2] at h
  have hvm:vm=false:=by simpa using h
  subst hvm
  have:=ln hG h1 hr
  cases v<;>first | rfl | cases this
 cases s with
 | agg cs=>
  obtain ⟨vs,rfl,_⟩:=hr
  have:vm=true:=h
  subst this;rfl
 | tup l=>simp [br,bN,fK] at hc
 | und=>simp [br,bN,fK] at hc
 | unk=>simp [br,bN,fK] at hc
 | osl _ _ _=>simp [br,bN,fK] at hc
 | _=>exact one rfl rfl
theorem tz {t:TypeId} {x i v:Operand} (hkb:Θ.kb=false) (S:Sim C.P Θ n σ a w Z G) (hd:o.dst=none)
  (hk:∀ σ' a' w' Z' G',k σ'→Sim C.P Θ n σ' a' w' Z' G'→K a' w') (ho:o.op = .mapUpdate t x i v) (h:op1 C o σ k):o.wp C.P a w K Q:=by
 simp only [op1,ho] at h
 split at h
 ·rename_i kc vt vm vcs id hm hx
  split at h
  ·rename_i t' es ku us hob hku hus
   obtain ⟨hb,h'⟩:=aA h
   clear h
   simp only [Bool.and_eq_true] at hb
   obtain ⟨hb,hag⟩:=hb
   have htt:=Nat.eq_of_beq_eq_true hb
   subst htt
   obtain ⟨b,ents,kt,d,h1,h2,h3,h4,h5,h6,h7,h8,h9,h10,h11⟩:=tj S hm hx hob hku
   have hch:(Instr.checkKey false 10000 kt (a.eval i)).run C.P w = .ok () w:=iv h3 _ _
   obtain ⟨hcv,_⟩:=gE S (c3 hus)
   have hxv:gp w Z vm vcs (a.eval v) (ofElem vm us):=gp.ofL h11 (qj S.flat hus hag (S.ev v)) (dH hus hcv)
   have hlt:b < w.heap.size:=(Array.getElem?_eq_some_iff.1 h7).1
   have hgo:∀ ents':Array MapEntry,bC w Z false [kc] vm vcs 0 (dn kc ku (ofElem vm us) es) ents'.toList→
     (execOp a.eval o).run C.P w = .ok .skip { w with heap:=w.heap.setIfInBounds b (.map ents' (dn kc ku (ofElem vm us) es).length) }→o.wp C.P a w K Q:=by
    intro ents' hrep hrun
    have hg:=gF w b (.map ents' (dn kc ku (ofElem vm us) es).length)
    have hK:Stays w { w with heap:=w.heap.setIfInBounds b (.map ents' (dn kc ku (ofElem vm us) es).length) } Z Z:=⟨fun _ h=>h,fun c hc=>hg.block c (S.lt c hc) (fun e=>by
     cases e;exact (S.free id _ b hob (by rw [h5];rfl)).1 hc)⟩
    have S':=S.stored (o':=.map t' (dn kc ku (ofElem vm us) es)) hob (by rw [h5];rfl) hg (by simp) hkb ⟨b,ents',kt,vt,false,[kc],vm,vcs,h5,heap_set h7,h1,h10,h11,bC.mono hK hrep⟩
    refine gH hrun ?_
    have hput:a.put o.dst undef=a:=by rw [hd];rfl
    rw [hput]
    exact hk _ _ _ _ _ h' S'
   obtain ⟨p1,p2⟩:=mE h4 h9 hxv h8
   rcases iQ h2 h3 h9 (.i 0) 0 h8 with ⟨g1,g2,_⟩ | ⟨g1,y,g2,g3,g4,e,g5,g6,g7,g8⟩
   ·have hf:=dc (w:=w) h2 g2
    obtain ⟨q1,q2⟩:=p1 g1
    refine hgo (ents.push { key:=a.eval i,val:=a.eval v,born:=es.length }) (by simpa using q1) ?_
    rw [q2]
    simp [execOp,ho,Instr.mapUpdate,run_underlying h1,h6,bK h7,hch,hf,cZ _ h7]
   ·have hf:=dc (w:=w) h2 g2
    obtain ⟨q1,q2⟩:=p2 g1
    have hst:=nk (C:=C) (w:=w) (Z:=Z) h4 h9 g8
    refine hgo (ents.modify (fO kc ku es) fun e=>{ e with key:=a.eval i,val:=a.eval v }) (by simpa using q1) ?_
    rw [q2]
    have hge:ents[fO kc ku es]? = some e:=by simpa using g5
    rw [Nat.zero_add] at hf
    simp [execOp,ho,Instr.mapUpdate,run_underlying h1,h6,bK h7,hch,hf,hge,hst,cZ _ h7]
  ·cases h
 ·cases h
theorem s8 {t:TypeId} {x i v:Operand} (hkb:Θ.kb=false) (S:Sim C.P Θ n σ a w Z G) (hd:o.dst=none)
  (hk:∀ σ' a' w' Z' G',k σ'→Sim C.P Θ n σ' a' w' Z' G'→K a' w') (ho:o.op = .insert t x i v) (h:op1 C o σ k):o.wp C.P a w K Q:=by
 simp only [op1,ho] at h
 split at h
 ·rename_i kc vt vm vcs id hm hx
  split at h
  ·rename_i t' es ku us hob hku hus
   obtain ⟨hb,h'⟩:=aA h
   clear h
   simp only [Bool.and_eq_true] at hb
   obtain ⟨hb,hag⟩:=hb
   have htt:=Nat.eq_of_beq_eq_true hb
   subst htt
   obtain ⟨b,ents,kt,d,h1,h2,h3,h4,h5,h6,h7,h8,h9,h10,h11⟩:=tj S hm hx hob hku
   have hch:(Instr.checkKey false 10000 kt (a.eval i)).run C.P w = .ok () w:=iv h3 _ _
   obtain ⟨hcv,_⟩:=gE S (c3 hus)
   have hxv:gp w Z vm vcs (a.eval v) (ofElem vm us):=gp.ofL h11 (qj S.flat hus hag (S.ev v)) (dH hus hcv)
   have hlt:b < w.heap.size:=(Array.getElem?_eq_some_iff.1 h7).1
   have hgo:∀ ents':Array MapEntry,bC w Z false [kc] vm vcs 0 (dn kc ku (ofElem vm us) es) ents'.toList→
     (execOp a.eval o).run C.P w = .ok .skip { w with heap:=w.heap.setIfInBounds b (.map ents' (dn kc ku (ofElem vm us) es).length) }→o.wp C.P a w K Q:=by
    intro ents' hrep hrun
    have hg:=gF w b (.map ents' (dn kc ku (ofElem vm us) es).length)
    have hK:Stays w { w with heap:=w.heap.setIfInBounds b (.map ents' (dn kc ku (ofElem vm us) es).length) } Z Z:=⟨fun _ h=>h,fun c hc=>hg.block c (S.lt c hc) (fun e=>by
     cases e;exact (S.free id _ b hob (by rw [h5];rfl)).1 hc)⟩
    have S':=S.stored (o':=.map t' (dn kc ku (ofElem vm us) es)) hob (by rw [h5];rfl) hg (by simp) hkb ⟨b,ents',kt,vt,false,[kc],vm,vcs,h5,heap_set h7,h1,h10,h11,bC.mono hK hrep⟩
    refine gH hrun ?_
    have hput:a.put o.dst undef=a:=by rw [hd];rfl
    rw [hput]
    exact hk _ _ _ _ _ h' S'
   obtain ⟨p1,p2⟩:=mE h4 h9 hxv h8
   rcases iQ h2 h3 h9 (.i 0) 0 h8 with ⟨g1,g2,_⟩ | ⟨g1,y,g2,g3,g4,e,g5,g6,g7,g8⟩
   ·have hf:=dc (w:=w) h2 g2
    obtain ⟨q1,q2⟩:=p1 g1
    refine hgo (ents.push { key:=a.eval i,val:=a.eval v,born:=es.length }) (by simpa using q1) ?_
    rw [q2]
    simp [execOp,ho,Instr.mapUpdate,run_underlying h1,h6,bK h7,hch,hf,cZ _ h7]
   ·have hf:=dc (w:=w) h2 g2
    obtain ⟨q1,q2⟩:=p2 g1
    have hst:=nk (C:=C) (w:=w) (Z:=Z) h4 h9 g8
    refine hgo (ents.modify (fO kc ku es) fun e=>{ e with key:=a.eval i,val:=a.eval v }) (by simpa using q1) ?_
    rw [q2]
    have hge:ents[fO kc ku es]? = some e:=by simpa using g5
    rw [Nat.zero_add] at hf
    simp [execOp,ho,Instr.mapUpdate,run_underlying h1,h6,bK h7,hch,hf,hge,hst,cZ _ h7]
  ·cases h
 ·cases h
theorem vx {t:TypeId} {x i:Operand} (hkb:Θ.kb=false) (S:Sim C.P Θ n σ a w Z G) (hd:∀ t,o.dst=some t→t < n)
  (hk:∀ σ' a' w' Z' G',k σ'→Sim C.P Θ n σ' a' w' Z' G'→K a' w') (ho:o.op = .mapEntry t x i) (h:op1 C o σ k):o.wp C.P a w K Q:=by
 simp only [op1,ho] at h
 split at h
 ·rename_i kc vt vm vcs id hm hx
  split at h
  ·rename_i t' es ku z hob hku hz
   obtain ⟨hb,h'⟩:=aA h
   clear h
   simp only [Bool.and_eq_true] at hb
   obtain ⟨hb,hroom⟩:=hb
   have hroom:=Nat.le_of_ble_eq_true hroom
   have htt:=Nat.eq_of_beq_eq_true hb
   subst htt
   obtain ⟨b,ents,kt,d,h1,h2,h3,h4,h5,h6,h7,h8,h9,h10,h11⟩:=tj S hm hx hob hku
   obtain ⟨zi,zv,z1,z2,hzk⟩:=vV (w:=w) (Z:=Z) h11 hz
   have hpos:fO kc ku es≤maxLen:=by
    have:fO kc ku es≤es.length:=by
     rcases iQ h2 h3 h9 z 0 h8 with ⟨_,_,_,g⟩ | ⟨_,_,_,_,g,_⟩<;>omega
    unfold room at hroom;unfold maxLen;omega
   have hch:(Instr.checkKey false 10000 kt (a.eval i)).run C.P w = .ok () w:=iv h3 _ _
   have hgo:∀ (ents':Array MapEntry) (v:Value),bC w Z false [kc] vm vcs 0 (dn kc ku (gf kc ku z es) es) ents'.toList→gp w Z vm vcs v (gf kc ku z es)→
     (execOp a.eval o).run C.P w = .ok (.value (.tuple #[v,.int .i64 (fO kc ku es)])) { w with heap:=w.heap.setIfInBounds b (.map ents' (dn kc ku (gf kc ku z es) es).length) }→o.wp C.P a w K Q:=by
    intro ents' v hrep hv hrun
    have hg:=gF w b (.map ents' (dn kc ku (gf kc ku z es) es).length)
    have hK:Stays w { w with heap:=w.heap.setIfInBounds b (.map ents' (dn kc ku (gf kc ku z es) es).length) } Z Z:=⟨fun _ h=>h,fun c hc=>hg.block c (S.lt c hc) (fun e=>by
     cases e;exact (S.free id _ b hob (by rw [h5];rfl)).1 hc)⟩
    have S':=S.stored (o':=.map t' (dn kc ku (gf kc ku z es) es)) hob (by rw [h5];rfl) hg (by simp) hkb ⟨b,ents',kt,vt,false,[kc],vm,vcs,h5,heap_set h7,h1,h10,h11,bC.mono hK hrep⟩
    refine aG hrun ?_
    exact hk _ _ _ _ _ h' (S'.put (s:=.tup [m8 vm vcs (gf kc ku z es),.val (.int .i64) (.i (fO kc ku es))]) ⟨_,rfl,_,_,rfl,lI (gp.mono hK hv),_,[],rfl,eE hpos,rfl⟩ hd)
   rcases iQ h2 h3 h9 z 0 h8 with ⟨g1,g2,g3,g4⟩ | ⟨g1,y,g2,g3,g4,e,g5,g6,g7,g8⟩
   ·have hf:=dc (w:=w) h2 g2
    obtain ⟨q1,q2⟩:=(mE h4 h9 hzk h8).1 g1
    rw [g3] at hgo
    refine hgo (ents.push { key:=a.eval i,val:=zv,born:=es.length }) zv (by simpa using q1) hzk ?_
    rw [q2,g4]
    simp [execOp,ho,Instr.mapEntry,run_underlying h1,h6,bK h7,hch,hf,zeroValue,typeInfo,z1,z2,cZ _ h7,goInt]
   ·have hf:=dc (w:=w) h2 g2
    obtain ⟨q1,q2⟩:=(mE h4 h9 g3 h8).2 g1
    have hst:=nk (C:=C) (w:=w) (Z:=Z) h4 h9 g8
    have hge:ents[fO kc ku es]? = some e:=by simpa using g5
    rw [Nat.zero_add] at hf
    refine hgo (ents.modify (fO kc ku es) fun e=>{ e with key:=a.eval i }) y ?_ g3 ?_
    ·have:(ents.modify (fO kc ku es) fun e=>{ e with key:=a.eval i })=(ents.modify (fO kc ku es) fun e=>{ e with key:=a.eval i,val:=y }):=by
      apply Array.ext
      ·simp
      ·intro j hj1 hj2
       simp only [Array.getElem_modify]
       split
       ·rename_i hj
        subst hj
        have hjl:fO kc ku es < ents.size:=by simpa using hj1
        have:ents[fO kc ku es]'hjl=e:=by
         have:=Array.getElem?_eq_getElem (xs:=ents) (i:=fO kc ku es) hjl
         rw [hge] at this
         exact (Option.some.inj this).symm
        rw [this,← g6]
       ·rfl
     rw [this]
     simpa using q1
    ·rw [q2]
     simp [execOp,ho,Instr.mapEntry,run_underlying h1,h6,bK h7,hch,hf,hge,hst,cZ _ h7,goInt,g7]
  ·cases h
 ·cases h
theorem nc {t:TypeId} {x i v:Operand} (hkb:Θ.kb=false) (S:Sim C.P Θ n σ a w Z G) (hd:o.dst=none)
  (hk:∀ σ' a' w' Z' G',k σ'→Sim C.P Θ n σ' a' w' Z' G'→K a' w') (ho:o.op = .entryStore t x i v) (h:op1 C o σ k):o.wp C.P a w K Q:=by
 simp only [op1,ho] at h
 split at h
 ·rename_i kc vt vm vcs id kd j hm hx hi
  split at h
  ·rename_i t' es us hob hus
   obtain ⟨hb,h'⟩:=aA h
   clear h
   simp only [Bool.and_eq_true] at hb
   obtain ⟨⟨hb,hag⟩,hj⟩:=hb
   obtain ⟨hj0,hj1⟩:=of_decide_eq_true hj
   have htt:=Nat.eq_of_beq_eq_true hb
   subst htt
   obtain ⟨kt,h1,h2,h3⟩:=pR hm
   obtain ⟨b,hG,hv⟩:∃ b,G id = .pointer (some ⟨b,0,none⟩)∧a.eval x = .map (some b):=by have:=S.ev x;rw [hx] at this;exact this
   obtain ⟨b',ents,kt',vt',km,kcs,vm',vcs',g1,g2,g3,g4,g5,g6⟩:=S.obj id _ hob
   rw [hG] at g1
   cases g1
   rw [h1] at g3
   cases g3
   rw [h3] at g5
   cases g5
   have hi':a.eval i = .int kd j.int:=by have:=S.ev i;rw [hi] at this;exact this.1
   obtain ⟨hcv,_⟩:=gE S (c3 hus)
   have hxv:gp w Z vm vcs (a.eval v) (ofElem vm us):=gp.ofL h3 (qj S.flat hus hag (S.ev v)) (dH hus hcv)
   obtain ⟨p1,p2,p3⟩:=zE hxv j.int.toNat g6 (by omega)
   have hg:=gF w b (.map (ents.modify j.int.toNat fun e=>{ e with val:=a.eval v }) es.length)
   have hK:Stays w { w with heap:=w.heap.setIfInBounds b (.map (ents.modify j.int.toNat fun e=>{ e with val:=a.eval v }) es.length) } Z Z:=⟨fun _ h=>h,fun c hc=>hg.block c (S.lt c hc) (fun e=>by
    cases e;exact (S.free id _ b hob (by rw [hG];rfl)).1 hc)⟩
   have S':=S.stored (o':=.map t' (AJ (ofElem vm us) j.int.toNat es)) hob (by rw [hG];rfl) hg (by simp) hkb ⟨b,ents.modify j.int.toNat fun e=>{ e with val:=a.eval v },kt,vt,km,kcs,vm,vcs,hG,by rw [p2];exact heap_set g2,h1,g4,h3,bC.mono hK (by simpa using p1)⟩
   have hrun:(execOp a.eval o).run C.P w = .ok .skip { w with heap:=w.heap.setIfInBounds b (.map (ents.modify j.int.toNat fun e=>{ e with val:=a.eval v }) es.length) }:=by
    have hfi:ents.findIdx? (fun e=>(e.born:Int) == j.int)=some j.int.toNat:=by
     have:((0 + j.int.toNat:Nat):Int)=j.int:=by omega
     rw [this] at p3
     rw [← p3]
     cases ents
     simp
    simp [execOp,ho,Instr.entryStore,hv,hi',bK g2,asInt,asIntOf,hfi,cZ _ g2]
   refine gH hrun ?_
   have hput:a.put o.dst undef=a:=by rw [hd];rfl
   rw [hput]
   exact hk _ _ _ _ _ h' S'
  ·cases h
 ·cases h
end
end Go.Den
