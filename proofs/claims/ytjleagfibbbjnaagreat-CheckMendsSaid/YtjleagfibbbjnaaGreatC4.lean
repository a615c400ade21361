/- A part of the proof of this: the program mends a meta as the document does, and what was handed in stays what it was. Conditions: none. Joined of F84, B85, F85, B86, F86, B87, F87, B88, F88, B89, F89, B90, F90, DenRJ, B92, F92, B93, F93, DenRK, DenRL, DenRM, DenRN, B95, F95, F96, B97, F97, F98, F100, B101. -/
import Derived.Test.YtjleagfibbbjnaaGreatC3
import Derived.KernelRfl
import Derived.WideKeyRuns
namespace Go.Mat
open Go Go.Den Go.Proofs Go.RowKit
set_option maxRecDepth 100000
def ai (s:U) (T:List U):List U:=(aQ s T (8 * T.length)).map .l
theorem qx {s:U} {T:List U} {n:Nat}:∀ l ∈ aQ s T n,∃ a b c d e f g,l=[a,b,c,d,e,f,g]:=fun l hl=>by
 unfold aQ at hl
 obtain ⟨i,_,rfl⟩:=List.mem_map.1 hl
 exact ⟨_,_,_,_,_,_,_,rfl⟩
theorem kz (s:U) (T:List U) (n:Nat):(aQ s T n).length≤n:=by
 unfold aQ
 rw [List.length_map]
 exact Nat.le_trans (List.length_filter_le _ _) (by simp)
theorem m9:K84.Ok:=aB ao af .nil .nil
theorem y8:bh Tryz.f65 = .seq (piece asC [0]) (.seq (.seq (piece asC [1,0,0]) (.block 0 (.rangeFunc (.tmp 6) #[7] (.region 2 as2 false) (.block 1 (.region 3 as3 false))))) qp):=by kernel_rfl
theorem jW {i j:Nat} {p q:Den.Obj} {X:bX} (h1:az X i=some p) (h2:az X j=some q):∀ id o,az [(i,p),(j,q)] id=some o→az X id=some o:=by
 intro id o h
 rw [ba] at h
 split at h
 ·rename_i e;subst e;cases h;exact h1
 ·rw [ba] at h
  split at h
  ·rename_i e;subst e;cases h;exact h2
  ·cases h
def m7 (xs:List U) (L:List (List U)) (k:Nat):bX:=[(641,.box [.own 642]),(642,.arr 72 (xs ++ (L.take k).map .l))]
theorem nM (s:U) (T:List U) (n:Nat):∀ x ∈ (aQ s T n).map n3,okN.okNs noN x=true∧x.length=1:=fun x hx=>by
 obtain ⟨l,hl,rfl⟩:=List.mem_map.1 hx
 exact ⟨rfl,rfl⟩
theorem rh {s:U} {T:List U} {n:Nat} {xs:List U} (hr:xs.length + n≤1073741824):∀ k x,((aQ s T n).map n3)[k]? = some x→
  ak KJ as2.toList as2.toList ⟨EN [(2,.ptr 641 0)] ([7].zip x),m7 xs (aQ s T n) k⟩ (fun σ1=>ak KJ as3.toList as3.toList σ1 (fun σ2=>∀ id o,az (m7 xs (aQ s T n) (k + 1)) id=some o→az σ2.objs id=some o)):=by
 intro k x hx
 rw [List.getElem?_map] at hx
 obtain ⟨l,hl,rfl⟩:=Option.map_eq_some_iff.1 hx
 have hk:k < (aQ s T n).length:=(List.getElem?_eq_some_iff.1 hl).1
 have hlen:=kz s T n
 obtain ⟨a,b,c,d,e,f,g,rfl⟩:=qx _ (List.mem_of_getElem? hl)
 have htk:(aQ s T n).take (k + 1)=(aQ s T n).take k ++ [[a,b,c,d,e,f,g]]:=by
  rw [List.take_add_one,hl];rfl
 have main:=DV (fun σ2=>∀ id o,az (m7 xs (aQ s T n) (k + 1)) id=some o→az σ2.objs id=some o) a b c d e f g (xs ++ ((aQ s T n).take k).map .l)
 have hsh:(⟨EN [(2,.ptr 641 0)] ([7].zip (n3 [a,b,c,d,e,f,g])),m7 xs (aQ s T n) k⟩:St)=⟨[(7,.agg [vi a,vi b,vi c,vi d,vi e,vi f,.val (.int .u32) g]),(2,.ptr 641 0)],[(641,.box [.own 642]),(642,.arr 72 (xs ++ ((aQ s T n).take k).map .l))]⟩:=rfl
 rw [hsh,main]
 clear main hsh
 have hl2:(xs ++ ((aQ s T n).take k).map U.l).length + 1≤room:=by
  unfold room
  rw [List.length_append,List.length_map,List.length_take]
  omega
 refine cu hl2 rfl ?_
 unfold m7
 rw [htk,List.map_append,← List.append_assoc]
 exact jW rfl rfl
theorem HG (s T:U) (hT:T.list.length≤65536) (hr:([]:List U).length + 8 * T.list.length≤1073741824) {R:Out→bX→Prop} (hR:R (.ret [.own 2097408]) [(2097408,.arr 72 (ai s T.list))]) {a:Act} {w:World} {Z:Nat→Prop} {G:Nat→Value}
  (S:Sim PR ⟨w,bH G [(2097153,.box [.val TRC T]),(2097281,.box [vi s])],fun _=>False,Z,false,false,G,[]⟩ Tryz.f65.ntmps ⟨fa 0 [.nil,.clo 76 [.ptr 2097153 0,.ptr 2097281 0]],[(2097153,.box [.val TRC T]),(2097281,.box [vi s])]⟩ a w Z G) :
  (bh Tryz.f65).wp PR (jS PR Tryz.f65 (zH PR R w Z G [(2097153,.box [.val TRC T]),(2097281,.box [vi s])])) a w:=by
 have hn:Tryz.f65.ntmps=13:=by kernel_rfl
 rw [y8]
 have S:Sim K84.P ⟨w,bH G [(2097153,.box [.val TRC T]),(2097281,.box [vi s])],fun _=>False,Z,false,false,G,[]⟩ Tryz.f65.ntmps ⟨fa 0 [.nil,.clo 76 [.ptr 2097153 0,.ptr 2097281 0]],[(2097153,.box [.val TRC T]),(2097281,.box [vi s])]⟩ a w Z G:=S
 have hfl:=S.flat
 have hhead:mh (exec K84 (piece asC [0]) 0 ⟨fa 0 [.nil,.clo 76 [.ptr 2097153 0,.ptr 2097281 0]],[(2097153,.box [.val TRC T]),(2097281,.box [vi s])]⟩ (fun e1 σ1=>e1 = .normal∧exec K84 (piece asC [1,0,0]) 0 σ1 (fun e2 σ2=>e2 = .normal∧
   σ2=⟨[(6,.clo 76 [.ptr 2097153 0,.ptr 2097281 0]),(4,.own 636),(2,.ptr 256 0),(0,.nil),(1,.clo 76 [.ptr 2097153 0,.ptr 2097281 0])],[(636,.arr 72 []),(256,.box [.own 258]),(258,.arr 72 ([]:List U)),(2097153,.box [.val TRC T]),(2097281,.box [vi s])]⟩))):=
  .eq (DO _ T s) ⟨rfl,rfl,rfl⟩
 have nopan:∀ {Q:Exit→Act→World→Prop} {Θ:Anc},x8 K84 Θ Tryz.f65.ntmps Q:=fun _ _ _ _ _ _ _ h=>h.elim
 refine wp_seq (ig m9 rfl rfl (fun _ h=>h) nopan ?_ ?_ (by kernel_rfl) S hhead ?_)
 ·rintro c a w d v ⟨h | h,_⟩<;>cases h
 ·rw [hn];exact (by kernel_rfl:codeOk 13 (piece asC [0])=true)
 rintro e1 σ1 a1 w1 Z1 G1 ⟨rfl,h1⟩ S1
 refine wp_seq (wp_seq (ig m9 rfl rfl (fun _ h=>h) nopan ?_ ?_ (by kernel_rfl) S1 ⟨h1⟩ ?_))
 ·rintro c a w d v ⟨h | h,_⟩<;>cases h
 ·rw [hn];exact (by kernel_rfl:codeOk 13 (piece asC [1,0,0])=true)
 rintro e2 σ2 a2 w2 Z2 G2 ⟨rfl,rfl⟩ S2
 obtain ⟨Z3,hZ3,S3,hp3⟩:=S2.shut (id:=2097153) (cs:=[TRC]) (us:=[T]) rfl
 have S3:Sim PR ⟨w,bH G [(2097153,.box [.val TRC T]),(2097281,.box [vi s])],fun _=>False,Z,false,false,G,[]⟩ Tryz.f65.ntmps _ a2 w2 Z3 G2:=S3
 obtain ⟨Z4,hZ4,S4,hp4⟩:=S3.shut (id:=2097281) (cs:=[.int .i64]) (us:=[s]) rfl
 have S5:=S4.know (t:=6) (s:=.clo 76 [.rptr [TRC] [T],.rptr [.int .i64] [s]]) (by
  obtain ⟨vs,h1,v,t,h2,h3,v',t',h4,h5,h6⟩:=S2.slot 6
  refine ⟨vs,h1,v,t,h2,ag.mono ⟨hZ4,fun _ _=>rfl⟩ _ _ (hp3 v h3),v',t',h4,hp4 v' ?_,h6⟩
  exact ag.mono ⟨hZ3,fun _ _=>rfl⟩ (.ptr 2097281 0) v' h5)
 obtain ⟨G6,_,S6⟩:=S5.rename (m:=[(256,641),(258,642)]) rfl rfl (a':=a2) rfl
 refine wp_block (nJ (C:=KJ) mw jE (fun _ h=>h) S6 (xs:=(aQ s T.list (8 * T.list.length)).map n3) (caps:=[.rptr [TRC] [T],.rptr [.int .i64] [s]]) rfl rfl (f:=76) (gn:=Tryz.f76) (by kernel_rfl) (by kernel_rfl) (by kernel_rfl)
  (zD s T (by omega)) (nM s T.list _) (ob:=m7 ([]:List U) (aQ s T.list (8 * T.list.length))) ?_ (env:=[(2,.ptr 641 0)]) rfl ?_ ?_ (by kernel_rfl) ?_ (by kernel_rfl) ?_ (rh hr) ?_)
 ·unfold m7
  rw [List.take_zero,List.map_nil,List.append_nil]
  exact jW rfl rfl
 ·intro t
  rw [aF]
  split
  ·rename_i h;subst h;exact .inl rfl
  ·exact .inr rfl
 ·intro t ht
  have ht:t ∈ [7]:=ht
  rw [hn]
  rcases List.mem_cons.1 ht with rfl | ht
  ·decide
  ·cases ht
 ·rw [hn];exact (by kernel_rfl:bg 13 as2.toList=true)
 ·rw [hn];exact (by kernel_rfl:bg 13 as3.toList=true)
 ·intro a' w' Z' G' D hta hda S' hD hle hZD hbD
  rw [List.length_map] at S' hbD
  have hob:m7 ([]:List U) (aQ s T.list (8 * T.list.length)) (aQ s T.list (8 * T.list.length)).length=[(641,.box [.own 642]),(642,.arr 72 (ai s T.list))]:=by
   unfold m7 ai
   rw [List.take_length]
   rfl
  rw [hob] at S' hbD
  obtain ⟨G7,hG7,S7⟩:=S'.renameTo (m:=[(641,644),(642,642)]) rfl rfl rfl hfl (a':=a') rfl
  refine mP (C:=K84) m9 ?_ (by kernel_rfl) (cP (aI (by kernel_rfl))) S7 hfl ?_ hD hle hZD ?_ (.eq (D4 R T s (ai s T.list)) hR)
  ·rw [hn];exact (by kernel_rfl:codeOk 13 qp=true)
  ·rw [hda,show a2.defers=[] from S2.calm]
  ·intro id o ho hb
   obtain ⟨i,p,h3,h4,_⟩:=fQ ho
   have hid:i=641∧id=644∨i=642∧id=642:=by
    rcases List.mem_cons.1 h3 with h | h
    ·cases h;exact .inl ⟨rfl,rfl⟩
    ·rcases List.mem_cons.1 h with h | h
     ·cases h;exact .inr ⟨rfl,rfl⟩
     ·cases h
   rcases hid with ⟨rfl,rfl⟩ | ⟨rfl,rfl⟩
   ·exact hbD 641 p h4 (by rw [← hG7 641 644 rfl];exact hb)
   ·exact hbD 642 p h4 (by rw [← hG7 642 642 rfl];exact hb)
theorem HA (s T:U) (xs:List U) (hT:T.list.length≤65536) (hr:xs.length + 8 * T.list.length≤1073741824) {R:Out→bX→Prop} (hR:R (.ret [.own 2097152]) [(2097152,.arr 72 (xs ++ ai s T.list))]) {a:Act} {w:World} {Z:Nat→Prop} {G:Nat→Value}
  (S:Sim PR ⟨w,bH G [(2097152,.arr 72 xs),(2097281,.box [.val TRC T]),(2097409,.box [vi s])],fun _=>False,Z,false,false,G,[]⟩ Tryz.f65.ntmps ⟨fa 0 [.own 2097152,.clo 76 [.ptr 2097281 0,.ptr 2097409 0]],[(2097152,.arr 72 xs),(2097281,.box [.val TRC T]),(2097409,.box [vi s])]⟩ a w Z G) :
  (bh Tryz.f65).wp PR (jS PR Tryz.f65 (zH PR R w Z G [(2097152,.arr 72 xs),(2097281,.box [.val TRC T]),(2097409,.box [vi s])])) a w:=by
 have hn:Tryz.f65.ntmps=13:=by kernel_rfl
 rw [y8]
 have S:Sim K84.P ⟨w,bH G [(2097152,.arr 72 xs),(2097281,.box [.val TRC T]),(2097409,.box [vi s])],fun _=>False,Z,false,false,G,[]⟩ Tryz.f65.ntmps ⟨fa 0 [.own 2097152,.clo 76 [.ptr 2097281 0,.ptr 2097409 0]],[(2097152,.arr 72 xs),(2097281,.box [.val TRC T]),(2097409,.box [vi s])]⟩ a w Z G:=S
 have hfl:=S.flat
 have hhead:mh (exec K84 (piece asC [0]) 0 ⟨fa 0 [.own 2097152,.clo 76 [.ptr 2097281 0,.ptr 2097409 0]],[(2097152,.arr 72 xs),(2097281,.box [.val TRC T]),(2097409,.box [vi s])]⟩ (fun e1 σ1=>e1 = .normal∧exec K84 (piece asC [1,0,0]) 0 σ1 (fun e2 σ2=>e2 = .normal∧
   σ2=⟨[(6,.clo 76 [.ptr 2097281 0,.ptr 2097409 0]),(4,.own 636),(2,.ptr 256 0),(0,.own 2097152),(1,.clo 76 [.ptr 2097281 0,.ptr 2097409 0])],[(636,.arr 72 []),(256,.box [.own 2097152]),(2097152,.arr 72 xs),(2097281,.box [.val TRC T]),(2097409,.box [vi s])]⟩))):=
  .eq (Cp _ T s xs) ⟨rfl,rfl,rfl⟩
 have nopan:∀ {Q:Exit→Act→World→Prop} {Θ:Anc},x8 K84 Θ Tryz.f65.ntmps Q:=fun _ _ _ _ _ _ _ h=>h.elim
 refine wp_seq (ig m9 rfl rfl (fun _ h=>h) nopan ?_ ?_ (by kernel_rfl) S hhead ?_)
 ·rintro c a w d v ⟨h | h,_⟩<;>cases h
 ·rw [hn];exact (by kernel_rfl:codeOk 13 (piece asC [0])=true)
 rintro e1 σ1 a1 w1 Z1 G1 ⟨rfl,h1⟩ S1
 refine wp_seq (wp_seq (ig m9 rfl rfl (fun _ h=>h) nopan ?_ ?_ (by kernel_rfl) S1 ⟨h1⟩ ?_))
 ·rintro c a w d v ⟨h | h,_⟩<;>cases h
 ·rw [hn];exact (by kernel_rfl:codeOk 13 (piece asC [1,0,0])=true)
 rintro e2 σ2 a2 w2 Z2 G2 ⟨rfl,rfl⟩ S2
 obtain ⟨Z3,hZ3,S3,hp3⟩:=S2.shut (id:=2097281) (cs:=[TRC]) (us:=[T]) rfl
 have S3:Sim PR ⟨w,bH G [(2097152,.arr 72 xs),(2097281,.box [.val TRC T]),(2097409,.box [vi s])],fun _=>False,Z,false,false,G,[]⟩ Tryz.f65.ntmps _ a2 w2 Z3 G2:=S3
 obtain ⟨Z4,hZ4,S4,hp4⟩:=S3.shut (id:=2097409) (cs:=[.int .i64]) (us:=[s]) rfl
 have S5:=S4.know (t:=6) (s:=.clo 76 [.rptr [TRC] [T],.rptr [.int .i64] [s]]) (by
  obtain ⟨vs,h1,v,t,h2,h3,v',t',h4,h5,h6⟩:=S2.slot 6
  refine ⟨vs,h1,v,t,h2,ag.mono ⟨hZ4,fun _ _=>rfl⟩ _ _ (hp3 v h3),v',t',h4,hp4 v' ?_,h6⟩
  exact ag.mono ⟨hZ3,fun _ _=>rfl⟩ (.ptr 2097409 0) v' h5)
 obtain ⟨G6,_,S6⟩:=S5.rename (m:=[(256,641),(2097152,642)]) rfl rfl (a':=a2) rfl
 refine wp_block (nJ (C:=KJ) mw jE (fun _ h=>h) S6 (xs:=(aQ s T.list (8 * T.list.length)).map n3) (caps:=[.rptr [TRC] [T],.rptr [.int .i64] [s]]) rfl rfl (f:=76) (gn:=Tryz.f76) (by kernel_rfl) (by kernel_rfl) (by kernel_rfl)
  (zD s T (by omega)) (nM s T.list _) (ob:=m7 xs (aQ s T.list (8 * T.list.length))) ?_ (env:=[(2,.ptr 641 0)]) rfl ?_ ?_ (by kernel_rfl) ?_ (by kernel_rfl) ?_ (rh hr) ?_)
 ·unfold m7
  rw [List.take_zero,List.map_nil,List.append_nil]
  exact jW rfl rfl
 ·intro t
  rw [aF]
  split
  ·rename_i h;subst h;exact .inl rfl
  ·exact .inr rfl
 ·intro t ht
  have ht:t ∈ [7]:=ht
  rw [hn]
  rcases List.mem_cons.1 ht with rfl | ht
  ·decide
  ·cases ht
 ·rw [hn];exact (by kernel_rfl:bg 13 as2.toList=true)
 ·rw [hn];exact (by kernel_rfl:bg 13 as3.toList=true)
 ·intro a' w' Z' G' D hta hda S' hD hle hZD hbD
  rw [List.length_map] at S' hbD
  have hob:m7 xs (aQ s T.list (8 * T.list.length)) (aQ s T.list (8 * T.list.length)).length=[(641,.box [.own 642]),(642,.arr 72 (xs ++ ai s T.list))]:=by
   unfold m7 ai
   rw [List.take_length]
  rw [hob] at S' hbD
  obtain ⟨G7,hG7,S7⟩:=S'.renameTo (m:=[(641,644),(642,2097152)]) rfl rfl rfl hfl (a':=a') rfl
  refine mP (C:=K84) m9 ?_ (by kernel_rfl) (cP (aI (by kernel_rfl))) S7 hfl ?_ hD hle hZD ?_ (.eq (Dz R T s (xs ++ ai s T.list) xs) hR)
  ·rw [hn];exact (by kernel_rfl:codeOk 13 qp=true)
  ·rw [hda,show a2.defers=[] from S2.calm]
  ·intro id o ho hb
   obtain ⟨i,p,h3,h4,_⟩:=fQ ho
   have hid:i=641∧id=644∨i=642∧id=2097152:=by
    rcases List.mem_cons.1 h3 with h | h
    ·cases h;exact .inl ⟨rfl,rfl⟩
    ·rcases List.mem_cons.1 h with h | h
     ·cases h;exact .inr ⟨rfl,rfl⟩
     ·cases h
   rcases hid with ⟨rfl,rfl⟩ | ⟨rfl,rfl⟩
   ·exact hbD 641 p h4 (by rw [← hG7 641 644 rfl];exact hb)
   ·exact hbD 642 p h4 (by rw [← hG7 642 2097152 rfl];exact hb)
end Go.Mat

namespace Go.Mat
open Go Go.Den Go.Proofs
noncomputable def Gt:Tr:=fun vs objs k=>match vs,objs with
 | [.nil,.clo f [.ptr a pa,.ptr b pb]],[(a2,.box [.val (.sl false [.sl true ec]) T]),(b2,.box [.val (.int .i64) s])]=>
  (f=76∧a=2097153∧pa=0∧b=2097281∧pb=0∧a2=2097153∧b2=2097281∧ec=EC∧T.list.length≤65536)∧k (.ret [.own 2097408]) [(2097408,.arr 72 (ai s T.list))]
 | [.own o,.clo f [.ptr a pa,.ptr b pb]],[(o2,.arr t xs),(a2,.box [.val (.sl false [.sl true ec]) T]),(b2,.box [.val (.int .i64) s])]=>
  (o=2097152∧o2=2097152∧t=72∧f=76∧a=2097281∧pa=0∧b=2097409∧pb=0∧a2=2097281∧b2=2097409∧ec=EC∧T.list.length≤65536∧xs.length + 8 * T.list.length≤1073741824)∧
  k (.ret [.own 2097152]) [(2097152,.arr 72 (xs ++ ai s T.list))]
 | _,_=>False
noncomputable def Jt:Ctx:=mkC PR bM aK (cw 65 [true,true] Gt aL) aC aq aq
noncomputable def Ip:Tr:=fun vs objs k=>match vs,objs with
 | [.clo f [.ptr a pa,.ptr b pb]],[(a2,.box [.val (.sl false [.sl true ec]) T]),(b2,.box [.val (.int .i64) s])]=>
  (f=76∧a=2097153∧pa=0∧b=2097281∧pb=0∧a2=2097153∧b2=2097281∧ec=EC∧T.list.length≤65536)∧k (.ret [.own 2097408]) [(2097408,.arr 72 (ai s T.list))]
 | _,_=>False
theorem Eb (R:RT) (T s:U):(jP Jt Tryz.f63 [.clo 76 [.ptr 2097153 0,.ptr 2097281 0]] [(2097153,.box [.val TRC T]),(2097281,.box [vi s])] R)=((nat_lit 76=nat_lit 76∧nat_lit 2097153=nat_lit 2097153∧nat_lit 0=nat_lit 0∧nat_lit 2097281=nat_lit 2097281∧nat_lit 0=nat_lit 0∧nat_lit 2097153=nat_lit 2097153∧nat_lit 2097281=nat_lit 2097281∧[Ct.int IntKind.i64,Ct.int IntKind.i64,Ct.int IntKind.i64,Ct.int IntKind.i64,Ct.int IntKind.u32]=[Ct.int IntKind.i64,Ct.int IntKind.i64,Ct.int IntKind.i64,Ct.int IntKind.i64,Ct.int IntKind.u32]∧List.length (U.list T)≤(65536:Nat))∧R (Out.ret [SV.own (nat_lit 2097408)]) [(nat_lit 2097408,Obj.arr (nat_lit 72) (ai s (U.list T)))]):=by kernel_rfl
def ad:Int→List U→List U
 | _,[]=>[]
 | i,h :: r=>ai (.i i) (nth (.i 0) h.list 2).list ++ ad (i + 1) r
def bb:List U→Bool
 | []=>true
 | h :: r=>decide ((nth (.i 0) h.list 2).list.length≤65536) && bb r
noncomputable def tX:aS:=fun _ svs os k=>match svs,os with
 | [.val (.int .i64) i,.val (.int .i64) n,.val (.sl true sc) S,.own o],[.arr t xs]=>
  (i = .i i.int∧o=1168∧t=72∧sc=SC∧n.int=(S.list.length:Int)∧0≤i.int∧i.int≤(S.list.length:Int)∧S.list.length≤1000∧xs.length + 524288 * (S.list.length - i.int.toNat)≤1073741824∧bb (S.list.drop i.int.toNat)=true)∧
  k (.exit 0) ⟨[(3,.own 1168)],[(1168,.arr 72 (xs ++ ad i.int (S.list.drop i.int.toNat)))]⟩
 | _,_=>False
noncomputable def eaC:Ctx:=mkC PR bM aK (cw 65 [true,true] Gt (cw 63 [true] Ip (cw 64 [] HZ aL)))
 (aw 0 [13,12,11,3] [1168] tX aC) (an 0 [3] [1168] aq) aq
def oY:List (List U)→List (List U):=fun us=>[[.l (ai (.i (-1)) (nth (.i 0) (nth [] us 0) 3).list ++ ad 0 (nth (.i 0) (nth [] us 0) 4).list)]]
def gQ:List (List U)→Prop:=fun us=>(nth (.i 0) (nth [] us 0) 3).list.length≤65536∧(nth (.i 0) (nth [] us 0) 4).list.length≤1000∧bb (nth (.i 0) (nth [] us 0) 4).list=true
theorem GQ (R:RF) (c sz bk T S M Q:U) {a b} (_:a=(List.drop (Int.toNat (0:Int)) S.list):=by rfl) (_:b=(S.list.length:Int):=by rfl): (run eaC Tryz.f42 [[c,sz,bk,T,S,M,Q]] R)=([Ct.int IntKind.i64,Ct.int IntKind.i64,Ct.int IntKind.i64,Ct.int IntKind.i64,Ct.int IntKind.u32]=[.int .i64,.int .i64,.int .i64,.int .i64,.int .u32]∧(76=76∧2097153=2097153∧0=0∧2097281=2097281∧0=0∧2097153=2097153∧2097281=2097281∧[Ct.int IntKind.i64,Ct.int IntKind.i64,Ct.int IntKind.i64,Ct.int IntKind.i64,Ct.int IntKind.u32]=[.int .i64,.int .i64,.int .i64,.int .i64,.int .u32]∧T.list.length≤(65536:Nat))∧(U.i (0:Int)=U.i (0:Int)∧1168=1168∧72=72∧[Ct.str,Ct.int IntKind.i64,Ct.sl false [Ct.sl true [Ct.int IntKind.i64,Ct.int IntKind.i64,Ct.int IntKind.i64,Ct.int IntKind.i64,Ct.int IntKind.u32]]]=[.str,.int .i64,Ct.sl false [.sl true [.int .i64,.int .i64,.int .i64,.int .i64,.int .u32]]]∧b=b∧(0:Int)≤(0:Int)∧(0:Int)≤b∧S.list.length≤(1000:Nat)∧List.length (ai (U.i (-1:Int)) T.list) + (524288:Nat) * (S.list.length - Int.toNat (0:Int))≤(1073741824:Nat)∧bb a=true)∧R [[U.l (ai (U.i (-1:Int)) T.list ++ ad (0:Int) a)]]):=by subst_vars;kernel_rfl
theorem DR (pan:KP) (μ:Mu) (N:Nat) (k:KE) (i n S:U) (xs:List U) {a b c} (_:a=(U.list (nth (U.i (0:Int)) (List.tail (List.tail (U.list (nth (U.i (0:Int)) S.list i.int.toNat)))) 0)):=by rfl) (_:b=(IntKind.wrap .i64 (i.int + (1:Int))):=by rfl) (_:c=(S.list.length:Int):=by rfl): (exec (eaC.panics pan) (aa Tryz.f42 0) 0 ⟨[(13,vi i),(12,vi n),(11,vt SC S),(3,.own 1168)],[(1168,.arr 72 xs)]⟩ (again PR (some ([3],[1168])) none pan [13,12,11,3] [1168] tX μ N k))=(bif decide (i.int < n.int) then bif decide ((0:Int)≤i.int∧i.int < c) then [Ct.int IntKind.i64,Ct.int IntKind.i64,Ct.int IntKind.i64,Ct.int IntKind.i64,Ct.int IntKind.u32]=[.int .i64,.int .i64,.int .i64,.int .i64,.int .u32]∧(2097152=2097152∧2097152=2097152∧72=72∧76=76∧2097281=2097281∧0=0∧2097409=2097409∧0=0∧2097281=2097281∧2097409=2097409∧[Ct.int IntKind.i64,Ct.int IntKind.i64,Ct.int IntKind.i64,Ct.int IntKind.i64,Ct.int IntKind.u32]=[.int .i64,.int .i64,.int .i64,.int .i64,.int .u32]∧List.length a≤(65536:Nat)∧List.length xs + (8:Nat) * List.length a≤(1073741824:Nat))∧bif Nat.blt (μ [.val (.int IntKind.i64) (U.i b),.val (.int IntKind.i64) n,.val (.sl true [.str,.int .i64,Ct.sl false [.sl true [.int .i64,.int .i64,.int .i64,.int .i64,.int .u32]]]) S,.own (nat_lit 1168)] [.arr (nat_lit 72) (xs ++ ai i a)]) N then (U.i b=U.i b∧1168=1168∧72=72∧[Ct.str,Ct.int IntKind.i64,Ct.sl false [Ct.sl true [Ct.int IntKind.i64,Ct.int IntKind.i64,Ct.int IntKind.i64,Ct.int IntKind.i64,Ct.int IntKind.u32]]]=[.str,.int .i64,Ct.sl false [.sl true [.int .i64,.int .i64,.int .i64,.int .i64,.int .u32]]]∧n.int=c∧(0:Int)≤IntKind.wrap .i64 (i.int + (1:Int))∧IntKind.wrap .i64 (i.int + (1:Int))≤c∧S.list.length≤(1000:Nat)∧List.length (xs ++ ai i a) + (524288:Nat) * (S.list.length - Int.toNat b)≤(1073741824:Nat)∧bb (List.drop (Int.toNat b) S.list)=true)∧k (Ex.exit (nat_lit 0)) (St.mk [(nat_lit 3,.own (nat_lit 1168))] [(nat_lit 1168,.arr (nat_lit 72) (xs ++ ai i a ++ ad b (List.drop (Int.toNat b) S.list)))]) else False else False else k (Ex.exit (nat_lit 0)) (St.mk [(nat_lit 3,.own (nat_lit 1168))] [(nat_lit 1168,.arr (nat_lit 72) xs)])):=by subst_vars;kernel_rfl
end Go.Mat

namespace Go.Mat
open Go Go.Den Go.Proofs
set_option maxRecDepth 100000
theorem Dw:ee PR 65 Gt:=fun fn hfn=>by
 have hf:PR.funcs[(65:Nat)]? = some Tryz.f65:=by kernel_rfl
 rw [hf] at hfn;cases hfn
 have hb:Tryz.f65.body=some (bh Tryz.f65):=by kernel_rfl
 have hn:Tryz.f65.ntmps=13:=by kernel_rfl
 refine BK hf hb (by kernel_rfl) fun vs objs R hcan h=>?_
 clear hcan
 unfold Gt at h
 split at h
 ·rename_i f a pa b pb a2 ec T b2 s
  obtain ⟨⟨rfl,rfl,rfl,rfl,rfl,rfl,rfl,rfl,hT⟩,hR⟩:=h
  exact ⟨by rw [hn];decide,fun a w Z G S=>HG s T hT (by simp only [List.length_nil];omega) hR S⟩
 ·rename_i o f a pa b pb o2 t xs a2 ec T b2 s
  obtain ⟨⟨rfl,rfl,rfl,rfl,rfl,rfl,rfl,rfl,rfl,rfl,rfl,hT,hr⟩,hR⟩:=h
  exact ⟨by rw [hn];decide,fun a w Z G S=>HA s T xs hT hr hR S⟩
 ·exact h.elim
theorem Ib:ee PR 63 Ip:=fun fn hfn=>by
 have hf:PR.funcs[(63:Nat)]? = some Tryz.f63:=by kernel_rfl
 rw [hf] at hfn;cases hfn
 refine dB (C:=Jt) (aB ao af .nil (.cons Dw .nil)) hf (by kernel_rfl) (aI (by kernel_rfl)) fun vs objs R h1 h2 h=>?_
 clear h1 h2
 unfold Ip at h
 split at h
 ·obtain ⟨⟨rfl,rfl,rfl,rfl,rfl,rfl,rfl,rfl,hT⟩,hR⟩:=h
  exact .eq (Eb R _ _) ⟨⟨by trivial,by trivial,by trivial,by trivial,by trivial,by trivial,by trivial,by trivial,hT⟩,hR⟩
 ·exact h.elim
theorem de (s:U) (T:List U):(ai s T).length≤8 * T.length:=by
 unfold ai
 rw [List.length_map]
 exact kz s T _
theorem Fa:aE eaC 0 (aa Tryz.f42 0):=by
 refine al (F:=tX) (ts:=[13,12,11,3]) (os:=[1168]) rfl (fun svs _=>match svs with | .val _ i :: _ :: .val _ S :: _=>((S.list.length:Int) - i.int).toNat | _=>0) ?_
 intro pan svs os k ho1 ho2 h
 unfold tX at h
 split at h
 ·rename_i i n sc S o t xs
  obtain ⟨⟨hi,rfl,rfl,rfl,hn,h0,hle,hS,hx,hf⟩,hk⟩:=h
  refine .eq (DR pan _ _ k i n S xs) ?_
  refine bd (fun hlt=>dt ⟨h0,by omega⟩ ?_) (fun hlt=>?_)
  ·rw [aN (by omega),bb] at hf
   rw [aN (by omega),ad] at hk
   simp only [Bool.and_eq_true,decide_eq_true_eq] at hf
   obtain ⟨f1,f2⟩:=hf
   have hwi:IntKind.wrap .i64 (i.int + 1)=i.int + 1:=i64_in (by omega) (by omega)
   have hc:(i.int + 1).toNat=i.int.toNat + 1:=by omega
   have hll:=de i (nth (.i 0) (U.at S.list i.int.toNat).list 2).list
   simp only [aD,Nat.zero_add,Nat.reduceAdd]
   rw [hwi,hc]
   rw [← hi] at hk
   refine ⟨by trivial,⟨by trivial,by trivial,by trivial,by trivial,by trivial,by trivial,by trivial,by trivial,by trivial,by trivial,by trivial,f1,(show xs.length + 8 * (nth (.i 0) (U.at S.list i.int.toNat).list 2).list.length≤1073741824 by omega)⟩,blt (by simp only [U.int_i];omega) ⟨⟨by trivial,by trivial,by trivial,by trivial,hn,by omega,by omega,hS,?_,f2⟩,?_⟩⟩
   ·rw [List.length_append]
    have e:S.list.length - i.int.toNat=(S.list.length - (i.int.toNat + 1)) + 1:=by omega
    rw [e,Nat.mul_add] at hx
    show xs.length + (ai i (nth (.i 0) (U.at S.list i.int.toNat).list 2).list).length + 524288 * (S.list.length - (i.int.toNat + 1))≤1073741824
    omega
   ·rw [List.append_assoc]
    exact hk
  ·rw [List.drop_of_length_le (by omega),ad,List.append_nil] at hk
   exact hk
 ·exact h.elim
theorem sk:cG PR 42 gQ oY:=fun fn us hfn hpre=>by
 have hf:PR.funcs[(42:Nat)]? = some Tryz.f42:=by kernel_rfl
 rw [hf] at hfn;cases hfn
 refine aM (C:=eaC) (aB ao af .nil (.cons Dw (.cons Ib (.cons It .nil)))) hf (by kernel_rfl) (aW (by kernel_rfl) Fa) fun hok=>?_
 have hp:Tryz.f42.params.toList=[29]:=by kernel_rfl
 rw [hp] at hok
 obtain ⟨u,rfl,h1⟩:=cT (by kernel_rfl:Cs PR 29=some (true,[.int .i64,.int .i64,.str,.sl false [.sl true EC],.sl true SC,.sl true BC,.sl false [.int .i64]])) hok.1
 obtain ⟨c,sz,bk,T,S,M,Q,rfl⟩:∃ a b c d e f g,u=[a,b,c,d,e,f,g]:=match u,h1 with | [a,b,c,d,e,f,g],_=>⟨a,b,c,d,e,f,g,rfl⟩
 obtain ⟨h1,h2,h3⟩:T.list.length≤65536∧S.list.length≤1000∧bb S.list=true:=hpre
 refine .eq (GQ _ c sz bk T S M Q) ?_
 have hll:=de (.i (-1)) T.list
 refine ⟨by trivial,⟨by trivial,by trivial,by trivial,by trivial,by trivial,by trivial,by trivial,by trivial,h1⟩,⟨by trivial,by trivial,by trivial,by trivial,by trivial,by omega,by omega,h2,?_,?_⟩,?_⟩
 ·rw [show Int.toNat 0=0 from rfl,Nat.sub_zero];omega
 ·exact h3
 ·rfl
end Go.Mat

namespace Go.Mat
open Go Go.Den Go.Proofs
def stI (L i:U):Int:=U.int (nth (.i 0) (List.tail (List.tail (List.tail (U.list (nth (.i 0) L.list (Int.toNat i.int)))))) 0)
def ctI (L i:U):Int:=U.int (nth (.i 0) (List.tail (List.tail (List.tail (List.tail (U.list (nth (.i 0) L.list (Int.toNat i.int))))))) 0)
def bD (f:Nat→Int):Nat→List U→List U
 | _,[]=>[]
 | k,x :: r=>.i (x.int + f k) :: bD f (k + 1) r
abbrev pS (l:U):U:=nth (.i 0) l.list 3
abbrev uG (l:U):U:=nth (.i 0) l.list 4
def gZ:List U→Bool
 | []=>true
 | l :: r=>(decide (0≤(pS l).int) && decide ((pS l).int≤65536) && decide (0≤(uG l).int) && decide ((uG l).int≤65536)) && gZ r
def inI (a b:Int) (k:Nat):Int:=bif decide (a≤k) && decide ((k:Int) < b) then 1 else 0
def cH:List U→Nat→Int
 | [],_=>0
 | l :: r,k=>inI (pS l).int ((pS l).int + (uG l).int) k + cH r k
def ej (b:Int) (xs:List U):Bool:=xs.all fun x=>decide (0≤x.int) && decide (x.int≤b)
def eg (xs:List U):Prop:=xs=bD (fun _=>0) 0 xs
noncomputable def oE:aS:=fun _ svs os k=>match svs,os with
 | [.val (.int .i64) i,.val (.int .i64) m,.own o,.val (.int .i64) n,.ptr pp po],[.arr t xs,.box [.val (.int .i64) c,.val (.int .i64) sz,.val .str bk,.val (.sl false [.sl true x1]) T,.val (.sl true x2) S,.val (.sl true x3) M,.val (.sl false [.int .i64]) Q]]=>
  (o=2558∧t=3∧x1=EC∧x2=SC∧x3=BC∧pp=256∧po=0∧0≤i.int∧m.int≤(xs.length:Int)∧xs.length≤65536∧eg xs∧ej 1000 (xs.drop i.int.toNat)=true)∧
  k (.exit 0) ⟨[(5,.own 2558),(1,vi n),(2,.ptr 256 0)],[(2558,.arr 3 (bD (inI i.int m.int) 0 xs)),(256,.box [vi c,vi sz,vs bk,vl (.sl true EC) T,vt SC S,vt BC M,vl (.int .i64) Q])]⟩
 | _,_=>False
noncomputable def oT:aS:=fun _ svs os k=>match svs,os with
 | [.val (.int .i64) i,.val (.int .i64) e,.own o,.val (.int .i64) j,.val (.int .i64) n2,.val (.sl true lc) L,.val (.int .i64) n],[.arr t xs]=>
  (o=2558∧t=3∧lc=LNC∧0≤i.int∧e.int≤(xs.length:Int)∧xs.length≤65536∧eg xs∧ej 4611686018427387904 (xs.drop i.int.toNat)=true)∧
  k (.exit 4) ⟨[(5,.own 2558),(35,vi j),(34,vi n2),(33,.val (.sl true LNC) L),(1,vi n)],[(2558,.arr 3 (bD (inI i.int e.int) 0 xs))]⟩
 | _,_=>False
noncomputable def oR:aS:=fun _ svs os k=>match svs,os with
 | [.val (.int .i64) i,.val (.int .i64) m,.val (.sl true lc) L,.own o,.val (.int .i64) n],[.arr t xs]=>
  (o=2558∧t=3∧lc=LNC∧m.int=(L.list.length:Int)∧0≤i.int∧i.int≤(L.list.length:Int)∧L.list.length≤1073741824∧n.int=(xs.length:Int)∧xs.length≤65536∧eg xs∧gZ (L.list.drop i.int.toNat)=true∧ej (1 + i.int) xs=true)∧
  k (.exit 2) ⟨[(5,.own 2558)],[(2558,.arr 3 (bD (cH (L.list.drop i.int.toNat)) 0 xs))]⟩
 | _,_=>False
noncomputable def ofC:Ctx:=mkC PR bM (aV 42 gQ oY aK) aL (aw 0 [22,21,5,1,2] [2558,256] oE (aw 2 [35,34,33,5,1] [2558] oR (aw 4 [11,10,5,35,34,33,1] [2558] oT aC)))
 (an 0 [5,1,2] [2558,256] (an 2 [5] [2558] (an 4 [5,35,34,33,1] [2558] aq))) aq
theorem Bu (pan:KP) (μ:Mu) (N:Nat) (k:KE) (i m n c sz bk T S M Q:U) (xs:List U) {a b d} (_:a=(List.set xs i.int.toNat (nth (.i 0) (c4 [nth (.i 0) xs i.int.toNat] (0:Nat) [U.i (IntKind.wrap .i64 (U.int (nth (.i 0) xs i.int.toNat) + 1))]) 0)):=by rfl) (_:b=(256,.box [vi c,vi sz,.val .str bk,.val (.sl false [.sl true EC]) T,.val (.sl true [.str,.int .i64,Ct.sl false [.sl true EC]]) S,.val (.sl true [.str,Ct.bool,Ct.sl true [.int .i64,.int .i64]]) M,.val (.sl false [.int .i64]) Q]):=by rfl) (_:d=(IntKind.wrap .i64 (i.int + 1)):=by rfl): (exec (ofC.panics pan) (aa Tryz.f24 0) 0 ⟨[(22,vi i),(21,vi m),(5,.own 2558),(1,vi n),(2,.ptr 256 0)],[(2558,.arr 3 xs),(256,.box [vi c,vi sz,vs bk,vl (.sl true EC) T,vt SC S,vt BC M,vl (.int .i64) Q])]⟩ (again PR (some ([5,1,2],[2558,256])) none pan [22,21,5,1,2] [2558,256] oE μ N k))=(bif decide (i.int < m.int) then bif decide ((0:Int)≤i.int∧i.int < (xs.length:Int)) then bif Nat.blt i.int.toNat (List.length xs) then bif decide ((0:Int)≤i.int∧i.int < (xs.length:Int)) then bif Nat.blt i.int.toNat (List.length xs) then bif Nat.blt (μ [vi (U.i d),vi m,.own 2558,vi n,.ptr 256 0] [.arr 3 a,.box [vi c,vi sz,.val .str bk,.val (.sl false [.sl true EC]) T,.val (.sl true [.str,.int .i64,Ct.sl false [.sl true EC]]) S,.val (.sl true [.str,Ct.bool,Ct.sl true [.int .i64,.int .i64]]) M,.val (.sl false [.int .i64]) Q]]) N then (2558=2558∧3=3∧EC=EC∧[Ct.str,.int .i64,Ct.sl false [Ct.sl true EC]]=[.str,.int .i64,Ct.sl false [.sl true EC]]∧[Ct.str,Ct.bool,Ct.sl true [.int .i64,.int .i64]]=[.str,Ct.bool,Ct.sl true [.int .i64,.int .i64]]∧256=256∧0=0∧(0:Int)≤IntKind.wrap .i64 (i.int + 1)∧m.int≤(↑(List.length a):Int)∧List.length a≤(65536:Nat)∧eg a∧ej 1000 (List.drop (Int.toNat d) a)=true)∧k (Ex.exit 0) (St.mk [(5,.own 2558),(1,vi n),(2,.ptr 256 0)] [(2558,.arr 3 (bD (inI d m.int) (0:Nat) a)),b]) else False else False else False else False else False else k (Ex.exit 0) (St.mk [(5,.own 2558),(1,vi n),(2,.ptr 256 0)] [(2558,.arr 3 xs),b])):=by subst_vars;kernel_rfl
theorem Bb (pan:KP) (μ:Mu) (N:Nat) (k:KE) (i e j n2 L n:U) (xs:List U) {a b} (_:a=(List.set xs i.int.toNat (nth (.i 0) (c4 [nth (.i 0) xs i.int.toNat] (0:Nat) [U.i (IntKind.wrap .i64 (U.int (nth (.i 0) xs i.int.toNat) + 1))]) 0)):=by rfl) (_:b=(IntKind.wrap .i64 (i.int + 1)):=by rfl): (exec (ofC.panics pan) (aa Tryz.f24 2) 4 ⟨[(11,vi i),(10,vi e),(5,.own 2558),(35,vi j),(34,vi n2),(33,.val (.sl true LNC) L),(1,vi n)],[(2558,.arr 3 xs)]⟩ (again PR (some ([5,35,34,33,1],[2558])) none pan [11,10,5,35,34,33,1] [2558] oT μ N k))=(bif decide (i.int < e.int) then bif decide ((0:Int)≤i.int∧i.int < (xs.length:Int)) then bif Nat.blt i.int.toNat (List.length xs) then bif decide ((0:Int)≤i.int∧i.int < (xs.length:Int)) then bif Nat.blt i.int.toNat (List.length xs) then bif Nat.blt (μ [vi (U.i b),vi e,.own 2558,vi j,vi n2,.val (.sl true LNC) L,vi n] [.arr 3 a]) N then (2558=2558∧3=3∧LNC=LNC∧(0:Int)≤IntKind.wrap .i64 (i.int + 1)∧e.int≤(↑(List.length a):Int)∧List.length a≤(65536:Nat)∧eg a∧ej 4611686018427387904 (List.drop (Int.toNat b) a)=true)∧k (Ex.exit 4) (St.mk [(5,.own 2558),(35,vi j),(34,vi n2),(33,.val (.sl true LNC) L),(1,vi n)] [(2558,.arr 3 (bD (inI b e.int) (0:Nat) a))]) else False else False else False else False else False else k (Ex.exit 4) (St.mk [(5,.own 2558),(35,vi j),(34,vi n2),(33,.val (.sl true LNC) L),(1,vi n)] [(2558,.arr 3 xs)])):=by subst_vars;kernel_rfl
theorem AS (pan:KP) (μ:Mu) (N:Nat) (k:KE) (i m L n:U) (xs:List U) {r y p a t f s g u b x c d e h j l o q v w} (_:r=(bif decide (stI L i < 0) then (0:Int) else stI L i):=by rfl) (_:y=(stI L i + ctI L i):=by rfl) (_:p=(bif decide ((bif decide (IntKind.wrap .i64 y < 0) then (0:Int) else IntKind.wrap .i64 y) < n.int) then bif decide (IntKind.wrap .i64 y < 0) then (0:Int) else IntKind.wrap .i64 y else n.int):=by rfl) (_:a=(bD (inI r p) (0:Nat) xs):=by rfl) (_:t=(L.list.length:Int):=by rfl) (_:f=(bD (inI r n.int) (0:Nat) xs):=by rfl) (_:s=(IntKind.wrap .i64 (i.int + 1)):=by rfl) (_:g=(List.drop (Int.toNat s) L.list):=by rfl) (_:u=((1:Int) + IntKind.wrap .i64 (i.int + 1)):=by rfl) (_:b=(2558=2558∧3=3∧LNC=LNC∧m.int=t∧(0:Int)≤IntKind.wrap .i64 (i.int + 1)∧IntKind.wrap .i64 (i.int + 1)≤t∧L.list.length≤(1073741824:Nat)∧n.int=(↑(List.length f):Int)∧List.length f≤(65536:Nat)∧eg f∧gZ g=true∧ej u f=true):=by rfl) (_:x=((0:Int)≤bif decide (stI L i < 0) then (0:Int) else stI L i):=by rfl) (_:c=(2558=2558∧3=3∧LNC=LNC∧x∧p≤(xs.length:Int)∧List.length xs≤(65536:Nat)∧eg xs∧ej 4611686018427387904 (List.drop (Int.toNat r) xs)=true):=by rfl) (_:d=(2558=2558∧3=3∧LNC=LNC∧m.int=t∧(0:Int)≤IntKind.wrap .i64 (i.int + 1)∧IntKind.wrap .i64 (i.int + 1)≤t∧L.list.length≤(1073741824:Nat)∧n.int=(↑(List.length a):Int)∧List.length a≤(65536:Nat)∧eg a∧gZ g=true∧ej u a=true):=by rfl) (_:e=(2558=2558∧3=3∧LNC=LNC∧x∧n.int≤(xs.length:Int)∧List.length xs≤(65536:Nat)∧eg xs∧ej 4611686018427387904 (List.drop (Int.toNat r) xs)=true):=by rfl) (_:h=(μ [vi (U.i s),vi m,.val (.sl true LNC) L,.own 2558,vi n] [.arr 3 f]):=by rfl) (_:j=(2558=2558∧3=3∧LNC=LNC∧m.int=t∧(0:Int)≤IntKind.wrap .i64 (i.int + 1)∧IntKind.wrap .i64 (i.int + 1)≤t∧L.list.length≤(1073741824:Nat)∧n.int=(xs.length:Int)∧List.length xs≤(65536:Nat)∧eg xs∧gZ g=true∧ej u xs=true):=by rfl) (_:l=(μ [vi (U.i s),vi m,.val (.sl true LNC) L,.own 2558,vi n] [.arr 3 a]):=by rfl) (_:o=(St.mk [(5,.own 2558)] [(2558,.arr 3 (bD (cH g) (0:Nat) f))]):=by rfl) (_:q=(St.mk [(5,.own 2558)] [(2558,.arr 3 (bD (cH g) (0:Nat) a))]):=by rfl) (_:v=(μ [vi (U.i s),vi m,.val (.sl true LNC) L,.own 2558,vi n] [.arr 3 xs]):=by rfl) (_:w=(St.mk [(5,.own 2558)] [(2558,.arr 3 (bD (cH g) (0:Nat) xs))]):=by rfl): (exec (ofC.panics pan) (aa Tryz.f24 1) 2 ⟨[(35,vi i),(34,vi m),(33,.val (.sl true LNC) L),(5,.own 2558),(1,vi n)],[(2558,.arr 3 xs)]⟩ (again PR (some ([5],[2558])) none pan [35,34,33,5,1] [2558] oR μ N k))=(bif decide (i.int < m.int) then bif decide ((0:Int)≤i.int∧i.int < t) then bif decide (ctI L i≤0) then bif Nat.blt v N then j∧k (Ex.exit 2) w else False else bif decide (stI L i ≥ n.int) then bif Nat.blt v N then j∧k (Ex.exit 2) w else False else bif decide (ctI L i < n.int) then bif decide (stI L i > 0) then bif decide (ctI L i ≥ IntKind.wrap .i64 (n.int - stI L i)) then e∧bif Nat.blt h N then b∧k (Ex.exit 2) o else False else c∧bif Nat.blt l N then d∧k (Ex.exit 2) q else False else c∧bif Nat.blt l N then d∧k (Ex.exit 2) q else False else bif decide (stI L i < 0) then bif decide (stI L i > 0) then bif decide (ctI L i ≥ IntKind.wrap .i64 (n.int - stI L i)) then e∧bif Nat.blt h N then b∧k (Ex.exit 2) o else False else c∧bif Nat.blt l N then d∧k (Ex.exit 2) q else False else c∧bif Nat.blt l N then d∧k (Ex.exit 2) q else False else bif decide (stI L i > 0) then bif decide (ctI L i ≥ IntKind.wrap .i64 (n.int - stI L i)) then e∧bif Nat.blt h N then b∧k (Ex.exit 2) o else False else e∧bif Nat.blt h N then b∧k (Ex.exit 2) o else False else e∧bif Nat.blt h N then b∧k (Ex.exit 2) o else False else False else k (Ex.exit 2) (St.mk [(5,.own 2558)] [(2558,.arr 3 xs)])):=by subst_vars;kernel_rfl
theorem Gd (R:RF) (c sz bk T S M Q n:U) {e d a b} (_:e=(bif decide ((2:Int) < n.int) then (2:Int) else n.int):=by rfl) (_:d=(List.replicate n.int.toNat (U.i 0)):=by rfl) (_:a=(bD (inI 0 e) (0:Nat) d):=by rfl) (_:b=(ai (U.i (-1:Int)) T.list ++ ad 0 S.list):=by rfl): (run ofC Tryz.f24 [[c,sz,bk,T,S,M,Q],[n]] R)=(bif decide (n.int < 0) then R [[U.l []]] else bif decide (n.int > 65536) then R [[U.l []]] else bif decide ((0:Int)≤n.int∧n.int≤n.int∧n.int≤(↑room:Int)) then (2558=2558∧3=3∧EC=EC∧[Ct.str,.int .i64,Ct.sl false [Ct.sl true EC]]=[.str,.int .i64,Ct.sl false [.sl true EC]]∧[Ct.str,Ct.bool,Ct.sl true [.int .i64,.int .i64]]=[.str,Ct.bool,Ct.sl true [.int .i64,.int .i64]]∧256=256∧0=0∧(0:Int)≤0∧e≤(↑(List.length d):Int)∧List.length d≤(65536:Nat)∧eg d∧ej 1000 (List.drop (Int.toNat 0) d)=true)∧gQ [[c,sz,bk,T,S,M,Q]]∧(2558=2558∧3=3∧LNC=LNC∧(↑(List.length b):Int)=(↑(List.length b):Int)∧(0:Int)≤0∧(0:Int)≤(↑(List.length b):Int)∧List.length b≤(1073741824:Nat)∧n.int=(↑(List.length a):Int)∧List.length a≤(65536:Nat)∧eg a∧gZ (List.drop (Int.toNat 0) b)=true∧ej ((1:Int) + 0) a=true)∧R [[U.l (bD (cH (List.drop (Int.toNat 0) b)) (0:Nat) a)]] else False):=by subst_vars;kernel_rfl
end Go.Mat

namespace Go.Mat
open Go Go.Den Go.Proofs
set_option maxRecDepth 100000
@[simp] theorem ck (f:Nat→Int):∀ (k:Nat) (xs:List U),(bD f k xs).length=xs.length
 | _,[]=>rfl
 | k,_ :: r=>by rw [bD,List.length_cons,List.length_cons,ck f (k + 1) r]
theorem bZ {f g:Nat→Int}:∀ (k:Nat) (xs:List U),(∀ j,k≤j→j < k + xs.length→f j=g j)→bD f k xs=bD g k xs
 | _,[],_=>rfl
 | k,x :: r,h=>by
  rw [bD,bD,h k (Nat.le_refl _) (by simp),bZ (k + 1) r fun j h1 h2=>h j (by omega) (by simp only [List.length_cons];omega)]
theorem dI {f g:Nat→Int}:∀ (k:Nat) (xs:List U),bD g k (bD f k xs)=bD (fun j=>f j + g j) k xs
 | _,[]=>rfl
 | k,x :: r=>by
  rw [bD,bD,bD,dI (k + 1) r]
  simp only [U.int_i,Int.add_assoc]
theorem fU (f:Nat→Int) (xs:List U):eg (bD f 0 xs):=by
 unfold eg
 rw [dI]
 exact bZ 0 xs fun j _ _=>by omega
theorem fb {f:Nat→Int} {xs:List U} (hn:eg xs) (h:∀ j,j < xs.length→f j=0):bD f 0 xs=xs:=by
 unfold eg at hn
 rw [bZ (g:=fun _=>0) 0 xs fun j _ h2=>h j (by omega)]
 exact hn.symm
theorem wx {f g:Nat→Int}:∀ (k i:Nat) (xs:List U),i < xs.length→(∀ j,j≠k + i→f j=g j)→bD f k (xs.set i (.i ((U.at xs i).int + 1)))=bD (fun j=>g j + (if j=k + i then f j + 1 - g j else 0)) k xs
 | _,_,[],h,_=>by simp at h
 | k,0,x :: r,_,hfg=>by
  show bD f k (.i (x.int + 1) :: r)=_
  rw [bD,bD]
  congr 1
  ·simp only [U.int_i,Nat.add_zero,if_true]
   congr 1
   omega
  ·refine bZ (k + 1) r fun j h1 _=>?_
   rw [if_neg (by omega),hfg j (by omega)]
   omega
 | k,i + 1,x :: r,h,hfg=>by
  show bD f k (x :: r.set i (.i ((U.at r i).int + 1)))=_
  rw [bD,bD,wx (f:=f) (g:=g) (k + 1) i r (by simpa using h) fun j hj=>hfg j (by omega)]
  congr 1
  ·rw [if_neg (by omega),hfg k (by omega),Int.add_zero]
  ·refine bZ (k + 1) r fun j _ _=>?_
   rw [show k + 1 + i=k + (i + 1) by omega]
theorem lY {i e:Int} (h0:0≤i) (hlt:i < e) {xs:List U} (hi:i.toNat < xs.length):bD (inI (i + 1) e) 0 (xs.set i.toNat (.i ((U.at xs i.toNat).int + 1)))=bD (inI i e) 0 xs:=by
 rw [wx (g:=inI i e) 0 i.toNat xs hi fun j hj=>?_]
 ·refine bZ 0 xs fun j _ _=>?_
  by_cases hj:j=0 + i.toNat
  ·rw [if_pos hj]
   unfold inI
   rw [decide_eq_false (by omega:¬ i + 1≤(j:Int)),decide_eq_true (by omega:i≤(j:Int)),decide_eq_true (by omega:(j:Int) < e)]
   rfl
  ·rw [if_neg hj,Int.add_zero]
 ·unfold inI
  by_cases h1:i≤(j:Int)
  ·rw [decide_eq_true h1,decide_eq_true (by omega:i + 1≤(j:Int))]
  ·rw [decide_eq_false h1,decide_eq_false (by omega:¬ i + 1≤(j:Int))]
theorem oO {xs:List U} (hn:eg xs) (i:Nat) (z:Int):eg (xs.set i (.i z)):=by
 have key:∀ (k i:Nat) (xs:List U),xs=bD (fun _=>0) k xs→xs.set i (.i z)=bD (fun _=>0) k (xs.set i (.i z)):=by
  intro k i xs
  induction xs generalizing k i with
  | nil=>intro _;rfl
  | cons x r ih=>
   intro h
   rw [bD] at h
   injection h with h1 h2
   cases i with
   | zero=>
    show U.i z :: r=bD _ k (U.i z :: r)
    rw [bD,← h2]
    simp
   | succ i=>
    show x :: r.set i (.i z)=bD _ k (x :: r.set i (.i z))
    rw [bD,← h1,← ih (k + 1) i h2]
 exact key 0 i xs hn
theorem rW (y z:U):nth (U.i 0) (c4 [y] 0 [z]) 0=z:=rfl
theorem gr {b:Int} {xs:List U} {i:Nat} {z:U} (h:ej b (xs.drop i)=true):ej b ((xs.set i z).drop (i + 1))=true:=by
 refine List.all_eq_true.2 fun x hx=>?_
 rw [List.drop_set_of_lt (by omega)] at hx
 exact List.all_eq_true.1 h x (by
  have:(xs.drop (i + 1))=(xs.drop i).drop 1:=by rw [List.drop_drop]
  rw [this] at hx
  exact List.mem_of_mem_drop hx)
theorem mF {b:Int} {xs:List U} {i:Nat} (h:ej b (xs.drop i)=true) (hi:i < xs.length):0≤(U.at xs i).int∧(U.at xs i).int≤b:=by
 have hm:U.at xs i ∈ xs.drop i:=by rw [aN hi];exact List.mem_cons_self ..
 have:=List.all_eq_true.1 h _ hm
 simpa using this
theorem u9:aE ofC 0 (aa Tryz.f24 0):=by
 refine al (F:=oE) (ts:=[22,21,5,1,2]) (os:=[2558,256]) rfl (fun svs _=>match svs with | .val _ i :: .val _ m :: _=>(m.int - i.int).toNat | _=>0) ?_
 intro pan svs os k ho1 ho2 h
 unfold oE at h
 split at h
 ·rename_i i m o n pp po t xs c sz bk x1 T x2 S x3 M Q
  obtain ⟨⟨rfl,rfl,rfl,rfl,rfl,rfl,rfl,h0,hm,hx,hn,hb⟩,hk⟩:=h
  refine .eq (Bu pan _ _ k i m n c sz bk T S M Q xs) ?_
  refine bd (fun hlt=>?_) (fun hlt=>?_)
  ·have hi:i.int.toNat < xs.length:=by omega
   obtain ⟨b1,b2⟩:=mF hb hi
   have hwi:IntKind.wrap .i64 (i.int + 1)=i.int + 1:=i64_in (by omega) (by omega)
   have hc:(i.int + 1).toNat=i.int.toNat + 1:=by omega
   have hwx:IntKind.wrap .i64 ((U.at xs i.int.toNat).int + 1)=(U.at xs i.int.toNat).int + 1:=i64_in (by omega) (by omega)
   refine dt ⟨h0,by omega⟩ (blt hi (dt ⟨h0,by omega⟩ (blt hi ?_)))
   rw [rW,hwi,hc,hwx]
   refine blt (by simp only [U.int_i];omega) ⟨⟨by trivial,by trivial,by trivial,by trivial,by trivial,by trivial,by trivial,by omega,?_,?_,oO hn _ _,gr hb⟩,?_⟩
   ·rw [List.length_set];exact hm
   ·rw [List.length_set];exact hx
   ·rw [lY h0 hlt hi]
    exact hk
  ·rw [fb hn fun j hj=>?_] at hk
   ·exact hk
   ·unfold inI
    by_cases h1:i.int≤(j:Int)
    ·rw [decide_eq_false (by omega:¬ (j:Int) < m.int),Bool.and_false];rfl
    ·rw [decide_eq_false h1];rfl
 ·exact h.elim
theorem uh:aE ofC 4 (aa Tryz.f24 2):=by
 refine al (F:=oT) (ts:=[11,10,5,35,34,33,1]) (os:=[2558]) rfl (fun svs _=>match svs with | .val _ i :: .val _ m :: _=>(m.int - i.int).toNat | _=>0) ?_
 intro pan svs os k ho1 ho2 h
 unfold oT at h
 split at h
 ·rename_i i m o j n2 lc L n t xs
  obtain ⟨⟨rfl,rfl,rfl,h0,hm,hx,hn,hb⟩,hk⟩:=h
  refine .eq (Bb pan _ _ k i m j n2 L n xs) ?_
  refine bd (fun hlt=>?_) (fun hlt=>?_)
  ·have hi:i.int.toNat < xs.length:=by omega
   obtain ⟨b1,b2⟩:=mF hb hi
   have hwi:IntKind.wrap .i64 (i.int + 1)=i.int + 1:=i64_in (by omega) (by omega)
   have hc:(i.int + 1).toNat=i.int.toNat + 1:=by omega
   have hwx:IntKind.wrap .i64 ((U.at xs i.int.toNat).int + 1)=(U.at xs i.int.toNat).int + 1:=i64_in (by omega) (by omega)
   refine dt ⟨h0,by omega⟩ (blt hi (dt ⟨h0,by omega⟩ (blt hi ?_)))
   rw [rW,hwi,hc,hwx]
   refine blt (by simp only [U.int_i];omega) ⟨⟨by trivial,by trivial,by trivial,by omega,?_,?_,oO hn _ _,gr hb⟩,?_⟩
   ·rw [List.length_set];exact hm
   ·rw [List.length_set];exact hx
   ·rw [lY h0 hlt hi]
    exact hk
  ·rw [fb hn fun j hj=>?_] at hk
   ·exact hk
   ·unfold inI
    by_cases h1:i.int≤(j:Int)
    ·rw [decide_eq_false (by omega:¬ (j:Int) < m.int),Bool.and_false];rfl
    ·rw [decide_eq_false h1];rfl
 ·exact h.elim
theorem iH (a b:Int) (j:Nat):0≤inI a b j∧inI a b j≤1:=by
 unfold inI
 cases decide (a≤(j:Int)) && decide ((j:Int) < b)<;>decide
theorem fq {b:Int} {f:Nat→Int}:∀ (k:Nat) (xs:List U),ej b xs=true→(∀ j,0≤f j∧f j≤1)→ej (b + 1) (bD f k xs)=true
 | _,[],_,_=>rfl
 | k,x :: r,h,hf=>by
  have h:((decide (0≤x.int) && decide (x.int≤b)) && ej b r)=true:=h
  simp only [Bool.and_eq_true,decide_eq_true_eq] at h
  obtain ⟨⟨h1,h2⟩,h3⟩:=h
  obtain ⟨f1,f2⟩:=hf k
  show ((decide (0≤(U.i (x.int + f k)).int) && decide ((U.i (x.int + f k)).int≤b + 1)) && ej (b + 1) (bD f (k + 1) r))=true
  rw [fq (k + 1) r h3 hf,decide_eq_true (by simp only [U.int_i];omega),decide_eq_true (by simp only [U.int_i];omega)]
  rfl
theorem jg {st e hi n:Int} {j:Nat} (hj:(j:Int) < n) (h1:hi≤e) (h2:hi < e→n≤hi):inI st hi j=inI st e j:=by
 unfold inI
 by_cases h:(j:Int) < hi
 ·rw [decide_eq_true h,decide_eq_true (by omega:(j:Int) < e)]
 ·rw [decide_eq_false h,decide_eq_false (by omega:¬ (j:Int) < e)]
theorem we:aE ofC 2 (aa Tryz.f24 1):=by
 refine al (F:=oR) (ts:=[35,34,33,5,1]) (os:=[2558]) rfl (fun svs _=>match svs with | .val _ i :: .val _ m :: _=>(m.int - i.int).toNat | _=>0) ?_
 intro pan svs os k ho1 ho2 h
 unfold oR at h
 split at h
 ·rename_i i m lc L o n t xs
  obtain ⟨⟨rfl,rfl,rfl,hm,h0,hle,hL,hn2,hx,hn,hf,hb⟩,hk⟩:=h
  refine .eq (AS pan _ _ k i m L n xs) ?_
  refine bd (fun hlt=>dt ⟨h0,by omega⟩ ?_) (fun hlt=>?_)
  ·have hi:i.int.toNat < L.list.length:=by omega
   rw [aN hi,gZ] at hf
   rw [aN hi] at hk
   have hst:stI L i=(pS (U.at L.list i.int.toNat)).int:=by unfold stI;simp only [aD]
   have hct:ctI L i=(uG (U.at L.list i.int.toNat)).int:=by unfold ctI;simp only [aD]
   rw [← hst,← hct] at hf
   have hk:k (.exit 2) ⟨[(5,.own 2558)],[(2558,.arr 3 (bD (fun j=>inI (pS (U.at L.list i.int.toNat)).int ((pS (U.at L.list i.int.toNat)).int + (uG (U.at L.list i.int.toNat)).int) j + cH (L.list.drop (i.int.toNat + 1)) j) 0 xs))]⟩:=hk
   rw [← hst,← hct] at hk
   clear hst hct
   generalize stI L i=st at *
   generalize ctI L i=ct at *
   simp only [Bool.and_eq_true,decide_eq_true_eq] at hf
   obtain ⟨⟨⟨⟨hst0,hst1⟩,hct0⟩,hct1⟩,f2⟩:=hf
   have hwi:IntKind.wrap .i64 (i.int + 1)=i.int + 1:=i64_in (by omega) (by omega)
   have hc:(i.int + 1).toNat=i.int.toNat + 1:=by omega
   have hw1:IntKind.wrap .i64 (st + ct)=st + ct:=i64_in (by omega) (by omega)
   have hw2:IntKind.wrap .i64 (n.int - st)=n.int - st:=i64_in (by omega) (by omega)
   have hd1:decide (st < 0)=false:=decide_eq_false (by omega)
   have hd2:decide (st + ct < 0)=false:=decide_eq_false (by omega)
   have hbd:ej 4611686018427387904 (xs.drop st.toNat)=true:=by
    refine List.all_eq_true.2 fun x hx=>?_
    have:=List.all_eq_true.1 hb x (List.mem_of_mem_drop hx)
    simp only [Bool.and_eq_true,decide_eq_true_eq] at this ⊢
    omega
   rw [hwi,hc,hw1,hw2,hd1,hd2]
   simp only [cond_false]
   have hmin:(bif decide (st + ct < n.int) then st + ct else n.int)≤(xs.length:Int):=by
    by_cases h:st + ct < n.int
    ·rw [decide_eq_true h];simp only [cond_true];omega
    ·rw [decide_eq_false h];simp only [cond_false];omega
   have hmin1:(bif decide (st + ct < n.int) then st + ct else n.int)≤st + ct:=by
    by_cases h:st + ct < n.int
    ·rw [decide_eq_true h];simp only [cond_true];omega
    ·rw [decide_eq_false h];simp only [cond_false];omega
   have hmin2:(bif decide (st + ct < n.int) then st + ct else n.int) < st + ct→n.int≤(bif decide (st + ct < n.int) then st + ct else n.int):=by
    by_cases h:st + ct < n.int
    ·rw [decide_eq_true h];simp only [cond_true];omega
    ·rw [decide_eq_false h];simp only [cond_false];omega
   have hskip:(∀ j:Nat,(j:Int) < n.int→inI st (st + ct) j=0)→k (.exit 2) ⟨[(5,.own 2558)],[(2558,.arr 3 (bD (cH (L.list.drop (i.int.toNat + 1))) 0 xs))]⟩:=fun h=>by
    rw [bZ (g:=cH (L.list.drop (i.int.toNat + 1))) 0 xs fun j _ hj=>by rw [h j (by omega),Int.zero_add]] at hk
    exact hk
   have hb2:ej (1 + (i.int + 1)) xs=true:=by
    refine List.all_eq_true.2 fun x hx=>?_
    have:=List.all_eq_true.1 hb x hx
    simp only [Bool.and_eq_true,decide_eq_true_eq] at this ⊢
    omega
   refine bd (fun h1=>?_) (fun h1=>bd (fun h2=>?_) (fun h2=>bd (fun h3=>bd (fun h4=>bd (fun h5=>(by
    refine ⟨⟨by trivial,by trivial,by trivial,hst0,by omega,hx,hn,hbd⟩,blt (by simp only [U.int_i];omega) ⟨⟨by trivial,by trivial,by trivial,hm,by omega,by omega,hL,?_,?_,fU _ _,f2,?_⟩,?_⟩⟩
    ·rw [ck];exact hn2
    ·rw [ck];exact hx
    ·rw [show (1:Int) + (i.int + 1)=1 + i.int + 1 by omega]
     exact fq 0 xs hb fun j=>iH _ _ j
    ·rw [dI]
     rw [bZ (g:=fun j=>inI st (st + ct) j + cH (L.list.drop (i.int.toNat + 1)) j) 0 xs fun j _ hj=>by
      rw [jg (e:=st + ct) (hi:=n.int) (by omega:(j:Int) < n.int) (by omega) (by omega)]]
     exact hk)) (fun h5=>(by
    refine ⟨⟨by trivial,by trivial,by trivial,hst0,hmin,hx,hn,hbd⟩,blt (by simp only [U.int_i];omega) ⟨⟨by trivial,by trivial,by trivial,hm,by omega,by omega,hL,?_,?_,fU _ _,f2,?_⟩,?_⟩⟩
    ·rw [ck];exact hn2
    ·rw [ck];exact hx
    ·rw [show (1:Int) + (i.int + 1)=1 + i.int + 1 by omega]
     exact fq 0 xs hb fun j=>iH _ _ j
    ·rw [dI]
     rw [bZ (g:=fun j=>inI st (st + ct) j + cH (L.list.drop (i.int.toNat + 1)) j) 0 xs fun j _ hj=>by
      rw [jg (e:=st + ct) (hi:=(bif decide (st + ct < n.int) then st + ct else n.int)) (by omega:(j:Int) < n.int) hmin1 hmin2]]
     exact hk))) (fun h4=>(by
    refine ⟨⟨by trivial,by trivial,by trivial,hst0,hmin,hx,hn,hbd⟩,blt (by simp only [U.int_i];omega) ⟨⟨by trivial,by trivial,by trivial,hm,by omega,by omega,hL,?_,?_,fU _ _,f2,?_⟩,?_⟩⟩
    ·rw [ck];exact hn2
    ·rw [ck];exact hx
    ·rw [show (1:Int) + (i.int + 1)=1 + i.int + 1 by omega]
     exact fq 0 xs hb fun j=>iH _ _ j
    ·rw [dI]
     rw [bZ (g:=fun j=>inI st (st + ct) j + cH (L.list.drop (i.int.toNat + 1)) j) 0 xs fun j _ hj=>by
      rw [jg (e:=st + ct) (hi:=(bif decide (st + ct < n.int) then st + ct else n.int)) (by omega:(j:Int) < n.int) hmin1 hmin2]]
     exact hk))) (fun h3=>bd (fun h4=>bd (fun h5=>(by
    refine ⟨⟨by trivial,by trivial,by trivial,hst0,by omega,hx,hn,hbd⟩,blt (by simp only [U.int_i];omega) ⟨⟨by trivial,by trivial,by trivial,hm,by omega,by omega,hL,?_,?_,fU _ _,f2,?_⟩,?_⟩⟩
    ·rw [ck];exact hn2
    ·rw [ck];exact hx
    ·rw [show (1:Int) + (i.int + 1)=1 + i.int + 1 by omega]
     exact fq 0 xs hb fun j=>iH _ _ j
    ·rw [dI]
     rw [bZ (g:=fun j=>inI st (st + ct) j + cH (L.list.drop (i.int.toNat + 1)) j) 0 xs fun j _ hj=>by
      rw [jg (e:=st + ct) (hi:=n.int) (by omega:(j:Int) < n.int) (by omega) (by omega)]]
     exact hk)) (fun h5=>(by
    refine ⟨⟨by trivial,by trivial,by trivial,hst0,by omega,hx,hn,hbd⟩,blt (by simp only [U.int_i];omega) ⟨⟨by trivial,by trivial,by trivial,hm,by omega,by omega,hL,?_,?_,fU _ _,f2,?_⟩,?_⟩⟩
    ·rw [ck];exact hn2
    ·rw [ck];exact hx
    ·rw [show (1:Int) + (i.int + 1)=1 + i.int + 1 by omega]
     exact fq 0 xs hb fun j=>iH _ _ j
    ·rw [dI]
     rw [bZ (g:=fun j=>inI st (st + ct) j + cH (L.list.drop (i.int.toNat + 1)) j) 0 xs fun j _ hj=>by
      rw [jg (e:=st + ct) (hi:=n.int) (by omega:(j:Int) < n.int) (by omega) (by omega)]]
     exact hk))) (fun h4=>(by
    refine ⟨⟨by trivial,by trivial,by trivial,hst0,by omega,hx,hn,hbd⟩,blt (by simp only [U.int_i];omega) ⟨⟨by trivial,by trivial,by trivial,hm,by omega,by omega,hL,?_,?_,fU _ _,f2,?_⟩,?_⟩⟩
    ·rw [ck];exact hn2
    ·rw [ck];exact hx
    ·rw [show (1:Int) + (i.int + 1)=1 + i.int + 1 by omega]
     exact fq 0 xs hb fun j=>iH _ _ j
    ·rw [dI]
     rw [bZ (g:=fun j=>inI st (st + ct) j + cH (L.list.drop (i.int.toNat + 1)) j) 0 xs fun j _ hj=>by
      rw [jg (e:=st + ct) (hi:=n.int) (by omega:(j:Int) < n.int) (by omega) (by omega)]]
     exact hk)))))
   ·refine blt (by simp only [U.int_i];omega) ⟨⟨by trivial,by trivial,by trivial,hm,by omega,by omega,hL,hn2,hx,hn,f2,hb2⟩,hskip fun j hj=>?_⟩
    unfold inI
    by_cases h:st≤(j:Int)
    ·rw [decide_eq_false (by omega:¬ (j:Int) < st + ct),Bool.and_false];rfl
    ·rw [decide_eq_false h];rfl
   ·refine blt (by simp only [U.int_i];omega) ⟨⟨by trivial,by trivial,by trivial,hm,by omega,by omega,hL,hn2,hx,hn,f2,hb2⟩,hskip fun j hj=>?_⟩
    unfold inI
    rw [decide_eq_false (by omega:¬ st≤(j:Int))];rfl
  ·rw [List.drop_of_length_le (by omega)] at hk
   rw [fb (f:=cH []) hn fun j _=>rfl] at hk
   exact hk
 ·exact h.elim
def iC (us:List (List U)):List U:=ai (.i (-1)) (nth (.i 0) (nth [] us 0) 3).list ++ ad 0 (nth (.i 0) (nth [] us 0) 4).list
def ofV (L:List U) (n:Nat):List U:=(List.range n).map fun k=>.i ((if k < 2 then 1 else 0) + cH L k)
def ofS:List (List U)→List (List U):=fun us=>[[.l (bif decide ((nth (.i 0) (nth [] us 1) 0).int < 0) then [] else bif decide (65536 < (nth (.i 0) (nth [] us 1) 0).int) then [] else ofV (iC us) (nth (.i 0) (nth [] us 1) 0).int.toNat)]]
def ofP:List (List U)→Prop:=fun us=>gQ us∧gZ (iC us)=true
theorem fY:∀ (i:Int) (S:List U),bb S=true→(ad i S).length≤524288 * S.length
 | _,[],_=>Nat.le_refl _
 | i,h :: r,hf=>by
  rw [bb] at hf
  simp only [Bool.and_eq_true,decide_eq_true_eq] at hf
  have h1:=de (.i i) (nth (.i 0) h.list 2).list
  have h2:=fY (i + 1) r hf.2
  rw [ad,List.length_append,List.length_cons]
  omega
theorem iM (f:Nat→Int):∀ (k n:Nat),bD f k (List.replicate n (.i 0))=(List.range' k n).map fun j=>.i (f j)
 | _,0=>rfl
 | k,n + 1=>by
  rw [List.replicate_succ,bD,iM f (k + 1) n,List.range'_succ,List.map_cons]
  simp only [U.int_i,Int.zero_add]
theorem JC:cG PR 24 ofP ofS:=fun fn us hfn hpre=>by
 have hf:PR.funcs[(24:Nat)]? = some Tryz.f24:=by kernel_rfl
 rw [hf] at hfn;cases hfn
 refine aM (C:=ofC) (aB ao af (.consP sk .nil) .nil) hf (by kernel_rfl) (dP (by kernel_rfl) u9 we uh) fun hok=>?_
 have hp:Tryz.f24.params.toList=[29,3]:=by kernel_rfl
 rw [hp] at hok
 obtain ⟨u,u2,rfl,h1,h2⟩:=bR (by kernel_rfl:Cs PR 29=some (true,[.int .i64,.int .i64,.str,.sl false [.sl true EC],.sl true SC,.sl true BC,.sl false [.int .i64]])) (by kernel_rfl:Cs PR 3=some (false,[.int .i64])) hok.1
 obtain ⟨c,sz,bk,T,S,M,Q,rfl⟩:∃ a b c d e f g,u=[a,b,c,d,e,f,g]:=match u,h1 with | [a,b,c,d,e,f,g],_=>⟨a,b,c,d,e,f,g,rfl⟩
 obtain ⟨n,rfl⟩:=bG h2
 obtain ⟨hE,hfit⟩:=hpre
 obtain ⟨e1,e2,e3⟩:T.list.length≤65536∧S.list.length≤1000∧bb S.list=true:=hE
 have hfit:gZ (ai (.i (-1)) T.list ++ ad 0 S.list)=true:=hfit
 have hlen:(ai (.i (-1)) T.list ++ ad 0 S.list).length≤1073741824:=by
  have h1:=de (.i (-1)) T.list
  have h2:=fY 0 S.list e3
  rw [List.length_append]
  omega
 refine .eq (Gd _ c sz bk T S M Q n) ?_
 rw [show ofS [[c,sz,bk,T,S,M,Q],[n]]=[[.l (bif decide (n.int < 0) then [] else bif decide (65536 < n.int) then [] else ofV (ai (.i (-1)) T.list ++ ad 0 S.list) n.int.toNat)]] from rfl]
 generalize ai (.i (-1)) T.list ++ ad 0 S.list=L at hfit hlen
 refine bd (fun h1=>by rw [decide_eq_true h1];rfl) (fun h1=>bd (fun h2=>by rw [decide_eq_false h1,decide_eq_true (by omega:65536 < n.int)];rfl) (fun h2=>?_))
 rw [decide_eq_false h1,decide_eq_false (by omega:¬ 65536 < n.int)]
 obtain ⟨m,hm⟩:∃ m:Nat,n.int=(m:Int):=⟨n.int.toNat,by omega⟩
 simp only [cond_false,Int.toNat_zero,List.drop_zero,hm,Int.toNat_natCast,List.length_replicate,ck]
 refine dt ⟨by omega,by omega,by unfold room;omega⟩ ⟨⟨by trivial,by trivial,by trivial,by trivial,by trivial,by trivial,by trivial,by omega,?_,by omega,?_,?_⟩,⟨e1,e2,e3⟩,⟨by trivial,by trivial,by trivial,by trivial,by omega,by omega,hlen,by trivial,by omega,fU _ _,hfit,?_⟩,?_⟩
 ·by_cases h:(2:Int) < m
  ·rw [decide_eq_true h];simp only [cond_true];omega
  ·rw [decide_eq_false h];simp only [cond_false];omega
 ·unfold eg
  rw [iM,List.map_const',List.length_range']
 ·refine List.all_eq_true.2 fun x hx=>?_
  rw [(List.mem_replicate.1 hx).2]
  rfl
 ·rw [Int.add_zero,show (1:Int)=0 + 1 from rfl]
  refine fq 0 _ (List.all_eq_true.2 fun x hx=>?_) fun j=>iH _ _ j
  rw [(List.mem_replicate.1 hx).2]
  rfl
 ·rw [dI,iM]
  unfold ofV
  rw [List.range_eq_range']
  show [[U.l _]]=[[U.l _]]
  congr 3
  refine List.map_congr_left fun k hk=>?_
  have hk:k < m:=by
   have:=List.mem_range'_1.1 hk
   omega
  congr 2
  unfold inI
  rw [decide_eq_true (by omega:(0:Int)≤(k:Int))]
  by_cases h2:(2:Int) < m
  ·rw [decide_eq_true h2]
   simp only [cond_true,Bool.true_and]
   by_cases h:k < 2
   ·rw [if_pos h,decide_eq_true (by omega:(k:Int) < 2)];rfl
   ·rw [if_neg h,decide_eq_false (by omega:¬ (k:Int) < 2)];rfl
  ·rw [decide_eq_false h2]
   simp only [cond_false,Bool.true_and]
   rw [if_pos (by omega),decide_eq_true (by omega:(k:Int) < (m:Int))];rfl
end Go.Mat

namespace Go.Mat
open Go Go.Den Go.Proofs
def Hs:List (List U)→List (List U):=fun us=>[[.b (!gg (nth (.i 0) (nth [] us 0) 0).int (nth (.i 0) (nth [] us 0) 1).int (nth (.i 0) (nth [] us 0) 2).int (nth (.i 0) (nth [] us 0) 3).int (nth (.i 0) (nth [] us 0) 4).int)]]
noncomputable def K87:Ctx:=mkC PR bM (aH 45 yU aK) aL aC aq aq
theorem Aq (R:RF) (a b c d e:U):(run K87 Tryz.f62 [[a,b,c,d,e]] R)=(R [[U.b !gg a.int b.int c.int d.int e.int]]):=by kernel_rfl
def ic (u:U):Bool:=gg (nth (.i 0) u.list 0).int (nth (.i 0) u.list 1).int (nth (.i 0) u.list 2).int (nth (.i 0) u.list 3).int (nth (.i 0) u.list 4).int
def dD:List U→Bool
 | []=>false
 | u :: r=>bif !ic u then true else dD r
def n8:Int→List U→Int
 | _,[]=>-1
 | i,u :: r=>bif !ic u then i else n8 (i + 1) r
noncomputable def sW:aS:=fun _ svs os k=>match svs,os with
 | [.val (.int .i64) i,.val (.int .i64) n,.val (.sl true ec) L,.clo f []],[]=>
  (i = .i i.int∧ec=EC∧f=62∧n.int=(L.list.length:Int)∧0≤i.int∧i.int≤(L.list.length:Int))∧
  (bif dD (L.list.drop i.int.toNat) then k .ret ⟨[(4,vi (.i (n8 i.int (L.list.drop i.int.toNat))))],[]⟩ else k (.exit 0) ⟨[],[]⟩)
 | _,_=>False
noncomputable def ixC:Ctx:=mkC PR bM (aH 62 Hs aK) aL (aw 0 [8,7,0,1] [] sW aC) (an 1048576 [4] [] (an 0 [] [] aq)) aq
theorem Ea (pan:KP) (μ:Mu) (N:Nat) (k:KE) (i n L:U) {a b c d} (_:a=(U.list (nth (.i 0) L.list i.int.toNat)):=by rfl) (_:b=(IntKind.wrap .i64 (i.int + 1)):=by rfl) (_:c=(List.tail (List.tail a)):=by rfl) (_:d=(L.list.length:Int):=by rfl): (exec (ixC.panics pan) (aa Tryz.f75 0) 0 ⟨[(8,vi i),(7,vi n),(0,vt EC L),(1,.clo 62 [])],[]⟩ (again PR (some ([],[])) (some ([4],[])) pan [8,7,0,1] [] sW μ N k))=(bif decide (i.int < n.int) then bif decide ((0:Int)≤i.int∧i.int < d) then bif !gg (U.int (nth (.i 0) a 0)) (U.int (nth (.i 0) (List.tail a) 0)) (U.int (nth (.i 0) c 0)) (U.int (nth (.i 0) (List.tail c) 0)) (U.int (nth (.i 0) (List.tail (List.tail c)) 0)) then k Ex.ret (St.mk [(4,vi i)] []) else bif Nat.blt (μ [vi (U.i b),vi n,.val (.sl true EC) L,.clo 62 []] []) N then (U.i b=U.i b∧EC=EC∧62=62∧n.int=d∧(0:Int)≤IntKind.wrap .i64 (i.int + 1)∧IntKind.wrap .i64 (i.int + 1)≤d)∧bif dD (List.drop (Int.toNat b) L.list) then k Ex.ret (St.mk [(4,vi (U.i (n8 b (List.drop (Int.toNat b) L.list))))] []) else k (Ex.exit 0) (St.mk [] []) else False else False else k (Ex.exit 0) (St.mk [] [])):=by subst_vars;kernel_rfl
theorem GY (R:RT) (L:U):(jP ixC Tryz.f75 [vt EC L,.clo 62 []] [] R)=((U.i (0:Int)=U.i 0∧EC=EC∧nat_lit 62=nat_lit 62∧(↑(List.length L.list):Int)=(↑(List.length L.list):Int)∧(0:Int)≤0∧(0:Int)≤(↑(List.length L.list):Int))∧bif dD (List.drop
 (Int.toNat 0) L.list) then R (Out.ret [vi (U.i (n8 0 (List.drop (Int.toNat 0) L.list)))]) [] else R (Out.ret [vi (U.i (-1:Int))]) []):=by kernel_rfl
noncomputable def ixF:Tr:=fun vs objs k=>match vs,objs with
 | [.val (.sl true ec) L,.clo f []],[]=>(ec=EC∧f=62)∧k (.ret [vi (.i (n8 0 L.list))]) []
 | _,_=>False
noncomputable def cfC:Ctx:=mkC PR bM aK (cw 75 [] ixF aL) aC aq aq
theorem GL (R:RT) (L:U):(jP cfC Tryz.f61 [vt EC L,.clo 62 []] [] R)=((EC=EC∧nat_lit 62=nat_lit 62)∧R (Out.ret [SV.val Ct.bool (U.b (decide (n8 0 L.list ≥ 0)))]) []):=by kernel_rfl
noncomputable def cfF:Tr:=fun vs objs k=>match vs,objs with
 | [.val (.sl true ec) L,.clo f []],[]=>(ec=EC∧f=62)∧k (.ret [vb (.b (dD L.list))]) []
 | _,_=>False
def bw (T:List U) (a b d e g:Int):Nat→Int→Bool
 | 0,_=>false
 | n + 1,c=>bif dR a b d e g c then (bif bU T 4096 c then true else bw T a b d e g n (c + 1)) else bw T a b d e g n (c + 1)
def anyS:List (List U)→List (List U):=fun us=>[[.b (bw (nth (.i 0) (nth [] us 0) 0).list (nth (.i 0) (nth [] us 1) 0).int (nth (.i 0) (nth [] us 1) 1).int (nth (.i 0) (nth [] us 1) 2).int (nth (.i 0) (nth [] us 1) 3).int (nth (.i 0) (nth [] us 1) 4).int 7 0)]]
noncomputable def sn:aS:=fun _ svs os k=>match svs,os with
 | [.val (.int .i64) i,.ptr p2 o2,.ptr p3 o3],[.box [.val (.sl false [.sl true ec]) T],.box [.val (.int .i64) a,.val (.int .i64) b,.val (.int .i64) d,.val (.int .i64) e,.val (.int .u32) g]]=>
  (ec=EC∧p2=256∧o2=0∧p3=384∧o3=0∧0≤i.int∧i.int≤7)∧
  (bif bw T.list a.int b.int d.int e.int g.int (7 - i.int).toNat i.int then k .ret ⟨[(4,vb (.b true))],[]⟩ else k (.exit 0) ⟨[],[]⟩)
 | _,_=>False
noncomputable def arC:Ctx:=mkC PR bM (aH 58 qw (aH 37 s6 aK)) aL (aw 0 [6,2,3] [256,384] sn aC) (an 1048576 [4] [] (an 0 [] [] aq)) aq
theorem DJ (pan:KP) (μ:Mu) (N:Nat) (k:KE) (i T a b d e g:U) {j c f h l} (_:j=(IntKind.wrap .i64 (i.int + 1)):=by rfl) (_:c=(μ [vi (U.i j),.ptr 256 0,.ptr 384 0] [.box [.val (.sl false [.sl true EC]) T],.box [vi a,vi b,vi d,vi e,.val (.int .u32) g]]):=by rfl) (_:f=(EC=EC∧256=256∧0=0∧384=384∧0=0∧(0:Int)≤IntKind.wrap .i64 (i.int + 1)∧IntKind.wrap .i64 (i.int + 1)≤7):=by rfl) (_:h=(St.mk [(4,.val .bool (U.b true))] []):=by rfl) (_:l=(Int.toNat ((7:Int) - IntKind.wrap .i64 (i.int + 1))):=by rfl): (exec (arC.panics pan) (aa Tryz.f60 0) 0 ⟨[(6,vi i),(2,.ptr 256 0),(3,.ptr 384 0)],[(256,.box [.val TRC T]),(384,.box [vi a,vi b,vi d,vi e,.val (.int .u32) g])]⟩ (again PR (some ([],[])) (some ([4],[])) pan [6,2,3] [256,384] sn μ N k))=(bif decide (i.int < 7) then bif dR a.int b.int d.int e.int g.int i.int then bif bU T.list 4096 i.int then k Ex.ret h else bif Nat.blt c N then f∧bif bw T.list a.int b.int d.int e.int g.int l j then k Ex.ret h else k (Ex.exit 0) (St.mk [] []) else False else bif Nat.blt c N then f∧bif bw T.list a.int b.int d.int e.int g.int l j then k Ex.ret h else k (Ex.exit 0) (St.mk [] []) else False else k (Ex.exit 0) (St.mk [] [])):=by subst_vars;kernel_rfl
theorem E6 (R:RF) (T a b d e g:U):(run arC Tryz.f60 [[T],[a,b,d,e,g]] R)=((EC=EC∧nat_lit 256=nat_lit 256∧nat_lit 0=nat_lit 0∧nat_lit 384=nat_lit 384∧nat_lit 0=nat_lit 0∧(0:Int)≤0∧(0:Int)≤7)∧bif bw T.list a.int b.int d.int e.int g.int (Int.toNat
 ((7:Int) - 0)) 0 then R [[U.b true]] else R [[U.b false]]):=by kernel_rfl
end Go.Mat

namespace Go.Mat
open Go Go.Den Go.Proofs
set_option maxRecDepth 100000
theorem Gm:bB PR 62 Hs:=fun fn us hfn=>by
 have hf:PR.funcs[(62:Nat)]? = some Tryz.f62:=by kernel_rfl
 rw [hf] at hfn;cases hfn
 refine aM (C:=K87) (aB ao af (.cons yY .nil) .nil) hf (by kernel_rfl) (aI (by kernel_rfl)) fun hok=>?_
 have hp:Tryz.f62.params.toList=[46]:=by kernel_rfl
 rw [hp] at hok
 obtain ⟨u,rfl,h1⟩:=cT (by kernel_rfl:Cs PR 46=some (true,EC)) hok.1
 obtain ⟨a,b,c,d,e,rfl⟩:=qy h1
 exact .eq (Aq _ a b c d e) rfl
theorem pW:∀ (i:Int) (L:List U),dD L=false→n8 i L = -1
 | _,[],_=>rfl
 | i,u :: r,h=>by
  rw [dD] at h
  rw [n8]
  cases hu:!ic u with
  | true=>rw [hu] at h;cases h
  | false=>rw [hu] at h;exact pW (i + 1) r h
theorem vK:∀ (i:Int) (L:List U),0≤i→dD L=true→0≤n8 i L
 | _,[],_,h=>by cases h
 | i,u :: r,h0,h=>by
  rw [dD] at h
  rw [n8]
  cases hu:!ic u with
  | true=>exact h0
  | false=>rw [hu] at h;exact vK (i + 1) r (by omega) h
theorem FH:aE ixC 0 (aa Tryz.f75 0):=by
 refine al (F:=sW) (ts:=[8,7,0,1]) (os:=[]) rfl (fun svs _=>match svs with | .val _ i :: .val _ n :: _=>(n.int - i.int).toNat | _=>0) ?_
 intro pan svs os k ho1 ho2 h
 unfold sW at h
 split at h
 ·rename_i i n ec L f
  obtain ⟨⟨hi,rfl,rfl,hn,h0,hle⟩,hk⟩:=h
  refine .eq (Ea pan _ _ k i n L) ?_
  refine bd (fun hlt=>dt ⟨h0,by omega⟩ ?_) (fun hlt=>?_)
  ·have hL:L.list.length≤maxLen:=ho1.2.2.1.1
   rw [aN (by omega),dD,n8] at hk
   have hwi:IntKind.wrap .i64 (i.int + 1)=i.int + 1:=i64_in (by omega) (by unfold maxLen at hL;omega)
   have hc:(i.int + 1).toNat=i.int.toNat + 1:=by omega
   simp only [aD,Nat.zero_add,Nat.reduceAdd]
   refine bi (fun h1=>?_) (fun h1=>?_)
   ·have h1:(!ic (U.at L.list i.int.toNat))=true:=h1
    rw [h1] at hk
    have hk:k .ret ⟨[(4,vi (.i i.int))],[]⟩:=hk
    rw [← hi] at hk
    exact hk
   ·have h1:(!ic (U.at L.list i.int.toNat))=false:=h1
    rw [h1] at hk
    rw [hwi,hc]
    exact blt (by simp only [U.int_i];omega) ⟨⟨by trivial,by trivial,by trivial,hn,by omega,by omega⟩,hk⟩
  ·rw [List.drop_of_length_le (by omega)] at hk
   exact hk
 ·exact h.elim
theorem Jg:ee PR 75 ixF:=fun fn hfn=>by
 have hf:PR.funcs[(75:Nat)]? = some Tryz.f75:=by kernel_rfl
 rw [hf] at hfn;cases hfn
 refine dB (C:=ixC) (aB ao af (.cons Gm .nil) .nil) hf (by kernel_rfl) (aW (by kernel_rfl) FH) fun vs objs R h1 h2 h=>?_
 clear h1 h2
 unfold ixF at h
 split at h
 ·rename_i ec L f
  obtain ⟨⟨rfl,rfl⟩,h⟩:=h
  refine .eq (GY R L) ⟨⟨by trivial,by trivial,by trivial,by trivial,by omega,by omega⟩,?_⟩
  rw [Int.toNat_zero,List.drop_zero]
  refine bi (fun _=>h) (fun h1=>?_)
  rw [pW 0 L.list h1] at h
  exact h
 ·exact h.elim
theorem Ji:ee PR 61 cfF:=fun fn hfn=>by
 have hf:PR.funcs[(61:Nat)]? = some Tryz.f61:=by kernel_rfl
 rw [hf] at hfn;cases hfn
 refine dB (C:=cfC) (aB ao af .nil (.cons Jg .nil)) hf (by kernel_rfl) (aI (by kernel_rfl)) fun vs objs R h1 h2 h=>?_
 clear h1 h2
 unfold cfF at h
 split at h
 ·rename_i ec L f
  obtain ⟨⟨rfl,rfl⟩,h⟩:=h
  refine .eq (GL R L) ⟨⟨by trivial,by trivial⟩,?_⟩
  cases hb:dD L.list with
  | true=>
   rw [hb] at h
   rw [decide_eq_true (show n8 0 L.list ≥ 0 from vK 0 L.list (Int.le_refl _) hb)]
   exact h
  | false=>
   rw [hb] at h
   rw [pW 0 L.list hb]
   exact h
 ·exact h.elim
theorem GU:aE arC 0 (aa Tryz.f60 0):=by
 refine al (F:=sn) (ts:=[6,2,3]) (os:=[256,384]) rfl (fun svs _=>match svs with | .val _ i :: _=>(7 - i.int).toNat | _=>0) ?_
 intro pan svs os k ho1 ho2 h
 unfold sn at h
 split at h
 ·rename_i i p2 o2 p3 o3 ec T a b d e g
  obtain ⟨⟨rfl,rfl,rfl,rfl,rfl,h0,h7⟩,hk⟩:=h
  refine .eq (DJ pan _ _ k i T a b d e g) ?_
  refine bd (fun hlt=>?_) (fun hlt=>?_)
  ·obtain ⟨n,hn⟩:∃ n,(7 - i.int).toNat=n + 1:=⟨(6 - i.int).toNat,by omega⟩
   rw [hn,bw] at hk
   have hwi:IntKind.wrap .i64 (i.int + 1)=i.int + 1:=i64_in (by omega) (by omega)
   have hc:(7 - (i.int + 1)).toNat=n:=by omega
   rw [hwi,hc]
   refine bi (fun h1=>bi (fun h2=>?_) (fun h2=>?_)) (fun h1=>?_)
   ·rw [h1,h2] at hk;exact hk
   ·rw [h1,h2] at hk
    exact blt (by simp only [U.int_i];omega) ⟨⟨by trivial,by trivial,by trivial,by trivial,by trivial,by omega,by omega⟩,hk⟩
   ·rw [h1] at hk
    exact blt (by simp only [U.int_i];omega) ⟨⟨by trivial,by trivial,by trivial,by trivial,by trivial,by omega,by omega⟩,hk⟩
  ·rw [show (7 - i.int).toNat=0 by omega,bw] at hk
   exact hk
 ·exact h.elim
theorem HS:bB PR 60 anyS:=fun fn us hfn=>by
 have hf:PR.funcs[(60:Nat)]? = some Tryz.f60:=by kernel_rfl
 rw [hf] at hfn;cases hfn
 refine aM (C:=arC) (aB ao af (.cons xr (.cons CS .nil)) .nil) hf (by kernel_rfl) (aW (by kernel_rfl) GU) fun hok=>?_
 have hp:Tryz.f60.params.toList=[24,46]:=by kernel_rfl
 rw [hp] at hok
 obtain ⟨u,u2,rfl,h1,h2⟩:=bR (by kernel_rfl:Cs PR 24=some (true,[.sl false [.sl true EC]])) (by kernel_rfl:Cs PR 46=some (true,EC)) hok.1
 obtain ⟨T,rfl⟩:=bG h1
 obtain ⟨a,b,d,e,g,rfl⟩:=qy h2
 refine .eq (E6 _ T a b d e g) ⟨⟨by trivial,by trivial,by trivial,by trivial,by trivial,by omega,by omega⟩,?_⟩
 rw [show anyS [[T],[a,b,d,e,g]]=[[.b (bw T.list a.int b.int d.int e.int g.int 7 0)]] from rfl,show Int.toNat (7 - 0)=7 from rfl]
 exact bi (fun h=>by rw [h]) (fun h=>by rw [h])
end Go.Mat

namespace Go.Mat
open Go Go.Den Go.Proofs
theorem Fo (R:RF) (T i:U) {c b a d e} (_:c=(Int.tdiv i.int 8):=by rfl) (_:b=(U.list (nth (.i 0) T.list (Int.toNat (IntKind.wrap .i64 c)))):=by rfl) (_:a=(U.list (nth (.i 0) b (Int.toNat (Int.tmod i.int 8)))):=by rfl) (_:d=(List.tail (List.tail a)):=by rfl) (_:e=(T.list.length:Int):=by rfl): (run K82 Tryz.f14 [[T],[i]] R)=(bif decide (i.int < 0) then R [[U.i 0,U.i 0,U.i 0,U.i 0,U.i 0]] else bif decide (IntKind.wrap .i64 c ≥ e) then R [[U.i 0,U.i 0,U.i 0,U.i 0,U.i 0]] else bif decide ((0:Int)≤IntKind.wrap .i64 c∧IntKind.wrap .i64 c < e) then bif decide (Int.tmod i.int 8 ≥ (↑(List.length b):Int)) then R [[U.i 0,U.i 0,U.i 0,U.i 0,U.i 0]] else bif decide ((0:Int)≤IntKind.wrap .i64 c∧IntKind.wrap .i64 c < e) then bif decide ((0:Int)≤Int.tmod i.int 8∧Int.tmod i.int (8:Int) < (↑(List.length b):Int)) then R [[nth (.i 0) a 0,nth (.i 0) (List.tail a) 0,nth (.i 0) d 0,nth (.i 0) (List.tail d) 0,nth (.i 0) (List.tail (List.tail d)) 0]] else False else False else False):=by subst_vars;kernel_rfl
def bl (T:List U) (a b d e g:Int):Nat→Int→Bool
 | 0,_=>false
 | n + 1,c=>bif b8 T 4096 c then (bif dR a b d e g c then true else bl T a b d e g n (c + 1)) else bl T a b d e g n (c + 1)
def wQ:List (List U)→List (List U):=fun us=>[[.b (bl (nth (.i 0) (nth [] us 0) 0).list (nth (.i 0) (nth [] us 1) 0).int (nth (.i 0) (nth [] us 1) 1).int (nth (.i 0) (nth [] us 1) 2).int (nth (.i 0) (nth [] us 1) 3).int (nth (.i 0) (nth [] us 1) 4).int 7 0)]]
noncomputable def tK:aS:=fun _ svs os k=>match svs,os with
 | [.val (.int .i64) i,.ptr p2 o2,.ptr p3 o3],[.box [.val (.sl false [.sl true ec]) T],.box [.val (.int .i64) a,.val (.int .i64) b,.val (.int .i64) d,.val (.int .i64) e,.val (.int .u32) g]]=>
  (ec=EC∧p2=256∧o2=0∧p3=384∧o3=0∧0≤i.int∧i.int≤7)∧
  (bif bl T.list a.int b.int d.int e.int g.int (7 - i.int).toNat i.int then k .ret ⟨[(4,vb (.b true))],[]⟩ else k (.exit 0) ⟨[],[]⟩)
 | _,_=>False
noncomputable def rfC:Ctx:=mkC PR bM (aH 70 qw (aH 50 oI aK)) aL (aw 0 [5,2,3] [256,384] tK aC) (an 1048576 [4] [] (an 0 [] [] aq)) aq
theorem EL (pan:KP) (μ:Mu) (N:Nat) (k:KE) (i T a b d e g:U) {j c f h l} (_:j=(IntKind.wrap .i64 (i.int + 1)):=by rfl) (_:c=(μ [vi (U.i j),.ptr 256 0,.ptr 384 0] [.box [.val (.sl false [.sl true EC]) T],.box [vi a,vi b,vi d,vi e,.val (.int .u32) g]]):=by rfl) (_:f=(EC=EC∧256=256∧0=0∧384=384∧0=0∧(0:Int)≤IntKind.wrap .i64 (i.int + 1)∧IntKind.wrap .i64 (i.int + 1)≤7):=by rfl) (_:h=(St.mk [(4,.val .bool (U.b true))] []):=by rfl) (_:l=(Int.toNat ((7:Int) - IntKind.wrap .i64 (i.int + 1))):=by rfl): (exec (rfC.panics pan) (aa Tryz.f55 0) 0 ⟨[(5,vi i),(2,.ptr 256 0),(3,.ptr 384 0)],[(256,.box [.val TRC T]),(384,.box [vi a,vi b,vi d,vi e,.val (.int .u32) g])]⟩ (again PR (some ([],[])) (some ([4],[])) pan [5,2,3] [256,384] tK μ N k))=(bif decide (i.int≤6) then bif b8 T.list 4096 i.int then bif dR a.int b.int d.int e.int g.int i.int then k Ex.ret h else bif Nat.blt c N then f∧bif bl T.list a.int b.int d.int e.int g.int l j then k Ex.ret h else k (Ex.exit 0) (St.mk [] []) else False else bif Nat.blt c N then f∧bif bl T.list a.int b.int d.int e.int g.int l j then k Ex.ret h else k (Ex.exit 0) (St.mk [] []) else False else k (Ex.exit 0) (St.mk [] [])):=by subst_vars;kernel_rfl
theorem GX (R:RF) (T a b d e g:U):(run rfC Tryz.f55 [[T],[a,b,d,e,g]] R)=((EC=EC∧nat_lit 256=nat_lit 256∧nat_lit 0=nat_lit 0∧nat_lit 384=nat_lit 384∧nat_lit 0=nat_lit 0∧(0:Int)≤0∧(0:Int)≤7)∧bif bl T.list a.int b.int d.int e.int g.int (Int.toNat
 ((7:Int) - 0)) 0 then R [[U.b true]] else R [[U.b false]]):=by kernel_rfl
end Go.Mat

namespace Go.Mat
open Go Go.Den Go.Proofs
set_option maxRecDepth 100000
theorem I0:bB PR 14 AA:=fun fn us hfn=>by
 have hf:PR.funcs[(14:Nat)]? = some Tryz.f14:=by kernel_rfl
 rw [hf] at hfn;cases hfn
 refine aM (C:=K82) (aB ao af .nil .nil) hf (by kernel_rfl) (aI (by kernel_rfl)) fun hok=>?_
 have hp:Tryz.f14.params.toList=[24,3]:=by kernel_rfl
 rw [hp] at hok
 obtain ⟨u,u2,rfl,h1,h2⟩:=bR (by kernel_rfl:Cs PR 24=some (true,[.sl false [.sl true EC]])) (by kernel_rfl:Cs PR 3=some (false,[.int .i64])) hok.1
 obtain ⟨T,rfl⟩:=bG h1
 obtain ⟨i,rfl⟩:=bG h2
 have hi:-9223372036854775808≤i.int∧i.int≤9223372036854775807:=(hok.2 [.agg [.val (.sl false [.sl true EC]) T],.val (.int .i64) i] (by rfl)).2.1
 refine .eq (Fo _ T i) ?_
 rw [show AA [[T],[i]]=[[aY 0 T.list i.int,aY 1 T.list i.int,aY 2 T.list i.int,aY 3 T.list i.int,aY 4 T.list i.int]] from rfl]
 unfold aY ko
 refine bd (fun h0=>by rw [decide_eq_true h0];rfl) (fun h0=>?_)
 rw [decide_eq_false h0]
 have hw:IntKind.wrap .i64 (Int.tdiv i.int 8)=((i.int.toNat / 8:Nat):Int):=by
  rw [Ho (by omega)];exact i64_in (by omega) (by omega)
 rw [hw,Hl (by omega)]
 simp only [Int.toNat_natCast,cond_false]
 refine bd (fun h3=>?_) (fun h3=>dt ⟨by omega,by omega⟩ (bd (fun h4=>?_) (fun h4=>dt ⟨by omega,by omega⟩ (dt ⟨by omega,by omega⟩ ?_))))
 ·rw [iK _ T.list _ (by omega),show (U.i 0).list=[] from rfl]
  simp only [kK,show (U.i 0).list=[] from rfl]
 ·rw [iK _ (nth (U.i 0) T.list _).list _ (by omega),show (U.i 0).list=[] from rfl]
  simp only [kK]
 ·simp only [aD]
theorem Fl:aE rfC 0 (aa Tryz.f55 0):=by
 refine al (F:=tK) (ts:=[5,2,3]) (os:=[256,384]) rfl (fun svs _=>match svs with | .val _ i :: _=>(7 - i.int).toNat | _=>0) ?_
 intro pan svs os k ho1 ho2 h
 unfold tK at h
 split at h
 ·rename_i i p2 o2 p3 o3 ec T a b d e g
  obtain ⟨⟨rfl,rfl,rfl,rfl,rfl,h0,h7⟩,hk⟩:=h
  refine .eq (EL pan _ _ k i T a b d e g) ?_
  refine bd (fun hlt=>?_) (fun hlt=>?_)
  ·obtain ⟨n,hn⟩:∃ n,(7 - i.int).toNat=n + 1:=⟨(6 - i.int).toNat,by omega⟩
   rw [hn,bl] at hk
   have hwi:IntKind.wrap .i64 (i.int + 1)=i.int + 1:=i64_in (by omega) (by omega)
   have hc:(7 - (i.int + 1)).toNat=n:=by omega
   rw [hwi,hc]
   refine bi (fun h1=>bi (fun h2=>?_) (fun h2=>?_)) (fun h1=>?_)
   ·rw [h1,h2] at hk;exact hk
   ·rw [h1,h2] at hk
    exact blt (by simp only [U.int_i];omega) ⟨⟨by trivial,by trivial,by trivial,by trivial,by trivial,by omega,by omega⟩,hk⟩
   ·rw [h1] at hk
    exact blt (by simp only [U.int_i];omega) ⟨⟨by trivial,by trivial,by trivial,by trivial,by trivial,by omega,by omega⟩,hk⟩
  ·rw [show (7 - i.int).toNat=0 by omega,bl] at hk
   exact hk
 ·exact h.elim
theorem Ft:bB PR 55 wQ:=fun fn us hfn=>by
 have hf:PR.funcs[(55:Nat)]? = some Tryz.f55:=by kernel_rfl
 rw [hf] at hfn;cases hfn
 refine aM (C:=rfC) (aB ao af (.cons tt (.cons yN .nil)) .nil) hf (by kernel_rfl) (aW (by kernel_rfl) Fl) fun hok=>?_
 have hp:Tryz.f55.params.toList=[24,46]:=by kernel_rfl
 rw [hp] at hok
 obtain ⟨u,u2,rfl,h1,h2⟩:=bR (by kernel_rfl:Cs PR 24=some (true,[.sl false [.sl true EC]])) (by kernel_rfl:Cs PR 46=some (true,EC)) hok.1
 obtain ⟨T,rfl⟩:=bG h1
 obtain ⟨a,b,d,e,g,rfl⟩:=qy h2
 refine .eq (GX _ T a b d e g) ⟨⟨by trivial,by trivial,by trivial,by trivial,by trivial,by omega,by omega⟩,?_⟩
 rw [show wQ [[T],[a,b,d,e,g]]=[[.b (bl T.list a.int b.int d.int e.int g.int 7 0)]] from rfl,show Int.toNat (7 - 0)=7 from rfl]
 exact bi (fun h=>by rw [h]) (fun h=>by rw [h])
end Go.Mat

namespace Go.Mat
open Go Go.Den Go.Proofs
noncomputable def gR (cs:List Ct) (t:TypeId):Tr:=fun vs objs k=>match vs,objs with
 | [.val (.sl true c) L],[]=>(c=cs∧L.list.length≤1073741824)∧k (.ret [.own 2097152]) [(2097152,.arr t L.list)]
 | _,_=>False
theorem Df (R:RT) (L:U):(jP K82 Tryz.f69 [vt EC L] [] R)=(nK (L.list=[]) (R (Out.ret [SV.own 2097152]) [(2097152,Obj.arr 46 [])]) (bif decide ((0:Nat) + List.length L.list≤room) && true then R (Out.ret [SV.own 2097152]) [(2097152,Obj.arr 46 ([] ++
 L.list))] else False)):=by kernel_rfl
theorem EA (R:RT) (L:U):(jP K82 Tryz.f40 [vt SC L] [] R)=(nK (L.list=[]) (R (Out.ret [SV.own 2097152]) [(2097152,Obj.arr 55 [])]) (bif decide ((0:Nat) + List.length L.list≤room) && true then R (Out.ret [SV.own 2097152]) [(2097152,Obj.arr 55 ([] ++
 L.list))] else False)):=by kernel_rfl
theorem DK (R:RT) (L:U):(jP K82 Tryz.f22 [vt BC L] [] R)=(nK (L.list=[]) (R (Out.ret [SV.own 2097152]) [(2097152,Obj.arr 64 [])]) (bif decide ((0:Nat) + List.length L.list≤room) && true then R (Out.ret [SV.own 2097152]) [(2097152,Obj.arr 64 ([] ++
 L.list))] else False)):=by kernel_rfl
theorem EH (R:RT) (L:U):(jP K82 Tryz.f23 [vt [.int .i64,.int .i64] L] [] R)=(nK (L.list=[]) (R (Out.ret [SV.own 2097152]) [(2097152,Obj.arr 67 [])]) (bif decide ((0:Nat) + List.length L.list≤room) && true then R (Out.ret [SV.own 2097152]) [(2097152,Obj.arr 67 ([] ++
 L.list))] else False)):=by kernel_rfl
end Go.Mat

namespace Go.Mat
open Go Go.Den Go.Proofs
set_option maxRecDepth 100000
theorem Il:ee PR 69 (gR EC 46):=fun fn hfn=>by
 have hf:PR.funcs[(69:Nat)]? = some Tryz.f69:=by kernel_rfl
 rw [hf] at hfn;cases hfn
 refine dB (C:=K82) (aB ao af .nil .nil) hf (by kernel_rfl) (aI (by kernel_rfl)) fun vs objs R h1 h2 h=>?_
 clear h1 h2
 unfold gR at h
 split at h
 ·rename_i c L
  obtain ⟨⟨rfl,hL⟩,h⟩:=h
  exact .eq (Df R L) ⟨fun he=>by rw [he] at h;exact h,cu (by unfold room;omega) rfl h⟩
 ·exact h.elim
theorem IM:ee PR 40 (gR SC 55):=fun fn hfn=>by
 have hf:PR.funcs[(40:Nat)]? = some Tryz.f40:=by kernel_rfl
 rw [hf] at hfn;cases hfn
 refine dB (C:=K82) (aB ao af .nil .nil) hf (by kernel_rfl) (aI (by kernel_rfl)) fun vs objs R h1 h2 h=>?_
 clear h1 h2
 unfold gR at h
 split at h
 ·rename_i c L
  obtain ⟨⟨rfl,hL⟩,h⟩:=h
  exact .eq (EA R L) ⟨fun he=>by rw [he] at h;exact h,cu (by unfold room;omega) rfl h⟩
 ·exact h.elim
theorem HF:ee PR 22 (gR BC 64):=fun fn hfn=>by
 have hf:PR.funcs[(22:Nat)]? = some Tryz.f22:=by kernel_rfl
 rw [hf] at hfn;cases hfn
 refine dB (C:=K82) (aB ao af .nil .nil) hf (by kernel_rfl) (aI (by kernel_rfl)) fun vs objs R h1 h2 h=>?_
 clear h1 h2
 unfold gR at h
 split at h
 ·rename_i c L
  obtain ⟨⟨rfl,hL⟩,h⟩:=h
  exact .eq (DK R L) ⟨fun he=>by rw [he] at h;exact h,cu (by unfold room;omega) rfl h⟩
 ·exact h.elim
theorem Io:ee PR 23 (gR [.int .i64,.int .i64] 67):=fun fn hfn=>by
 have hf:PR.funcs[(23:Nat)]? = some Tryz.f23:=by kernel_rfl
 rw [hf] at hfn;cases hfn
 refine dB (C:=K82) (aB ao af .nil .nil) hf (by kernel_rfl) (aI (by kernel_rfl)) fun vs objs R h1 h2 h=>?_
 clear h1 h2
 unfold gR at h
 split at h
 ·rename_i c L
  obtain ⟨⟨rfl,hL⟩,h⟩:=h
  exact .eq (EH R L) ⟨fun he=>by rw [he] at h;exact h,cu (by unfold room;omega) rfl h⟩
 ·exact h.elim
end Go.Mat

namespace Go.Mat
open Go Go.Den Go.Proofs
noncomputable def Iv (t:TypeId):Option (List IntKind):=bif Nat.beq t 92 then some [.i64,.i64] else bM t
noncomputable def meC:Ctx:=mkC PR Iv aK aL aC aq aq
def rK (a b c d:Int):Bool:=bif !(a == c && (b == d && true)) then (bif decide (a < IntKind.wrap .i64 (c + d)) then decide (c < IntKind.wrap .i64 (a + b)) else false) else false
def Ce:List (List U)→List (List U):=fun us=>[[.b (rK (nth (.i 0) (nth [] us 0) 0).int (nth (.i 0) (nth [] us 0) 1).int (nth (.i 0) (nth [] us 1) 0).int (nth (.i 0) (nth [] us 1) 1).int)]]
theorem Gf (R:RF) (a b c d:U):(run meC Tryz.f44 [[a,b],[c,d]] R)=(bif !(U.int a == U.int c && (U.int b == U.int d && true)) then bif decide (U.int a < IntKind.wrap IntKind.i64 (U.int c + U.int d)) then R [[U.b (decide (U.int c < IntKind.wrap IntKind.i64 (U.int a + U.int
 b)))]] else R [[U.b false]] else R [[U.b false]]):=by kernel_rfl
end Go.Mat

namespace Go.Mat
open Go Go.Den Go.Proofs
set_option maxRecDepth 100000
theorem FG:∀ t ks,Iv t=some ks→xF PR t ks:=by
 intro t ks h
 unfold Iv at h
 cases hb:Nat.beq t 92 with
 | true=>
  rw [hb] at h
  have:=Nat.eq_of_beq_eq_true hb
  subst this
  injection h with h
  subst h
  exact yO (by kernel_rfl)
 | false=>rw [hb] at h;exact ao t ks h
theorem Da {u:List U} (h:u.length=2):∃ a b,u=[a,b]:=match u,h with | [a,b],_=>⟨a,b,rfl⟩
theorem FJ:bB PR 44 Ce:=fun fn us hfn=>by
 have hf:PR.funcs[(44:Nat)]? = some Tryz.f44:=by kernel_rfl
 rw [hf] at hfn;cases hfn
 refine aM (C:=meC) (aB FG af .nil .nil) hf (by kernel_rfl) (aI (by kernel_rfl)) fun hok=>?_
 have hp:Tryz.f44.params.toList=[92,92]:=by kernel_rfl
 rw [hp] at hok
 obtain ⟨u,u2,rfl,h1,h2⟩:=bR (by kernel_rfl:Cs PR 92=some (true,[.int .i64,.int .i64])) (by kernel_rfl:Cs PR 92=some (true,[.int .i64,.int .i64])) hok.1
 obtain ⟨a,b,rfl⟩:=Da h1
 obtain ⟨c,d,rfl⟩:=Da h2
 refine .eq (Gf _ a b c d) ?_
 rw [show Ce [[a,b],[c,d]]=[[.b (rK a.int b.int c.int d.int)]] from rfl]
 unfold rK
 refine bi (fun h=>?_) (fun h=>by rw [h];rfl)
 rw [h]
 exact bi (fun h2=>by rw [h2];rfl) (fun h2=>by rw [h2];rfl)
end Go.Mat

namespace Go.Den
open Go Go.RowKit
theorem FW {P:Program} {f:FuncId} {fn:Func} {F F':Tr} {t:TypeId} (ht:∃ m cs,Cs P t=some (m,cs)) (h:lE P f fn F') (hF:∀ vs objs R,F vs objs R→(∃ rest,vs = .nil :: rest∧objs=[]∧okN.okNs noN rest=true∧F' (.own 2097152 :: rest) [(2097152,.arr t [])] R)∨F' vs objs R):lE P f fn F where
 body:=h.body
 name:=h.name
 calls:=by
  intro vs objs R hcan hf w Z G args hargs hst
  rcases hF vs objs R hf with ⟨rest,rfl,rfl,hn,hf'⟩ | hf'
  ·obtain ⟨v,ws,rfl,hv,hrest⟩:=hargs
   have hv:v = .slice none 0 0:=hv
   subst hv
   obtain ⟨G2,hG2⟩:∃ G2:Nat→Value,G2=fun i=>if i=2097152 then .slice none 0 0 else .pointer none:=⟨_,rfl⟩
   have hg:G2 2097152 = .slice none 0 0:=by rw [hG2];rfl
   have hfl:∀ i,(G2 i).oneCell' = true:=fun i=>by
    rw [hG2]
    by_cases h:i=2097152
    ·simp only [h,if_true];rfl
    ·simp only [h,if_false];rfl
   have hget:∀ id o,az [(2097152,Obj.arr t [])] id=some o→id=2097152∧o = .arr t []:=fun id o ho=>by
    rw [ba] at ho
    split at ho
    ·rename_i e;cases ho;exact ⟨e.symm,rfl⟩
    ·cases ho
   have hnb:∀ id o b,az [(2097152,Obj.arr t [])] id=some o→blk (G2 id)≠some b:=fun id o b ho hb=>by
    obtain ⟨rfl,_⟩:=hget id o ho
    rw [hg] at hb
    cases hb
   have main:=h.calls (.own 2097152 :: rest) [(2097152,.arr t [])] R rfl hf' w Z G2 (.slice none 0 0 :: ws) ⟨_,_,rfl,hg.symm,ab.okN (fun i h=>by cases h) rest ws hn hrest⟩
    {lt:=hst.lt
     flat:=hfl
     obj:=fun id o ho=>by
      obtain ⟨rfl,rfl⟩:=hget id o ho
      obtain ⟨m,cs,hc⟩:=ht
      exact ⟨m,cs,[],hc,by rw [hg];exact World.ownsRow_nil w 0 t cs.length,rfl⟩
     sep:=fun id id' o o' b ho _ hb _=>(hnb id o b ho hb).elim
     free:=fun id o b ho hb=>(hnb id o b ho hb).elim }
   refine main.mono ?_
   rintro e w' ⟨out,objs',Z',G',h1,h2,A⟩
   have hB:∀ b,¬ bH G2 [(2097152,Obj.arr t [])] b:=fun b ⟨id,o,ho,hb⟩=>hnb id o b ho hb
   refine ⟨out,objs',Z',G',h1,h2,?_⟩
   exact
    {stand:=A.stand
     fut:=A.fut.trans (Fut.refl (fun _=>False) w') (fun b hb=>(hB b hb).elim) (fun _ _ h=>h.elim)
     sub:=A.sub
     new:=fun b hb=>by
      rcases A.new b hb with h | h | h
      ·exact .inl h
      ·exact (hB b h).elim
      ·exact .inr (.inr h)
     row:=A.row
     own:=fun id o b ho hb=>by
      rcases A.own id o b ho hb with h | h
      ·exact (hB b h).elim
      ·exact .inr h
     keep:=fun id o ho=>by cases ho }
  ·exact h.calls vs objs R hcan hf' w Z G args hargs hst
end Go.Den

namespace Go.Mat
open Go Go.Den Go.Proofs
def aT (s:U) (T:List U):Nat→Nat→List U
 | _,0=>[]
 | p,n + 1=>bif gl T p then .l (dK s T p) :: aT s T (p + 1) n else aT s T (p + 1) n
noncomputable def oD:aS:=fun _ svs os k=>match svs,os with
 | [.val (.int .i64) j,.val (.int .i64) i,.ptr p o,.own x,.val (.int .i64) s],[.arr t xs,.box [.val (.sl false [.sl true ec]) T]]=>
  (p=640∧o=0∧x=2097152∧t=72∧ec=EC∧i = .i i.int∧j = .i j.int∧0≤i.int∧i.int < (T.list.length:Int)∧T.list.length≤65536∧0≤j.int∧j.int≤8∧(xs.length:Int) + 8≤1073741824 + j.int)∧
  k (.exit 2) ⟨[(0,.own 2097152),(7,vi i),(5,.ptr 640 0),(1,vi s)],[(2097152,.arr 72 (xs ++ aT s T.list (8 * i.int.toNat + j.int.toNat) (8 - j.int.toNat))),(640,.box [.val TRC T])]⟩
 | _,_=>False
noncomputable def oV:aS:=fun _ svs os k=>match svs,os with
 | [.val (.int .i64) i,.ptr p o,.own x,.val (.int .i64) s],[.arr t xs,.box [.val (.sl false [.sl true ec]) T]]=>
  (p=640∧o=0∧x=2097152∧t=72∧ec=EC∧i = .i i.int∧0≤i.int∧i.int≤(T.list.length:Int)∧T.list.length≤65536∧xs.length + 8 * (T.list.length - i.int.toNat)≤1073741824)∧
  k (.exit 0) ⟨[(0,.own 2097152)],[(2097152,.arr 72 (xs ++ aT s T.list (8 * i.int.toNat) (8 * (T.list.length - i.int.toNat))))]⟩
 | _,_=>False
noncomputable def rlC:Ctx:=mkC PR bM aK aL (aw 0 [7,5,0,1] [2097152,640] oV (aw 2 [8,7,5,0,1] [2097152,640] oD aC)) (an 0 [0] [2097152] (an 2 [0,7,5,1] [2097152,640] aq)) aq
theorem BM (pan:KP) (μ:Mu) (N:Nat) (k:KE) (j i s T:U) (xs:List U) {n a o g b e q f c p d h m} (_:n=(U.list (nth (.i 0) T.list i.int.toNat)):=by rfl) (_:a=(U.list (nth (.i 0) n j.int.toNat)):=by rfl) (_:o=(IntKind.wrap .i64 (IntKind.wrap .i64 (i.int * 8) + j.int)):=by rfl) (_:g=(List.tail (List.tail a)):=by rfl) (_:b=(xs ++ [U.l [s,U.i o,nth (.i 0) a 0,nth (.i 0) (List.tail a) 0,nth (.i 0) g 0,nth (.i 0) (List.tail g) 0,nth (.i 0) (List.tail (List.tail g)) 0]]):=by rfl) (_:e=(IntKind.wrap .i64 (j.int + 1)):=by rfl) (_:q=((8:Nat) * Int.toNat i.int + Int.toNat e):=by rfl) (_:f=(640,.box [.val (.sl false [.sl true EC]) T]):=by rfl) (_:c=(St.mk [(0,.own 2097152),(7,vi i),(5,.ptr 640 0),(1,vi s)] [(2097152,.arr 72 (xs ++ [U.l [s,U.i o,nth (.i 0) a 0,nth (.i 0) (List.tail a) 0,nth (.i 0) g 0,nth (.i 0) (List.tail g) 0,nth (.i 0) (List.tail (List.tail g)) 0]] ++ aT s T.list q ((8:Nat) - Int.toNat e))),f]):=by rfl) (_:p=(T.list.length:Int):=by rfl) (_:d=(640=640∧0=0∧2097152=2097152∧72=72∧EC=EC∧i=U.i i.int∧U.i e=U.i e∧(0:Int)≤i.int∧i.int < p∧T.list.length≤(65536:Nat)∧(0:Int)≤IntKind.wrap .i64 (j.int + 1)∧IntKind.wrap .i64 (j.int + 1)≤8∧(↑(List.length b):Int) + (8:Int)≤1073741824 + IntKind.wrap .i64 (j.int + 1)):=by rfl) (_:h=(μ [vi (U.i e),vi i,.ptr 640 0,.own 2097152,vi s] [.arr 72 b,.box [.val (.sl false [.sl true EC]) T]]):=by rfl) (_:m=(St.mk [(0,.own 2097152),(7,vi i),(5,.ptr 640 0),(1,vi s)] [(2097152,.arr 72 xs),f]):=by rfl): (exec (rlC.panics pan) (aa Tryz.f34 1) 2 ⟨[(8,vi j),(7,vi i),(5,.ptr 640 0),(0,.own 2097152),(1,vi s)],[(2097152,.arr 72 xs),(640,.box [.val TRC T])]⟩ (again PR (some ([0,7,5,1],[2097152,640])) none pan [8,7,5,0,1] [2097152,640] oD μ N k))=(bif decide ((0:Int)≤i.int∧i.int < p) then bif decide (j.int < (↑(List.length n):Int)) then bif decide (j.int < 8) then bif decide ((0:Int)≤i.int∧i.int < p) then bif decide ((0:Int)≤j.int∧j.int < (↑(List.length n):Int)) then bif U.int (nth (.i 0) a 0) == 2 then bif decide (List.length xs + 1≤room) && true then bif Nat.blt h N then d∧k (Ex.exit 2) c else False else False else bif U.int (nth (.i 0) a 0) == 3 then bif decide (List.length xs + 1≤room) && true then bif Nat.blt h N then d∧k (Ex.exit 2) c else False else False else bif Nat.blt (μ [vi (U.i e),vi i,.ptr 640 0,.own 2097152,vi s] [.arr 72 xs,.box [.val (.sl false [.sl true EC]) T]]) N then (640=640∧0=0∧2097152=2097152∧72=72∧EC=EC∧i=U.i i.int∧U.i e=U.i e∧(0:Int)≤i.int∧i.int < p∧T.list.length≤(65536:Nat)∧(0:Int)≤IntKind.wrap .i64 (j.int + 1)∧IntKind.wrap .i64 (j.int + 1)≤8∧(xs.length:Int) + (8:Int)≤1073741824 + IntKind.wrap .i64 (j.int + 1))∧k (Ex.exit 2) (St.mk [(0,.own 2097152),(7,vi i),(5,.ptr 640 0),(1,vi s)] [(2097152,.arr 72 (xs ++ aT s T.list q ((8:Nat) - Int.toNat e))),f]) else False else False else False else k (Ex.exit 2) m else k (Ex.exit 2) m else False):=by subst_vars;kernel_rfl
theorem AO (pan:KP) (μ:Mu) (N:Nat) (k:KE) (i s T:U) (xs:List U) {a c b d} (_:a=(IntKind.wrap .i64 (i.int + 1)):=by rfl) (_:c=((8:Nat) * Int.toNat i.int + Int.toNat 0):=by rfl) (_:b=(xs ++ aT s T.list c ((8:Nat) - Int.toNat 0)):=by rfl) (_:d=(T.list.length:Int):=by rfl): (exec (rlC.panics pan) (aa Tryz.f34 0) 0 ⟨[(7,vi i),(5,.ptr 640 0),(0,.own 2097152),(1,vi s)],[(2097152,.arr 72 xs),(640,.box [.val TRC T])]⟩ (again PR (some ([0],[2097152])) none pan [7,5,0,1] [2097152,640] oV μ N k))=(bif decide (i.int < d) then (640=640∧0=0∧2097152=2097152∧72=72∧EC=EC∧i=U.i i.int∧U.i (0:Int)=U.i 0∧(0:Int)≤i.int∧i.int < d∧T.list.length≤(65536:Nat)∧(0:Int)≤0∧(0:Int)≤8∧(xs.length:Int) + (8:Int)≤1073741824 + 0)∧bif Nat.blt (μ [vi (U.i a),.ptr 640 0,.own 2097152,vi s] [.arr 72 b,.box [.val (.sl false [.sl true EC]) T]]) N then (640=640∧0=0∧2097152=2097152∧72=72∧EC=EC∧U.i a=U.i a∧(0:Int)≤IntKind.wrap .i64 (i.int + 1)∧IntKind.wrap .i64 (i.int + 1)≤d∧T.list.length≤(65536:Nat)∧List.length b + (8:Nat) * (T.list.length - Int.toNat a)≤(1073741824:Nat))∧k (Ex.exit 0) (St.mk [(0,.own 2097152)] [(2097152,.arr 72 (xs ++ aT s T.list c ((8:Nat) - Int.toNat 0) ++ aT s T.list ((8:Nat) * Int.toNat a) ((8:Nat) * (T.list.length - Int.toNat a))))]) else False else k (Ex.exit 0) (St.mk [(0,.own 2097152)] [(2097152,.arr 72 xs)])):=by subst_vars;kernel_rfl
theorem FR (R:RT) (s T:U) (xs:List U):(jP rlC Tryz.f34 [.own 2097152,vi s,.agg [.val TRC T]] [(2097152,.arr 72 xs)] R)=((640=nat_lit 640∧nat_lit 0=nat_lit 0∧nat_lit 2097152=nat_lit 2097152∧nat_lit 72=nat_lit 72∧EC=EC∧U.i (0:Int)=U.i 0∧(0:Int)≤0∧(0:Int)≤(↑(List.length T.list):Int)∧List.length T.list≤(65536:Nat)∧List.length xs + (8:Nat) * (List.length T.list - Int.toNat 0)≤(1073741824:Nat))∧R (Out.ret [SV.own 2097152]) [(2097152,Obj.arr 72 (xs ++ aT s T.list ((8:Nat) * Int.toNat 0) ((8:Nat) * (List.length T.list - Int.toNat 0))))]):=by kernel_rfl
end Go.Mat

namespace Go.Mat
open Go Go.Den Go.Proofs
set_option maxRecDepth 100000
theorem zu (m:Nat) (T:List U) (i j:Nat) (hj:j < 8):aY m T ((8 * i + j:Nat):Int)=nth (.i 0) (nth (.i 0) (nth (.i 0) T i).list j).list m:=by
 unfold aY ko
 rw [decide_eq_false (by omega)]
 rw [show ((8 * i + j:Nat):Int).toNat=8 * i + j from Int.toNat_natCast _,show (8 * i + j) / 8=i by omega,show (8 * i + j) % 8=j by omega]
 rfl
theorem jV (s:U) (T:List U):∀ (n p:Nat),(∀ q,p≤q→q < p + n→gl T q=false)→aT s T p n=[]
 | 0,_,_=>rfl
 | n + 1,p,h=>by
  rw [aT,h p (Nat.le_refl _) (by omega)]
  exact jV s T n (p + 1) fun q h1 h2=>h q (by omega) (by omega)
theorem lf (s:U) (T:List U):∀ (n p:Nat),(aT s T p n).length≤n
 | 0,_=>Nat.le_refl _
 | n + 1,p=>by
  have:=lf s T n (p + 1)
  rw [aT]
  cases gl T p
  ·simp only [cond_false];omega
  ·simp only [cond_true,List.length_cons];omega
theorem iw (s:U) (T:List U):∀ (a b p:Nat),aT s T p (a + b)=aT s T p a ++ aT s T (p + a) b
 | 0,b,p=>by simp [aT]
 | a + 1,b,p=>by
  rw [show a + 1 + b=(a + b) + 1 by omega,aT,aT,iw s T a b (p + 1),show p + 1 + a=p + (a + 1) by omega]
  cases gl T p<;>rfl
theorem Cg:aE rlC 2 (aa Tryz.f34 1):=by
 refine al (F:=oD) (ts:=[8,7,5,0,1]) (os:=[2097152,640]) rfl (fun svs _=>match svs with | .val _ j :: _=>(8 - j.int).toNat | _=>0) ?_
 intro pan svs os k ho1 ho2 h
 unfold oD at h
 split at h
 ·rename_i j i p o x s t xs ec T
  obtain ⟨⟨rfl,rfl,rfl,rfl,rfl,hie,hje,hi0,hiT,hT,hj0,hj8,hx⟩,hk⟩:=h
  refine .eq (BM pan _ _ k j i s T xs) ?_
  obtain ⟨a,ha⟩:∃ a:Nat,i.int=(a:Int):=⟨i.int.toNat,by omega⟩
  obtain ⟨b,hb⟩:∃ b:Nat,j.int=(b:Int):=⟨j.int.toNat,by omega⟩
  have hout:∀ q,8 * a + b≤q→q < 8 * a + 8→(nth (.i 0) T.list a).list.length≤b→gl T.list q=false:=fun q h1 h2 h3=>by
   have e:q=8 * a + (q - 8 * a):=by omega
   unfold gl
   rw [e,zu 0 T.list a (q - 8 * a) (by omega),iK _ (nth (.i 0) T.list a).list (q - 8 * a) (by omega),show (U.i 0).list=[] from rfl,kK]
   rfl
  have hwj:IntKind.wrap .i64 (j.int + 1)=j.int + 1:=i64_in (by omega) (by omega)
  have hw1:IntKind.wrap .i64 (i.int * 8)=i.int * 8:=i64_in (by omega) (by omega)
  have hw2:IntKind.wrap .i64 (i.int * 8 + j.int)=i.int * 8 + j.int:=i64_in (by omega) (by omega)
  rw [hwj,hw1,hw2]
  rw [ha] at hk hi0 hiT ⊢
  rw [hb] at hk hj0 hj8 hx ⊢
  simp only [Int.toNat_natCast] at hk
  simp only [Int.toNat_natCast,aD,Nat.zero_add,Nat.reduceAdd]
  refine dt ⟨by omega,by omega⟩ (bd (fun h1=>bd (fun h2=>dt ⟨by omega,by omega⟩ (dt ⟨by omega,by omega⟩ ?_)) (fun h2=>?_)) (fun h1=>?_))
  ·have ex:∀ m,aY m T.list ((8 * a + b:Nat):Int)=nth (.i 0) (nth (.i 0) (nth (.i 0) T.list a).list b).list m:=fun m=>zu m T.list a b (by omega)
   obtain ⟨n,hn⟩:∃ n,8 - b=n + 1:=⟨7 - b,by omega⟩
   rw [hn,aT] at hk
   have hlu:dK s T.list (8 * a + b)=[s,.i ((a:Int) * 8 + (b:Int)),aY 0 T.list ((8 * a + b:Nat):Int),aY 1 T.list ((8 * a + b:Nat):Int),aY 2 T.list ((8 * a + b:Nat):Int),aY 3 T.list ((8 * a + b:Nat):Int),aY 4 T.list ((8 * a + b:Nat):Int)]:=by
    unfold dK
    rw [show ((8 * a + b:Nat):Int)=(a:Int) * 8 + (b:Int) by omega]
   simp only [← ex]
   rw [← hlu]
   have hn2:8 - ((b:Int) + 1).toNat=n:=by omega
   have hp2:8 * a + ((b:Int) + 1).toNat=8 * a + b + 1:=by omega
   rw [hn2,hp2]
   have hie2:i = .i (a:Int):=by rw [← ha];exact hie
   have hlen:((xs ++ [U.l (dK s T.list (8 * a + b))]).length:Int) + 8≤1073741824 + ((b:Int) + 1):=by
    rw [List.length_append]
    show ((xs.length + 1:Nat):Int) + 8≤_
    omega
   have hmu:((8:Int) - ((b:Int) + 1)).toNat < ((8:Int) - (b:Int)).toNat:=by omega
   cases hh:gl T.list (8 * a + b) with
   | true=>
    rw [hh] at hk
    have hk:k (.exit 2) ⟨[(0,.own 2097152),(7,vi i),(5,.ptr 640 0),(1,vi s)],[(2097152,.arr 72 (xs ++ [U.l (dK s T.list (8 * a + b))] ++ aT s T.list (8 * a + b + 1) n)),(640,.box [.val TRC T])]⟩:=by
     rw [List.append_assoc];exact hk
    have hh:((aY 0 T.list ((8 * a + b:Nat):Int)).int == 2 || (aY 0 T.list ((8 * a + b:Nat):Int)).int == 3)=true:=hh
    refine bi (fun g=>cu (by unfold room;omega) rfl (blt ?_ ⟨⟨by trivial,by trivial,by trivial,by trivial,by trivial,hie2,by trivial,by omega,by omega,hT,by omega,by omega,hlen⟩,hk⟩)) (fun g=>?_)
    ·simp only [U.int_i];omega
    ·rw [g] at hh
     refine bt hh (cu (by unfold room;omega) rfl (blt ?_ ⟨⟨by trivial,by trivial,by trivial,by trivial,by trivial,hie2,by trivial,by omega,by omega,hT,by omega,by omega,hlen⟩,hk⟩))
     simp only [U.int_i];omega
   | false=>
    rw [hh] at hk
    obtain ⟨g1,g2⟩:=Bool.or_eq_false_iff.1 (show ((aY 0 T.list ((8 * a + b:Nat):Int)).int == 2 || (aY 0 T.list ((8 * a + b:Nat):Int)).int == 3)=false from hh)
    refine bf g1 (bf g2 (blt ?_ ⟨⟨by trivial,by trivial,by trivial,by trivial,by trivial,hie2,by trivial,by omega,by omega,hT,by omega,by omega,by omega⟩,hk⟩))
    simp only [U.int_i];omega
  ·rw [show 8 - b=0 by omega,aT,List.append_nil] at hk
   exact hk
  ·rw [jV s T.list (8 - b) (8 * a + b) (fun q h1 h2=>hout q h1 (by omega) (by omega)),List.append_nil] at hk
   exact hk
 ·exact h.elim
theorem DY:aE rlC 0 (aa Tryz.f34 0):=by
 refine al (F:=oV) (ts:=[7,5,0,1]) (os:=[2097152,640]) rfl (fun svs os=>match svs,os with | .val _ i :: _,[_,.box [.val _ T]]=>((T.list.length:Int) - i.int).toNat | _,_=>0) ?_
 intro pan svs os k ho1 ho2 h
 unfold oV at h
 split at h
 ·rename_i i p o x s t xs ec T
  obtain ⟨⟨rfl,rfl,rfl,rfl,rfl,hie,hi0,hiT,hT,hx⟩,hk⟩:=h
  refine .eq (AO pan _ _ k i s T xs) ?_
  have hwi:IntKind.wrap .i64 (i.int + 1)=i.int + 1:=i64_in (by omega) (by omega)
  rw [hwi]
  refine bd (fun hlt=>⟨⟨by trivial,by trivial,by trivial,by trivial,by trivial,hie,by trivial,hi0,hlt,hT,by omega,by omega,by omega⟩,?_⟩) (fun hlt=>?_)
  ·have hc:(i.int + 1).toNat=i.int.toNat + 1:=by omega
   have hll:=lf s T.list 8 (8 * i.int.toNat)
   rw [show 8 * (T.list.length - i.int.toNat)=8 + 8 * (T.list.length - (i.int.toNat + 1)) by omega,iw,← List.append_assoc] at hk
   rw [hc,show 8 * i.int.toNat + Int.toNat 0=8 * i.int.toNat from rfl,show 8 - Int.toNat 0=8 from rfl,show 8 * (i.int.toNat + 1)=8 * i.int.toNat + 8 by omega]
   refine blt ?_ ⟨⟨by trivial,by trivial,by trivial,by trivial,by trivial,by trivial,by omega,by omega,hT,?_⟩,hk⟩
   ·show ((T.list.length:Int) - (i.int + 1)).toNat < ((T.list.length:Int) - i.int).toNat
    omega
   ·rw [List.length_append]
    omega
  ·rw [show T.list.length - i.int.toNat=0 by omega,Nat.mul_zero,aT,List.append_nil] at hk
   exact hk
 ·exact h.elim
theorem mb (s:U) (T:List U):∀ n,aT s T 0 n=(aQ s T n).map .l
 | 0=>rfl
 | n + 1=>by
  rw [iw s T n 1 0,mb s T n,Nat.zero_add,aT]
  cases h:gl T n with
  | true=>rw [hH h,List.map_append];rfl
  | false=>rw [jn h];simp [aT]
noncomputable def xQ:Tr:=fun vs objs k=>match vs,objs with
 | [.own o,.val (.int .i64) s,.agg [.val (.sl false [.sl true ec]) T]],[(o2,.arr t xs)]=>
  (o=2097152∧o2=2097152∧t=72∧ec=EC∧T.list.length≤65536∧xs.length + 8 * T.list.length≤1073741824)∧k (.ret [.own 2097152]) [(2097152,.arr 72 (xs ++ ai s T.list))]
 | _,_=>False
noncomputable def sr:Tr:=fun vs objs k=>match vs,objs with
 | [.nil,.val (.int .i64) s,.agg [.val (.sl false [.sl true ec]) T]],[]=>(ec=EC∧T.list.length≤65536)∧k (.ret [.own 2097152]) [(2097152,.arr 72 (ai s T.list))]
 | vs,objs=>xQ vs objs k
theorem Jr:ee PR 34 xQ:=fun fn hfn=>by
 have hf:PR.funcs[(34:Nat)]? = some Tryz.f34:=by kernel_rfl
 rw [hf] at hfn;cases hfn
 refine dB (C:=rlC) (aB ao af .nil .nil) hf (by kernel_rfl) (dS (by kernel_rfl) DY Cg) fun vs objs R h1 h2 h=>?_
 clear h1 h2
 unfold xQ at h
 split at h
 ·rename_i o s ec T o2 t xs
  obtain ⟨⟨rfl,rfl,rfl,rfl,hT,hx⟩,h⟩:=h
  refine .eq (FR R s T xs) ⟨⟨by trivial,by trivial,by trivial,by trivial,by trivial,by trivial,by trivial,by omega,hT,hx⟩,?_⟩
  rw [show 8 * Int.toNat 0=0 from rfl,show T.list.length - Int.toNat 0=T.list.length from rfl,mb]
  exact h
 ·exact h.elim
theorem HV:ee PR 34 sr:=fun fn hfn=>by
 refine FW (t:=72) ⟨true,LNC,by kernel_rfl⟩ (Jr fn hfn) fun vs objs R h=>?_
 unfold sr at h
 split at h
 ·rename_i s ec T
  obtain ⟨⟨rfl,hT⟩,h⟩:=h
  exact .inl ⟨_,rfl,rfl,rfl,⟨by trivial,by trivial,by trivial,by trivial,hT,by simp only [List.length_nil];omega⟩,h⟩
 ·exact .inr h
end Go.Mat

namespace Go.Mat
open Go Go.Den Go.Proofs
noncomputable def sV:aS:=fun _ svs os k=>match svs,os with
 | [.val (.int .i64) i,.own o,.ptr p po],[.arr t xs,.box [.val (.int .i64) c,.val (.int .i64) sz,.val .str bk,.val (.sl false [.sl true x1]) T,.val (.sl true x2) S,.val (.sl true x3) M,.val (.sl false [.int .i64]) Q]]=>
  (i = .i i.int∧o=912∧p=128∧po=0∧t=72∧x1=EC∧x2=SC∧x3=BC∧0≤i.int∧i.int≤(S.list.length:Int)∧S.list.length≤1000∧xs.length + 524288 * (S.list.length - i.int.toNat)≤1073741824∧bb (S.list.drop i.int.toNat)=true)∧
  k (.exit 0) ⟨[(3,.own 912)],[(912,.arr 72 (xs ++ ad i.int (S.list.drop i.int.toNat)))]⟩
 | _,_=>False
noncomputable def reC:Ctx:=mkC PR bM aK (cw 34 [true,false,false] sr aL) (aw 0 [4,3,1] [912,128] sV aC) (an 0 [3] [912] aq) aq
theorem GK (R:RF) (c sz bk T S M Q:U) {a} (_:a=(List.drop (Int.toNat (0:Int)) S.list):=by rfl): (run reC Tryz.f12 [[c,sz,bk,T,S,M,Q]] R)=(([Ct.int IntKind.i64,Ct.int IntKind.i64,Ct.int IntKind.i64,Ct.int IntKind.i64,Ct.int IntKind.u32]=[.int .i64,.int .i64,.int .i64,.int .i64,.int .u32]∧T.list.length≤(65536:Nat))∧(U.i (0:Int)=U.i (0:Int)∧912=912∧128=128∧0=0∧72=72∧[Ct.int IntKind.i64,Ct.int IntKind.i64,Ct.int IntKind.i64,Ct.int IntKind.i64,Ct.int IntKind.u32]=[.int .i64,.int .i64,.int .i64,.int .i64,.int .u32]∧[Ct.str,Ct.int IntKind.i64,Ct.sl false [Ct.sl true [Ct.int IntKind.i64,Ct.int IntKind.i64,Ct.int IntKind.i64,Ct.int IntKind.i64,Ct.int IntKind.u32]]]=[.str,.int .i64,Ct.sl false [.sl true [.int .i64,.int .i64,.int .i64,.int .i64,.int .u32]]]∧[Ct.str,Ct.bool,Ct.sl true [Ct.int IntKind.i64,Ct.int IntKind.i64]]=[.str,Ct.bool,Ct.sl true [.int .i64,.int .i64]]∧(0:Int)≤(0:Int)∧(0:Int)≤(S.list.length:Int)∧S.list.length≤(1000:Nat)∧List.length (ai (U.i (-1:Int)) T.list) + (524288:Nat) * (S.list.length - Int.toNat (0:Int))≤(1073741824:Nat)∧bb a=true)∧R [[U.l (ai (U.i (-1:Int)) T.list ++ ad (0:Int) a)]]):=by subst_vars;kernel_rfl
theorem CF (pan:KP) (μ:Mu) (N:Nat) (k:KE) (i c sz bk T S M Q:U) (xs:List U) {a b d} (_:a=(U.list (nth (U.i (0:Int)) (List.drop (2:Nat) (U.list (nth (U.i (0:Int)) S.list i.int.toNat))) 0)):=by rfl) (_:b=(IntKind.wrap .i64 (i.int + (1:Int))):=by rfl) (_:d=(S.list.length:Int):=by rfl): (exec (reC.panics pan) (aa Tryz.f12 0) 0 ⟨[(4,vi i),(3,.own 912),(1,.ptr 128 0)],[(912,.arr 72 xs),(128,.box [vi c,vi sz,vs bk,.val TRC T,vt SC S,vt BC M,vl (.int .i64) Q])]⟩ (again PR (some ([3],[912])) none pan [4,3,1] [912,128] sV μ N k))=(bif decide (i.int < d) then bif decide ((0:Int)≤i.int∧i.int < d) then (2097152=2097152∧2097152=2097152∧72=72∧[Ct.int IntKind.i64,Ct.int IntKind.i64,Ct.int IntKind.i64,Ct.int IntKind.i64,Ct.int IntKind.u32]=[.int .i64,.int .i64,.int .i64,.int .i64,.int .u32]∧List.length a≤(65536:Nat)∧List.length xs + (8:Nat) * List.length a≤(1073741824:Nat))∧bif Nat.blt (μ [.val (.int IntKind.i64) (U.i b),.own (nat_lit 912),.ptr (nat_lit 128) (nat_lit 0)] [.arr (nat_lit 72) (xs ++ ai i a),.box [.val (.int IntKind.i64) c,.val (.int IntKind.i64) sz,.val .str bk,.val (.sl false [.sl true [.int .i64,.int .i64,.int .i64,.int .i64,.int .u32]]) T,.val (.sl true [.str,.int .i64,Ct.sl false [.sl true [.int .i64,.int .i64,.int .i64,.int .i64,.int .u32]]]) S,.val (.sl true [.str,Ct.bool,Ct.sl true [.int .i64,.int .i64]]) M,.val (.sl false [.int .i64]) Q]]) N then (U.i b=U.i b∧912=912∧128=128∧0=0∧72=72∧[Ct.int IntKind.i64,Ct.int IntKind.i64,Ct.int IntKind.i64,Ct.int IntKind.i64,Ct.int IntKind.u32]=[.int .i64,.int .i64,.int .i64,.int .i64,.int .u32]∧[Ct.str,Ct.int IntKind.i64,Ct.sl false [Ct.sl true [Ct.int IntKind.i64,Ct.int IntKind.i64,Ct.int IntKind.i64,Ct.int IntKind.i64,Ct.int IntKind.u32]]]=[.str,.int .i64,Ct.sl false [.sl true [.int .i64,.int .i64,.int .i64,.int .i64,.int .u32]]]∧[Ct.str,Ct.bool,Ct.sl true [Ct.int IntKind.i64,Ct.int IntKind.i64]]=[.str,Ct.bool,Ct.sl true [.int .i64,.int .i64]]∧(0:Int)≤IntKind.wrap .i64 (i.int + (1:Int))∧IntKind.wrap .i64 (i.int + (1:Int))≤d∧S.list.length≤(1000:Nat)∧List.length (xs ++ ai i a) + (524288:Nat) * (S.list.length - Int.toNat b)≤(1073741824:Nat)∧bb (List.drop (Int.toNat b) S.list)=true)∧k (Ex.exit (nat_lit 0)) (St.mk [(nat_lit 3,.own (nat_lit 912))] [(nat_lit 912,.arr (nat_lit 72) (xs ++ ai i a ++ ad b (List.drop (Int.toNat b) S.list)))]) else False else False else k (Ex.exit (nat_lit 0)) (St.mk [(nat_lit 3,.own (nat_lit 912))] [(nat_lit 912,.arr (nat_lit 72) xs)])):=by subst_vars;kernel_rfl
end Go.Mat

namespace Go.Mat
open Go Go.Den Go.Proofs
set_option maxRecDepth 100000
theorem Fj:aE reC 0 (aa Tryz.f12 0):=by
 refine al (F:=sV) (ts:=[4,3,1]) (os:=[912,128]) rfl (fun svs os=>match svs,os with | .val _ i :: _,[_,.box [_,_,_,_,.val _ S,_,_]]=>((S.list.length:Int) - i.int).toNat | _,_=>0) ?_
 intro pan svs os k ho1 ho2 h
 unfold sV at h
 split at h
 ·rename_i i o p po t xs c sz bk x1 T x2 S x3 M Q
  obtain ⟨⟨hi,rfl,rfl,rfl,rfl,rfl,rfl,rfl,h0,hle,hS,hx,hf⟩,hk⟩:=h
  refine .eq (CF pan _ _ k i c sz bk T S M Q xs) ?_
  refine bd (fun hlt=>dt ⟨h0,by omega⟩ ?_) (fun hlt=>?_)
  ·rw [aN (by omega),bb] at hf
   rw [aN (by omega),ad] at hk
   simp only [Bool.and_eq_true,decide_eq_true_eq] at hf
   obtain ⟨f1,f2⟩:=hf
   have hwi:IntKind.wrap .i64 (i.int + 1)=i.int + 1:=i64_in (by omega) (by omega)
   have hc:(i.int + 1).toNat=i.int.toNat + 1:=by omega
   have hll:=de i (nth (.i 0) (U.at S.list i.int.toNat).list 2).list
   simp only [bW,Nat.add_zero]
   rw [hwi,hc]
   rw [← hi] at hk
   refine ⟨⟨by trivial,by trivial,by trivial,by trivial,f1,(show xs.length + 8 * (nth (.i 0) (U.at S.list i.int.toNat).list 2).list.length≤1073741824 by omega)⟩,blt ?_ ⟨⟨by trivial,by trivial,by trivial,by trivial,by trivial,by trivial,by trivial,by trivial,by omega,by omega,hS,?_,f2⟩,?_⟩⟩
   ·show ((S.list.length:Int) - (i.int + 1)).toNat < ((S.list.length:Int) - i.int).toNat
    omega
   ·rw [List.length_append]
    have e:S.list.length - i.int.toNat=(S.list.length - (i.int.toNat + 1)) + 1:=by omega
    rw [e,Nat.mul_add] at hx
    show xs.length + (ai i (nth (.i 0) (U.at S.list i.int.toNat).list 2).list).length + 524288 * (S.list.length - (i.int.toNat + 1))≤1073741824
    omega
   ·rw [List.append_assoc]
    exact hk
  ·rw [List.drop_of_length_le (by omega),ad,List.append_nil] at hk
   exact hk
 ·exact h.elim
theorem pf:cG PR 12 gQ oY:=fun fn us hfn hpre=>by
 have hf:PR.funcs[(12:Nat)]? = some Tryz.f12:=by kernel_rfl
 rw [hf] at hfn;cases hfn
 refine aM (C:=reC) (aB ao af .nil (.cons HV .nil)) hf (by kernel_rfl) (aW (by kernel_rfl) Fj) fun hok=>?_
 have hp:Tryz.f12.params.toList=[29]:=by kernel_rfl
 rw [hp] at hok
 obtain ⟨u,rfl,h1⟩:=cT (by kernel_rfl:Cs PR 29=some (true,[.int .i64,.int .i64,.str,.sl false [.sl true EC],.sl true SC,.sl true BC,.sl false [.int .i64]])) hok.1
 obtain ⟨c,sz,bk,T,S,M,Q,rfl⟩:∃ a b c d e f g,u=[a,b,c,d,e,f,g]:=match u,h1 with | [a,b,c,d,e,f,g],_=>⟨a,b,c,d,e,f,g,rfl⟩
 obtain ⟨h1,h2,h3⟩:T.list.length≤65536∧S.list.length≤1000∧bb S.list=true:=hpre
 refine .eq (GK _ c sz bk T S M Q) ?_
 have hll:=de (.i (-1)) T.list
 refine ⟨⟨by trivial,h1⟩,⟨by trivial,by trivial,by trivial,by trivial,by trivial,by trivial,by trivial,by trivial,by omega,by omega,h2,?_,?_⟩,?_⟩
 ·rw [show Int.toNat 0=0 from rfl,Nat.sub_zero];omega
 ·exact h3
 ·rfl
end Go.Mat

namespace Go.Den
open Go Go.RowKit
theorem dU {w w':World} {b:Nat} {e:TypeId} {s n:Nat} {v:Value} {xs:List Value} (h:w.ownsRow b e s v n xs) (hb:∀ g,v.ownBlock=some g→w'.heap[g]? = w.heap[g]?):w'.ownsRow b e s v n xs:=by
 refine ⟨h.1,?_⟩
 rcases h.2 with hn | ⟨g,cap,cur,rfl,hb',hg,rest⟩
 ·exact .inl hn
 ·exact .inr ⟨g,cap,cur,rfl,hb',(hb g rfl).trans hg,rest⟩
theorem dk {w:World} {b:Nat} {e:TypeId} {s n:Nat} {v:Value} {xs:List Value} (h:w.ownsRow b e s v n xs):blk v=v.ownBlock:=by
 rcases h.2 with ⟨rfl,_⟩ | ⟨g,cap,cur,rfl,_⟩<;>rfl
theorem ns {w:World} {b:Nat} {e:TypeId} {s n:Nat} {v:Value} {xs:List Value} (h:w.ownsRow b e s v n xs) {g:Nat} (hg:v.ownBlock=some g):Plain w g:=by
 rcases h.2 with ⟨rfl,_⟩ | ⟨g',cap,cur,rfl,_,h',_⟩
 ·cases hg
 ·cases hg;exact ⟨_,_,h'⟩
theorem dx {w:World} {b:Nat} {e:TypeId} {s n:Nat} {v:Value} {xs:List Value} (h:w.ownsRow b e s v n xs):v.oneCell' = true:=by
 rcases h.2 with ⟨rfl,_⟩ | ⟨g,cap,cur,rfl,_⟩<;>rfl
theorem aX.scal {w:World} {Z Z':Nat→Prop}:∀ {cs:List Ct} {vs:List Value} {us:List U},ek cs=true→aX w Z cs vs us→aX w Z' cs vs us
 | [],_,_,_,h=>h
 | c :: cs,_,_,hs,h=>by
  obtain ⟨v,t,hv,hr,ht⟩:=h
  unfold ek at hs
  cases c<;>first | exact ⟨v,t,hv,hr,aX.scal hs ht⟩ | cases hs
theorem ah.scal {w:World} {Z Z':Nat→Prop} {m:Bool} {cs:List Ct} (hs:ek cs=true):∀ {us:List U} {vs:List Value},ah w Z m cs us vs→ah w Z' m cs us vs
 | [],_,h=>h
 | _ :: _,_,h=>by
  obtain ⟨p,q,hv,hr,ht⟩:=h
  exact ⟨p,q,hv,aX.scal hs hr,ah.scal hs ht⟩
theorem DC {xs:List U} {u:U} {j:Nat}:U.at (xs ++ [u]) j=if j < xs.length then U.at xs j else if j=xs.length then u else .i 0:=by
 induction xs generalizing j with
 | nil=>cases j<;>simp [nth]
 | cons x r ih=>
  cases j with
  | zero=>simp [nth]
  | succ j=>simp only [List.cons_append,aZ,List.length_cons,Nat.add_lt_add_iff_right,Nat.add_right_cancel_iff];exact ih
def fe (w:World) (te:TypeId) (cs:List Ct) (v:Value) (u:U):Prop:=∃ vs,w.ownsRow 0 te cs.length v u.list.length vs∧ah w (fun _=>False) true cs u.list vs
theorem fe.same {w w':World} {te:TypeId} {cs:List Ct} {v:Value} {u:U} (h:fe w te cs v u) (hb:∀ g,v.ownBlock=some g→w'.heap[g]? = w.heap[g]?):fe w' te cs v u:=by
 obtain ⟨vs,h1,h2⟩:=h
 exact ⟨vs,dU h1 hb,ah.mono ⟨fun _ h=>h,fun _ h=>h.elim⟩ h2⟩
theorem fe.lt {w:World} {te:TypeId} {cs:List Ct} {v:Value} {u:U} (h:fe w te cs v u) {b:Nat} (hb:v.ownBlock=some b):b < w.heap.size:=by
 obtain ⟨vs,h1,_⟩:=h
 exact (h1.lt b hb).2
theorem fe.one {w:World} {te:TypeId} {cs:List Ct} {v:Value} {u:U} (h:fe w te cs v u):v.oneCell' = true:=by
 obtain ⟨vs,h1,_⟩:=h
 exact dx h1
theorem fe.rep {w:World} {te:TypeId} {cs:List Ct} {v:Value} {u:U} {Z:Nat→Prop} (h:fe w te cs v u) (hZ:∀ b,v.ownBlock=some b→Z b):aR w Z (.sl true cs) v u:=by
 obtain ⟨vs,h1,h2⟩:=h
 exact kJ (fun _ h=>h.elim) (fun b hb=>hZ b (by rw [← dk h1];exact hb)) h1 h2
theorem fe.plain {w:World} {te:TypeId} {cs:List Ct} {v:Value} {u:U} (h:fe w te cs v u) {b:Nat} (hb:v.ownBlock=some b):Plain w b:=by
 obtain ⟨vs,h1,_⟩:=h
 exact ns h1 hb
theorem fe.nil (w:World) (te:TypeId) (cs:List Ct):fe w te cs (.slice none 0 0) (.l []):=⟨[],World.ownsRow_nil w 0 te cs.length,rfl⟩
structure cN (te tr:TypeId) (cs:List Ct) (F:Nat→Prop) (w:World) (v:Value) (rows:List Value) (xs:List U):Prop where
 own:w.ownsRow 0 tr 1 v rows.length rows
 len:rows.length=xs.length
 home:∀ b,v.ownBlock=some b→F b
 row:∀ (j:Nat) (r:Value),rows[j]? = some r→fe w te cs r (U.at xs j)
 rowF:∀ (j:Nat) (r:Value) (b:Nat),rows[j]? = some r→r.ownBlock=some b→F b∧v.ownBlock≠some b
 apart:∀ (i j:Nat) (r r':Value) (b:Nat),rows[i]? = some r→rows[j]? = some r'→r.ownBlock=some b→r'.ownBlock=some b→i=j
section
variable {te tr:TypeId} {cs:List Ct} {F:Nat→Prop} {w w':World} {v v':Value} {rows:List Value} {xs:List U}
theorem cN.nil (te tr:TypeId) (cs:List Ct) (F:Nat→Prop) (w:World):cN te tr cs F w (.slice none 0 0) [] []:=
 ⟨World.ownsRow_nil w 0 tr 1,rfl,fun b h=>(by cases h),fun j r h=>(by simp at h),fun j r b h=>(by simp at h),fun i j r r' b h=>(by simp at h)⟩
theorem cN.same (D:cN te tr cs F w v rows xs) (h:∀ b,F b→b < w.heap.size→w'.heap[b]? = w.heap[b]?):cN te tr cs F w' v rows xs where
 own:=dU D.own fun g hg=>h g (D.home g hg) (D.own.lt g hg).2
 len:=D.len
 home:=D.home
 row:=fun j r hr=>(D.row j r hr).same fun g hg=>h g (D.rowF j r g hr hg).1 ((D.row j r hr).lt hg)
 rowF:=D.rowF
 apart:=D.apart
theorem cN.push (D:cN te tr cs F w v rows xs) {r:Value} {u:U} (hr:fe w te cs r u) (hrF:∀ b,r.ownBlock=some b→F b∧v.ownBlock≠some b∧∀ (j:Nat) (r':Value),rows[j]? = some r'→r'.ownBlock≠some b)
  (own':w'.ownsRow 0 tr 1 v' (rows.length + 1) (rows ++ [r])) (g:w.grownBy w' v.ownBlock) (hv:v'.ownBlock=v.ownBlock∨v'.ownBlock=some w.heap.size) (hF:F w.heap.size):cN te tr cs F w' v' (rows ++ [r]) (xs ++ [u]):=by
 have at_:∀ (j:Nat) (x:Value),(rows ++ [r])[j]? = some x→(rows[j]? = some x∧j < rows.length)∨(j=rows.length∧x=r):=fun j x h=>by
  rw [List.getElem?_append] at h
  split at h
  ·rename_i hj;exact .inl ⟨h,hj⟩
  ·rename_i hj
   by_cases e:j=rows.length
   ·subst e;simp at h;exact .inr ⟨rfl,h.symm⟩
   ·rw [List.getElem?_eq_none (by simp;omega)] at h;cases h
 have keep:∀ x u,fe w te cs x u→(∀ b,x.ownBlock=some b→v.ownBlock≠some b)→fe w' te cs x u:=fun x u hx hb=>hx.same fun b hb'=>g.block b (hx.lt hb') fun e=>hb b hb' e.symm
 refine ⟨by simpa using own',by simp [D.len],fun b hb=>?_,fun j x hx=>?_,fun j x b hx hb=>?_,fun i j x y b hx hy h1 h2=>?_⟩
 ·rcases hv with e | e
  ·exact D.home b (e ▸ hb)
  ·rw [e] at hb;cases hb;exact hF
 ·rw [DC]
  rcases at_ j x hx with ⟨h,hj⟩ | ⟨rfl,rfl⟩
  ·rw [if_pos (by rw [← D.len];exact hj)]
   exact keep _ _ (D.row j x h) fun b hb=>(D.rowF j x b h hb).2
  ·rw [if_neg (by rw [D.len];omega),if_pos D.len]
   exact keep _ _ hr fun b hb=>(hrF b hb).2.1
 ·rcases at_ j x hx with ⟨h,hj⟩ | ⟨rfl,rfl⟩
  ·refine ⟨(D.rowF j x b h hb).1,fun e=>?_⟩
   rcases hv with e' | e'
   ·exact (D.rowF j x b h hb).2 (e' ▸ e)
   ·rw [e'] at e;cases e;have:=(D.row j x h).lt hb;omega
  ·refine ⟨(hrF b hb).1,fun e=>?_⟩
   rcases hv with e' | e'
   ·exact (hrF b hb).2.1 (e' ▸ e)
   ·rw [e'] at e;cases e;have:=hr.lt hb;omega
 ·rcases at_ i x hx with ⟨hi,hi'⟩ | ⟨rfl,rfl⟩<;>rcases at_ j y hy with ⟨hj,hj'⟩ | ⟨rfl,rfl⟩
  ·exact D.apart i j x y b hi hj h1 h2
  ·exact ((hrF b h2).2.2 i x hi h1).elim
  ·exact ((hrF b h1).2.2 j y hj h2).elim
  ·rfl
theorem ug {Z:Nat→Prop} {c:Ct}:∀ {xs:List U} {rows:List Value},rows.length=xs.length→(∀ (j:Nat) (r:Value),rows[j]? = some r→aR w Z c r (U.at xs j))→ah w Z false [c] xs rows
 | [],[],_,_=>rfl
 | _ :: _,[],h,_=>by simp at h
 | [],_ :: _,h,_=>by simp at h
 | x :: xs,r :: rows,h,hr=>⟨[r],rows,rfl,⟨r,[],rfl,hr 0 r rfl,rfl⟩,ug (by simpa using h) fun j r' hj=>hr (j + 1) r' (by simpa using hj)⟩
theorem cN.reps (D:cN te tr cs F w v rows xs) {Z:Nat→Prop} (hZ:∀ (j:Nat) (r:Value) (b:Nat),rows[j]? = some r→r.ownBlock=some b→Z b):ah w Z false [.sl true cs] xs rows:=
 ug D.len fun j r hr=>(D.row j r hr).rep fun b hb=>hZ j r b hr hb
end
theorem C3 {P:Program} {w:World} {t e:TypeId} {c:Ct} {r:Value} (hu:P.underlying t=some (.slice e)) (hcs:Cs P e=some (false,[c])) (hsm:bE P e=true) (h1:r.oneCell' = true) :
  (Instr.buildSlice t 1 #[(0,r)]).run P w = .ok (.slice (some ⟨w.heap.size,0,none⟩) 1 1) (w.alloc (.cells #[r] e)):=by
 obtain ⟨i,m,cs',zv,g1,g2,g3,g4,g5,g6,g7⟩:=bF hsm
 rw [hcs] at g2
 cases g2
 have hs:i.size=1:=g5
 have hc:r.cells = #[r]:=cr h1
 refine run_buildSlice w t e 1 #[(0,r)] #[r] i zv hu g1 g3 (by rw [hs];decide) (by rw [hs];decide) ?_
 have hr:Array.range 1 = #[0]:=rfl
 simp [hs,Instr.fill,hc,hr]
theorem DQ {P:Program} {w:World} {t ty e:TypeId} {c:Ct} {v r:Value} {n b cap:Nat} {xs:List Value} (hu:P.underlying t=some (.slice e)) (hcs:Cs P e=some (false,[c])) (hsm:bE P e=true) (hown:w.ownsRow 0 e 1 v n xs)
  (hr:w.cell? ⟨b,0,none⟩=some r) (h1:r.oneCell' = true) (hroom:n + 1≤room) :
  ∃ v' w',(Builtin.append_ #[t,t] ty #[v,.slice (some ⟨b,0,none⟩) 1 cap]).run P w = .ok v' w'∧w'.ownsRow 0 e 1 v' (n + 1) (xs ++ [r])∧w.grownBy w' v.ownBlock∧(v'.ownBlock=v.ownBlock∨v'.ownBlock=some w.heap.size):=by
 obtain ⟨i,m,cs',zv,g1,g2,g3,g4,g5,g6,g7⟩:=bF hsm
 rw [hcs] at g2
 cases g2
 refine fm t t ty e i zv 1 hu g1 g3 g5 g6 (by decide) g4 v n xs hown _ 1 [r] (Src.ofSlice w hu ⟨b,0,none⟩ 1 cap [r] rfl (fun j u hj=>?_) (fun u hu=>?_)) hroom
 ·cases j with
  | zero=>simp at hj;subst hj;exact hr
  | succ j=>simp at hj
 ·have:u=r:=by simpa using hu
  subst this;exact h1
end Go.Den

namespace Go.Den
open Go Go.RowKit
section
variable {P:Program} {o:Oper} {a:Act} {w:World} {K:Act→World→Prop} {Q:Exit→Act→World→Prop}
theorem yG {f:FuncId} {fn:Func} {args:Array Operand} {ts:Array TypeId} (ho:o.op = .call { callee:=.value (.func f),args:=args,argTypes:=ts }) (hf:P.funcs[f]? = some fn) (hbody:fn.body.isNone=false) (hname:(fn.name == "runtime.NumGoroutine")=false)
  (h:Calls P f (args.toList.map a.eval).toArray w fun e w'=>∃ v,e = .returned v∧K (a.put o.dst v) w'):o.wp P a w K Q:=by
 unfold Oper.wp execOp
 have hrun:(do let d ← resolve a.eval { callee:=.value (.func f),args:=args,argTypes:=ts } o.type;invoke d.target d.args:Sem Next).run P w = .ok (.enter f (args.toList.map a.eval).toArray) w:=by
  have harr:args.map a.eval=(args.toList.map a.eval).toArray:=by apply Array.ext';simp
  have hn:¬ fn.name = "runtime.NumGoroutine" := by simpa using hname
  have hb:¬ fn.body=none:=by intro e;rw [e] at hbody;cases hbody
  have hcf:a.eval (.func f) = .func (.func f) #[] #[]:=rfl
  simp [resolve,hcf,Deferred.ofValue,invoke,callFunc,hf,hn,hb,harr]
 simp only [ho,hrun,Oper.upon]
 refine h.mono fun e w' ⟨v,he,hk⟩=>?_
 subst he
 exact hk
theorem cB {ops:Array Oper} {i:Nat} (hi:ops[i]? = some o) (hg:o.guard=none) (h:o.wp P a w K Q):wpOp P ops Q i K a w:=by
 unfold wpOp
 simp only [hi]
 rw [if_pos (by simp [Region.wanted,hg])]
 exact .inl h
theorem fI {ops:Array Oper} {v:Value} (hg:o.guard=none) (h:∀ w,(execOp a.eval o).run P w = .ok (.value v) w):Yields P ops o v a:=
 .inl ⟨by simp [Region.wanted,hg],h⟩
theorem iG {s:TypeId} {x:Operand} {f k:Nat} {fd:Field} {b off:Nat} (ho:o.op = .fieldAddr s x f) (hf:ep P s f=some fd) (hs:cI P fd.type=some (k + 1)) (hx:a.eval x = .pointer (some ⟨b,off,none⟩)) (w:World) :
  (execOp a.eval o).run P w = .ok (.value (.pointer (some ⟨b,off + fd.offset,none⟩))) w:=by
 unfold ep at hf
 split at hf
 ·rename_i fs hu
  simp [execOp,ho,hx,Instr.fieldAt,run_underlying hu,hf,Instr.sureAddr,fieldPlace,cp hs,bp]
 ·cases hf
theorem run_move {x:Operand} (ho:o.op = .move x) (w:World):(execOp a.eval o).run P w = .ok (.value (a.eval x)) w:=by simp [execOp,ho]
theorem tf {te tr t:TypeId} {cs:List Ct} {F:Nat→Prop} {x y:Operand} {vo r:Value} {rows:List Value} {xs:List U} {row:U} {bs cap:Nat} (hu:P.underlying t=some (.slice tr)) (hcs:Cs P tr=some (false,[.sl true cs])) (hsm:bE P tr=true)
  (ho:o.op = .call { callee:=.builtin .append,args:=#[x,y],argTypes:=#[t,t] }) (hx:a.eval x=vo) (hy:a.eval y = .slice (some ⟨bs,0,none⟩) 1 cap) (hbs:w.cell? ⟨bs,0,none⟩=some r) (D:cN te tr cs F w vo rows xs) (hr:fe w te cs r row)
  (hrF:∀ b,r.ownBlock=some b→F b∧vo.ownBlock≠some b∧∀ (j:Nat) (r':Value),rows[j]? = some r'→r'.ownBlock≠some b) (hF:F w.heap.size) (hlen:xs.length + 1≤room)
  (hk:∀ vo' w',cN te tr cs F w' vo' (rows ++ [r]) (xs ++ [row])→w.grownBy w' vo.ownBlock→K (a.put o.dst vo') w'):o.wp P a w K Q:=by
 obtain ⟨vo',w',hrun,hown,hg,hv⟩:=DQ (ty:=o.type) hu hcs hsm D.own hbs hr.one (cap:=cap) (by rw [D.len];exact hlen)
 refine aG (v:=vo') (w':=w') ?_ (hk vo' w' (D.push hr hrF hown hg hv hF) hg)
 simp [execOp,ho,resolve,invoke,builtin,hx,hy,hrun]
theorem su {t e:TypeId} {c:Ct} {x:Operand} {r:Value} (hu:P.underlying t=some (.slice e)) (hcs:Cs P e=some (false,[c])) (hsm:bE P e=true) (ho:o.op = .buildSlice t 1 #[(0,x)]) (hx:a.eval x=r) (h1:r.oneCell' = true)
  (hk:K (a.put o.dst (.slice (some ⟨w.heap.size,0,none⟩) 1 1)) (w.alloc (.cells #[r] e))):o.wp P a w K Q:=by
 refine aG (v:=.slice (some ⟨w.heap.size,0,none⟩) 1 1) (w':=w.alloc (.cells #[r] e)) ?_ hk
 have hrun:=C3 (w:=w) hu hcs hsm h1
 simp [execOp,ho,hx,hrun]
theorem eW {t ty:TypeId} {x y:Operand} {b:Nat} {v u:Value} (hs:cI P t=some 1) (ho:o.op = .store t x y) (hx:a.eval x = .pointer (some ⟨b,0,none⟩)) (hy:a.eval y=v) (h1:v.cells = #[u]) (hu:u.oneCell' = true) {c:Array Value} (hc:c.size=1) (hB:w.heap[b]? = some (.cells c ty (0,0)))
  (hk:∀ w',w'.heap[b]? = some (.cells #[u] ty (0,0))→w.grownBy w' (some b)→w'.heap.size=w.heap.size→K (a.put o.dst undef) w'):o.wp P a w K Q:=by
 have hrun:=cO (P:=P) (w:=w) (t:=t) (k:=1) (b:=b) (o:=0) (ty:=ty) (cur:=c) (v:=v) hs (by rw [h1];rfl) (fun z hz=>by
  have:z=u:=by rw [h1] at hz;simpa using hz
  subst this;exact hu) hB (by omega)
 obtain ⟨cur',g1,g2,g3⟩:=cc b ty v.cells.toList 0 w c hB (by rw [h1];simp [hc])
 refine gH (w':=w.setCells b 0 v.cells.toList) (by simp [execOp,ho,hx,Instr.storeAt,Instr.sureAddr,hy,hrun]) (hk _ ?_ (cM b _ 0 w) (bV b _ 0 w).2.2.2)
 rw [g1]
 have h2:cur'.toList=[u]:=by
  have:cur'.toList.length=1:=by rw [Array.length_toList,g3,hc]
  rw [h1] at g2
  simp at g2
  rw [g2,List.eq_nil_of_length_eq_zero (l:=c.toList.tail) (by simp [hc])]
 have h3:cur' = #[u]:=by apply Array.ext';simpa using h2
 rw [h3]
theorem fp {t:TypeId} {d:TypeDesc} {x:Operand} {b off:Nat} {v:Value} (hu:P.underlying t=some d) (hd:pj d=false) (ho:o.op = .load t x) (hx:a.eval x = .pointer (some ⟨b,off,none⟩)) (hc:w.cell? ⟨b,off,none⟩=some v) (hk:K (a.put o.dst v) w):o.wp P a w K Q:=
 kT ho hx (et hu hd hc) hk
theorem bP {b:Nat} {v:Value} {ty:TypeId} (h:w.heap[b]? = some (.cells #[v] ty (0,0))):w.cell? ⟨b,0,none⟩=some v:=by
 rw [cell_of_row w b 0 #[v] ty (0,0) h];rfl
theorem lZ {t ty:TypeId} {d:TypeDesc} {x:Operand} {b:Nat} {v:Value} (hu:P.underlying t=some d) (hd:pj d=true) (hs:cI P t=some 1) (ho:o.op = .load t x) (hx:a.eval x = .pointer (some ⟨b,0,none⟩)) (hB:w.heap[b]? = some (.cells #[v] ty (0,0))) (hk:K (a.put o.dst (.agg #[v])) w):o.wp P a w K Q:=
 kT ho hx (cU (vs:=[v]) hu hd hs rfl (fun j u hj=>by
  cases j with
  | zero=>simp at hj;subst hj;exact bP hB
  | succ j=>simp at hj)) hk
theorem Bp {Z:Nat→Prop} {m:Bool} {cs:List Ct} {tx:TypeId} {v:Value} {u:U} (hk:∃ e',P.underlying tx=some (.slice e')) (h:aR w Z (.sl m cs) v u):∃ news,ah w Z m cs u.list news∧Src P cs.length tx v u.list.length news w:=by
 obtain ⟨e',hk⟩:=hk
 obtain ⟨A,c,rfl,hc,_,hk'⟩:=h
 cases A with
 | none=>
  have h0:u.list=[]:=by
   cases hl:u.list with
   | nil=>rfl
   | cons x l=>
    obtain ⟨b,o,hA,_⟩:=hk' 0 (by simp [hl])
    cases hA
  rw [h0]
  exact ⟨[],rfl,Src.ofNil w hk c⟩
 | some p=>
  cases hl:u.list with
  | nil=>exact ⟨[],rfl,Src.ofSlice w hk p 0 c [] (by simp) (fun j v hj=>by simp at hj) (fun v hv=>by cases hv)⟩
  | cons x l=>
   rw [← hl]
   obtain ⟨b,o,hA,_⟩:=hk' 0 (by simp [hl])
   injection hA with hA
   subst hA
   obtain ⟨vs,h1,h2⟩:=gq (us:=u.list) (o:=o) (b:=b) (fun k hkk=>by
    obtain ⟨b',o',hA,_,hr⟩:=hk' k hkk
    injection hA with hA
    injection hA with hb ho
    subst hb ho
    exact hr)
   exact ⟨vs,h1,Src.ofSlice w hk ⟨b,o,none⟩ u.list.length c vs h1.length (fun j v hj=>by rw [bp];exact h2 j v hj) h1.one⟩
theorem Gj {t e:TypeId} (hu:P.underlying t=some (.slice e)) (hsm:bE P e=true) (ho:o.op = .buildSlice t 0 #[]) (hk:K (a.put o.dst (.slice (some ⟨w.heap.size,0,none⟩) 0 0)) (w.alloc (.cells #[] e))):o.wp P a w K Q:=by
 obtain ⟨i,m,cs,zv,h1,h2,h3,h4,h5,h6,h7⟩:=bF hsm
 have hrun:(Instr.buildSlice t 0 #[]).run P w = .ok (.slice (some ⟨w.heap.size,0,none⟩) 0 0) (w.alloc (.cells #[] e)):=by
  have h0:Array.range 0 = #[]:=rfl
  simp [Instr.buildSlice,run_underlying hu,sizeOf,typeInfo,h1,Instr.fill,newRow,h0]
 refine aG (v:=.slice (some ⟨w.heap.size,0,none⟩) 0 0) (w':=w.alloc (.cells #[] e)) ?_ hk
 simp only [execOp,ho,Sem.run_bind]
 simp only [Array.map_empty,hrun]
 rfl
theorem tU {te t:TypeId} {cs:List Ct} {x y:Operand} {v0 rv:Value} {row:U} {Z:Nat→Prop} (hu:P.underlying t=some (.slice te)) (hcs:Cs P te=some (true,cs)) (hsm:bE P te=true) (hsc:ek cs=true)
  (ho:o.op = .call { callee:=.builtin .append,args:=#[x,y],argTypes:=#[t,t] }) (hx:a.eval x=v0) (hy:a.eval y=rv) (hown:w.ownsRow 0 te cs.length v0 0 []) (hr:aR w Z (.sl true cs) rv row) (hlen:row.list.length≤room)
  (hk:∀ v' w',fe w' te cs v' row→w.grownBy w' v0.ownBlock→(v'.ownBlock=v0.ownBlock∨v'.ownBlock=some w.heap.size)→K (a.put o.dst v') w'):o.wp P a w K Q:=by
 obtain ⟨i,m,cs',zv,g1,g2,g3,g4,g5,g6,g7⟩:=bF hsm
 rw [hcs] at g2
 cases g2
 obtain ⟨news,hn,hS⟩:=Bp (P:=P) (tx:=t) ⟨te,hu⟩ hr
 obtain ⟨v',w',hrun,hown',hg,hv⟩:=fm t t o.type te i zv cs.length hu g1 g3 g5 g6 g7 g4 v0 0 [] hown rv row.list.length news hS (by omega)
 refine aG (v:=v') (w':=w') ?_ (hk v' w' ⟨news,by simpa using hown',ah.mono ⟨fun _ h=>h,fun _ h=>h.elim⟩ (ah.scal (Z':=fun _=>False) hsc hn)⟩ hg hv)
 simp [execOp,ho,resolve,invoke,builtin,hx,hy,hrun]
theorem jk {fn:Func} {tmps:Array Value} {x:Nat} {t:TypeId} {b:Nat} {u:Value} (hr:fn.results = #[.cell x t]) (hx:tmps.getD x undef = .pointer (some ⟨b,0,none⟩)) (hl:(loadVar t ⟨b,0,none⟩).run P w = .ok u w):(results fn tmps).run P w = .ok u w:=by
 have h0:(nT tmps (.cell x t)).run P w = .ok u w:=by simp [nT,hx,asAddr,hl]
 rw [gG,hr,Array.mapM_eq_mapM_toList]
 simp [h0]
theorem vD {P:Program} {id t:Nat} {C B S:Code} {c:Operand} {Q:Exit→Act→World→Prop} {a:Act} {w:World} (I J:Nat→Act→World→Prop) (N:Nat) (hI:∀ j a w,I j a w→a.eval (.tmp t) = .int .i64 j) {j0:Nat} (hj0:j0≤N) (h0:I j0 a w)
  (hC:∀ j a w,j≤N→I j a w→C.wp P (fun e a w=>e = .normal∧a.eval c = .bool (decide (j < N))∧I j a w) a w)
  (hB:∀ j a w,j < N→I j a w→B.wp P (fun e a w=>e = .normal∧J j a w) a w)
  (hS:∀ j a w,j < N→J j a w→S.wp P (fun e a w=>e = .normal∧I (j + 1) a w) a w)
  (hQ:∀ a w,I N a w→Q .normal a w):(Code.block id (.loop (.seq C (.seq (.cond c .skip (.exit id)) (.seq B S))))).wp P Q a w:=by
 refine wp_block (wp_loop (fun a w=>∃ j,j≤N∧I j a w) (fun a _=>N - (match a.eval (.tmp t) with | .int _ i=>i.toNat | _=>0)) ⟨j0,hj0,h0⟩ ?_)
 rintro a w ⟨j,hj,hIj⟩
 refine wp_seq (wp_mono (hC j a w hj hIj) ?_)
 rintro e a1 w1 ⟨rfl,hc,h1⟩
 refine wp_seq (wp_cond_split hc (fun hlt=>wp_skip ?_) (fun hlt=>wp_exit ?_))
 ·have hlt:j < N:=of_decide_eq_true hlt
  refine wp_seq (wp_mono (hB j a1 w1 hlt h1) ?_)
  rintro e a2 w2 ⟨rfl,h2⟩
  refine wp_mono (hS j a2 w2 hlt h2) ?_
  rintro e a3 w3 ⟨rfl,h3⟩
  refine ⟨⟨j + 1,hlt,h3⟩,?_⟩
  show N - _ < N - _
  rw [hI _ _ _ h3,hI _ _ _ hIj]
  show N - ((j + 1:Nat):Int).toNat < N - (j:Int).toNat
  omega
 ·show if id=id then Q .normal a1 w1 else Q (.exit id) a1 w1
  rw [if_pos rfl]
  have hge:¬ j < N:=of_decide_eq_false hlt
  have:j=N:=by omega
  subst this
  exact hQ a1 w1 h1
theorem yz {P:Program} {id t:Nat} {C B S:Code} {c:Operand} {Q:Exit→Act→World→Prop} {a:Act} {w:World} (I J:Nat→Act→World→Prop) (N:Nat) (hI:∀ j a w,I j a w→a.eval (.tmp t) = .int .i64 j) {j0:Nat} (hj0:j0≤N) (h0:I j0 a w)
  (hC:∀ j a w,j≤N→I j a w→C.wp P (fun e a w=>e = .normal∧a.eval c = .bool (decide (j < N))∧I j a w) a w)
  (hB:∀ j a w,j < N→I j a w→B.wp P (fun e a w=>e = .normal∧J j a w) a w)
  (hS:∀ j a w,j < N→J j a w→S.wp P (fun e a w=>e = .normal∧I (j + 1) a w) a w)
  (hQ:∀ a w,I N a w→Q .normal a w):(Code.block id (.loop (.seq (.seq C (.cond c .skip (.exit id))) (.seq B S)))).wp P Q a w:=by
 refine wp_block (wp_loop (fun a w=>∃ j,j≤N∧I j a w) (fun a _=>N - (match a.eval (.tmp t) with | .int _ i=>i.toNat | _=>0)) ⟨j0,hj0,h0⟩ ?_)
 rintro a w ⟨j,hj,hIj⟩
 refine wp_seq (wp_seq (wp_mono (hC j a w hj hIj) ?_))
 rintro e a1 w1 ⟨rfl,hc,h1⟩
 refine wp_cond_split hc (fun hlt=>wp_skip ?_) (fun hlt=>wp_exit ?_)
 ·have hlt:j < N:=of_decide_eq_true hlt
  refine wp_seq (wp_mono (hB j a1 w1 hlt h1) ?_)
  rintro e a2 w2 ⟨rfl,h2⟩
  refine wp_mono (hS j a2 w2 hlt h2) ?_
  rintro e a3 w3 ⟨rfl,h3⟩
  refine ⟨⟨j + 1,hlt,h3⟩,?_⟩
  show N - _ < N - _
  rw [hI _ _ _ h3,hI _ _ _ hIj]
  show N - ((j + 1:Nat):Int).toNat < N - (j:Int).toNat
  omega
 ·show if id=id then Q .normal a1 w1 else Q (.exit id) a1 w1
  rw [if_pos rfl]
  have hge:¬ j < N:=of_decide_eq_false hlt
  have:j=N:=by omega
  subst this
  exact hQ a1 w1 h1
end
end Go.Den

namespace Go.Den
open Go Go.RowKit
theorem fA {xs:List U} {k j:Nat} {u:U} (hk:k < xs.length):U.at (xs.set k u) j=if j=k then u else U.at xs j:=by
 induction xs generalizing k j with
 | nil=>simp at hk
 | cons x r ih=>
  cases k with
  | zero=>cases j<;>simp [nth]
  | succ k=>
   cases j with
   | zero=>simp [nth]
   | succ j=>simp only [List.set_cons_succ,aZ,Nat.add_right_cancel_iff];exact ih (by simpa using hk)
theorem tR {xs:List U} {n j:Nat} (hj:j < n):U.at (xs.take n) j=U.at xs j:=by
 induction xs generalizing n j with
 | nil=>simp
 | cons x r ih=>
  cases n with
  | zero=>omega
  | succ n=>
   cases j with
   | zero=>rfl
   | succ j=>simp only [List.take_succ_cons,aZ];exact ih (by omega)
theorem dT {rows:List Value} {k j:Nat} {r x:Value} (h:(rows.set k r)[j]? = some x):(j=k∧x=r)∨(j≠k∧rows[j]? = some x):=by
 rw [List.getElem?_set] at h
 split at h
 ·rename_i e
  split at h
  ·injection h with h;exact .inl ⟨e.symm,h.symm⟩
  ·cases h
 ·rename_i e;exact .inr ⟨fun h=>e h.symm,h⟩
section
variable {te tr:TypeId} {cs:List Ct} {F:Nat→Prop} {w w':World} {v v':Value} {rows:List Value} {xs:List U}
theorem cN.poke (D:cN te tr cs F w v rows xs) {k:Nat} {r:Value} {u:U} (hk:rows[k]? = some r) (hr:fe w' te cs r u) (hf:∀ b,b < w.heap.size→r.ownBlock≠some b→w'.heap[b]? = w.heap[b]?):cN te tr cs F w' v rows (xs.set k u) where
 own:=dU D.own fun g hg=>hf g (D.own.lt g hg).2 fun e=>(D.rowF k r g hk e).2 hg
 len:=by rw [List.length_set];exact D.len
 home:=D.home
 row:=fun j x hx=>by
  have hkl:k < xs.length:=by rw [← D.len];exact (List.getElem?_eq_some_iff.1 hk).1
  rw [fA hkl]
  split
  ·rename_i e;subst e
   rw [hk] at hx;cases hx
   exact hr
  ·rename_i e
   exact (D.row j x hx).same fun g hg=>hf g ((D.row j x hx).lt hg) fun e'=>e (D.apart j k x r g hx hk hg e')
 rowF:=D.rowF
 apart:=D.apart
theorem cN.same2 (D:cN te tr cs F w v rows xs) (h:∀ b,b < w.heap.size→(v.ownBlock=some b∨∃ (j:Nat) (r:Value),rows[j]? = some r∧r.ownBlock=some b)→w'.heap[b]? = w.heap[b]?):cN te tr cs F w' v rows xs where
 own:=dU D.own fun g hg=>h g (D.own.lt g hg).2 (.inl hg)
 len:=D.len
 home:=D.home
 row:=fun j r hr=>(D.row j r hr).same fun g hg=>h g ((D.row j r hr).lt hg) (.inr ⟨j,r,hr,hg⟩)
 rowF:=D.rowF
 apart:=D.apart
theorem cN.put (D:cN te tr cs F w v rows xs) {k:Nat} {r:Value} {u:U} (hk:k < rows.length) (hr:fe w te cs r u) (hrF:∀ b,r.ownBlock=some b→F b∧v.ownBlock≠some b∧∀ (j:Nat) (r':Value),j≠k→rows[j]? = some r'→r'.ownBlock≠some b)
  (own':w'.ownsRow 0 tr 1 v rows.length (rows.set k r)) (hf:∀ b,b < w.heap.size→v.ownBlock≠some b→w'.heap[b]? = w.heap[b]?):cN te tr cs F w' v (rows.set k r) (xs.set k u) where
 own:=by rw [List.length_set];exact own'
 len:=by rw [List.length_set,List.length_set];exact D.len
 home:=D.home
 row:=fun j x hx=>by
  have hkl:k < xs.length:=by rw [← D.len];exact hk
  rw [fA hkl]
  rcases dT hx with ⟨rfl,rfl⟩ | ⟨hne,hx⟩
  ·rw [if_pos rfl]
   exact hr.same fun g hg=>hf g (hr.lt hg) (hrF g hg).2.1
  ·rw [if_neg hne]
   exact (D.row j x hx).same fun g hg=>hf g ((D.row j x hx).lt hg) (D.rowF j x g hx hg).2
 rowF:=fun j x b hx hb=>by
  rcases dT hx with ⟨rfl,rfl⟩ | ⟨_,hx⟩
  ·exact ⟨(hrF b hb).1,(hrF b hb).2.1⟩
  ·exact D.rowF j x b hx hb
 apart:=fun i j x y b hx hy h1 h2=>by
  rcases dT hx with ⟨e1,e2⟩ | ⟨hne,hx2⟩<;>rcases dT hy with ⟨e3,e4⟩ | ⟨hne',hy2⟩
  ·exact e1.trans e3.symm
  ·subst e2;exact ((hrF b h1).2.2 j y hne' hy2 h2).elim
  ·subst e4;exact ((hrF b h2).2.2 i x hne hx2 h1).elim
  ·exact D.apart i j x y b hx2 hy2 h1 h2
theorem cN.take (D:cN te tr cs F w v rows xs) {m:Nat} (hb:v'.ownBlock=v.ownBlock) (own':w.ownsRow 0 tr 1 v' (rows.take m).length (rows.take m)):cN te tr cs F w v' (rows.take m) (xs.take m) where
 own:=own'
 len:=by simp [D.len]
 home:=fun b h=>D.home b (hb ▸ h)
 row:=fun j x hx=>by
  rw [List.getElem?_take] at hx
  split at hx
  ·rename_i hj;rw [tR hj];exact D.row j x hx
  ·cases hx
 rowF:=fun j x b hx hb'=>by
  rw [List.getElem?_take] at hx
  split at hx
  ·rw [hb];exact D.rowF j x b hx hb'
  ·cases hx
 apart:=fun i j x y b hx hy h1 h2=>by
  rw [List.getElem?_take] at hx hy
  split at hx
  ·split at hy
   ·exact D.apart i j x y b hx hy h1 h2
   ·cases hy
  ·cases hx
end
section
variable {P:Program} {o:Oper} {a:Act} {w:World} {K:Act→World→Prop} {Q:Exit→Act→World→Prop}
theorem zC {te tr t:TypeId} {cs:List Ct} {F:Nat→Prop} {x y:Operand} {kd:IntKind} {m:Nat} {vo:Value} {rows:List Value} {xs:List U} (hu:P.underlying t=some (.slice tr)) (hs:cI P tr=some 1) (ho:o.op = .slice t x none (some y) none) (hx:a.eval x=vo) (hy:a.eval y = .int kd (m:Int))
  (D:cN te tr cs F w vo rows xs) (hm:m≤xs.length) (hk:∀ vo',cN te tr cs F w vo' (rows.take m) (xs.take m)→K (a.put o.dst vo') w):o.wp P a w K Q:=by
 have hlen:(rows.take m).length=m:=by rw [List.length_take,D.len];omega
 have hD:=D.len
 rcases D.own.2 with ⟨rfl,h0⟩ | ⟨g,cap,cur,rfl,h1,h2,h3,h4,h5,h6⟩
 ·have hm0:m=0:=by omega
  subst hm0
  have hbr:=eI (P:=P) (isSlice:=true) (w:=w) (a:=a) (len:=0) (cap:=0) (Nat.le_refl _) (lo:=none) (l:=none) (.inl ⟨rfl,rfl⟩) (hi:=some y) (h:=some ((0:Nat):Int)) (.inr ⟨y,kd,_,rfl,rfl,hy⟩) (mx:=none) (m:=none) (.inl ⟨rfl,rfl⟩) (by simp) (by simp)
  refine aG (v:=.slice none 0 0) (w':=w) ?_ (hk _ (D.take (v':=.slice none 0 0) rfl (by simpa using World.ownsRow_nil w 0 tr 1)))
  simp at hbr
  simp [execOp,ho,hx,Instr.sliceAt,Instr.slice,run_underlying hu,hbr,cp hs]
 ·have hbr:=eI (P:=P) (isSlice:=true) (w:=w) (a:=a) (len:=rows.length) (cap:=cap) h3 (lo:=none) (l:=none) (.inl ⟨rfl,rfl⟩) (hi:=some y) (h:=some ((m:Nat):Int)) (.inr ⟨y,kd,_,rfl,rfl,hy⟩) (mx:=none) (m:=none) (.inl ⟨rfl,rfl⟩) (by simp) (by simp;omega)
  refine aG (v:=.slice (some ⟨g,0,none⟩) m cap) (w':=w) ?_ (hk _ (D.take (v':=.slice (some ⟨g,0,none⟩) m cap) rfl ?_))
  ·simp at hbr
   simp [execOp,ho,hx,Instr.sliceAt,Instr.slice,run_underlying hu,hbr,cp hs,bp]
  ·rw [hlen]
   refine ⟨by rw [hlen];omega,.inr ⟨g,cap,cur,rfl,h1,h2,by omega,h4,h5,?_⟩⟩
   rw [← h6,List.take_take]
   congr 1
   omega
theorem Ik {te tr t:TypeId} {cs:List Ct} {F:Nat→Prop} {x y:Operand} {g k:Nat} {vo r:Value} {rows:List Value} {xs:List U} {u:U} (hs:cI P t=some 1) (ho:o.op = .store t x y) (hx:a.eval x = .pointer (some ⟨g,k,none⟩)) (hg:vo.ownBlock=some g) (hy:a.eval y=r)
  (D:cN te tr cs F w vo rows xs) (hk:k < rows.length) (hr:fe w te cs r u) (hrF:∀ b,r.ownBlock=some b→F b∧vo.ownBlock≠some b∧∀ (j:Nat) (r':Value),j≠k→rows[j]? = some r'→r'.ownBlock≠some b)
  (hK:∀ w',cN te tr cs F w' vo (rows.set k r) (xs.set k u)→w.grownBy w' (some g)→w'.heap.size=w.heap.size→K (a.put o.dst undef) w'):o.wp P a w K Q:=by
 rcases D.own.2 with ⟨rfl,_⟩ | ⟨g',cap,cur,rfl,h1,h2,h3,h4,h5,h6⟩
 ·cases hg
 ·obtain rfl:g' = g:=by simpa [Value.ownBlock] using hg
  have hr1:=hr.one
  have hcs:=cr hr1
  have hrun:=cO (P:=P) (w:=w) (t:=t) (k:=1) (b:=g') (o:=k) (ty:=tr) (cur:=cur) (v:=r) hs (by rw [hcs];rfl) (fun z hz=>by
   have:z=r:=by rw [hcs] at hz;simpa using hz
   subst this;exact hr1) h2 (by omega)
  rw [hcs] at hrun
  obtain ⟨cur',g1,g2,g3⟩:=cc g' tr [r] k w cur h2 (by simp;omega)
  have hgr:=cM g' [r] k w
  refine gH (w':=w.setCells g' k [r]) (by simp [execOp,ho,hx,Instr.storeAt,Instr.sureAddr,hy,hrun]) (hK _ (D.put hk hr hrF ⟨by simp,.inr ⟨g',cap,cur',rfl,h1,g1,h3,h4,by rw [g3,h5],?_⟩⟩ (fun b hb hne=>fw g' _ _ _ _ fun e=>hne (by rw [e];rfl))) hgr (bV g' _ _ w).2.2.2)
  have hcl:cur.toList.length=cap:=by rw [Array.length_toList,h5];omega
  apply List.ext_getElem?
  intro j
  rw [List.getElem?_take,g2,List.append_assoc]
  by_cases hj:j < rows.length * 1
  ·rw [if_pos hj]
   have h6j:(cur.toList.take (rows.length * 1))[j]? = rows[j]?:=by rw [h6]
   rw [List.getElem?_take,if_pos hj] at h6j
   by_cases hjk:j < k
   ·rw [List.getElem?_append_left (by simp;omega),List.getElem?_take,if_pos hjk,h6j,List.getElem?_set_ne (by omega)]
   ·rw [List.getElem?_append_right (by simp;omega)]
    have htk:(cur.toList.take k).length=k:=by rw [List.length_take];omega
    rw [htk]
    by_cases e:j=k
    ·subst e;simp [hk]
    ·rw [List.getElem?_append_right (by simp;omega),List.getElem?_drop,List.getElem?_set_ne (by omega),← h6j]
     congr 1
     simp;omega
  ·rw [if_neg hj,List.getElem?_eq_none (by simp;omega)]
end
theorem Sim.begin1 {P:Program} {n id:Nat} {e:TypeId} {us:List U} {env:List (Nat × SV)} {a:Act} {w:World} {Z:Nat→Prop} {G:Nat→Value} (hsz:a.tmps.size=n) (hslot:∀ t,ag w Z G (get env t) (a.tmps.getD t undef)) (hZ:∀ b,Z b→b < w.heap.size) (hflat:∀ i,(G i).oneCell' = true)
  (hobj:cg w Z G P id (.arr e us)) (hfree:∀ b,blk (G id)=some b→¬ Z b):Sim P ⟨w,fun b=>blk (G id)=some b,fun _=>False,Z,false,false,G,a.defers⟩ n ⟨env,[(id,.arr e us)]⟩ a w Z G where
 size:=hsz
 calm:=rfl
 slot:=hslot
 obj:=fun i o h=>by
  rw [ba] at h
  split at h
  ·rename_i e;subst e;cases h;exact hobj
  ·cases h
 sep:=fun i j o o' b h1 h2 _ _=>by
  rw [ba] at h1 h2
  split at h1
  ·split at h2
   ·rename_i e1 e2;exact e1.symm.trans e2
   ·cases h2
  ·cases h1
 free:=fun i o b h hb=>by
  rw [ba] at h
  split at h
  ·rename_i e;subst e;exact ⟨hfree b hb,.inl hb⟩
  ·cases h
 keep:=fun _ _ _ _ _ h=>h.elim
 nlt:=fun _ h=>h.elim
 lt:=hZ
 fut:=Fut.refl _ w
 new:=fun _ h=>.inl h
 sub:=fun _ h=>h
 flat:=hflat
 odd:=fun _ _=>rfl
 row:=fun _ h=>.inl h
theorem lQ {C:Ctx} (hC:C.Ok) (hpan:∀ s σ,¬ C.pan s σ) {n id rid:Nat} {ty:TypeId} {us:List U} {ops:Array Oper} (hdef:ops.toList.all (fun o=>!dy o)=true) (hok:bg n ops.toList=true) {Q:Exit→Act→World→Prop} {env:List (Nat × SV)} {a:Act} {w:World} {Z:Nat→Prop} {G:Nat→Value}
  (hsz:a.tmps.size=n) (hslot:∀ t,ag w Z G (get env t) (a.tmps.getD t undef)) (hZ:∀ b,Z b→b < w.heap.size) (hflat:∀ i,(G i).oneCell' = true) (hobj:cg w Z G C.P id (.arr ty us)) (hfree:∀ b,blk (G id)=some b→¬ Z b) {k:St→Prop} (h:ak C ops.toList ops.toList ⟨env,[(id,.arr ty us)]⟩ k)
  (hQ:∀ σ' a' w' Z' G',k σ'→Sim C.P ⟨w,fun b=>blk (G id)=some b,fun _=>False,Z,false,false,G,a.defers⟩ n σ' a' w' Z' G'→(∀ t,(∀ o ∈ ops.toList,o.dst≠some t)→a'.tmps.getD t undef=a.tmps.getD t undef)→Q .normal a' w') :
  (Code.region rid ops false).wp C.P Q a w:=by
 have S:=Sim.begin1 (P:=C.P) hsz hslot hZ hflat hobj hfree
 refine (wpIn_wide (n:=0)).1 (wpIn_mono (wpIn_region (dp (v0:=fun t=>a.tmps.getD t undef) _ a w (fun _ _=>rfl) (Q:=fun e a' w'=>e = .normal∧∃ σ' Z' G',k σ'∧Sim C.P ⟨w,fun b=>blk (G id)=some b,fun _=>False,Z,false,false,G,a.defers⟩ n σ' a' w' Z' G') ?_)) ?_)
 ·have:=eJ (Q:=fun e a' w'=>e = .normal∧∃ σ' Z' G',k σ'∧Sim C.P ⟨w,fun b=>blk (G id)=some b,fun _=>False,Z,false,false,G,a.defers⟩ n σ' a' w' Z' G') hC (fun s σ' _ _ _ _ _ h=>(hpan s σ' h).elim) rfl rfl (fun _ _ h=>by cases h.1) hdef (ro:=none) (m:=0) (rest:=[]) (fun σ' a' w' Z' G' h S'=>⟨rfl,σ',Z',G',h,S'⟩) ops.toList 0 (fun j _=>by simp) hok S h
  rw [List.append_nil,Array.length_toList] at this
  rw [List.range_eq_range']
  exact this
 ·rintro e a' w' ⟨⟨rfl,σ',Z',G',hk,S'⟩,hkeep⟩
  exact hQ σ' a' w' Z' G' hk S' (hkeep rfl)
end Go.Den

namespace Go.Den
open Go Go.RowKit
abbrev PK:Type:=Int × Int
def kvP (k:PK):Value:=.agg #[.int .i64 k.1,.int .i64 k.2]
def db:Nat→List (PK × Int)→List MapEntry
 | _,[]=>[]
 | n,(k,x) :: r=>{ key:=kvP k,val:=.int .i64 x,born:=n } :: db (n + 1) r
def fD (k:PK):List (PK × Int)→Bool
 | []=>false
 | (a,_) :: r=>decide (k=a) || fD k r
def dL (k:PK):List (PK × Int)→Nat
 | []=>0
 | (a,_) :: r=>bif decide (k=a) then 0 else dL k r + 1
def bI (k:PK):List (PK × Int)→Int
 | []=>0
 | (a,x) :: r=>bif decide (k=a) then x else bI k r
def c7 (k:PK) (v:Int):List (PK × Int)→List (PK × Int)
 | []=>[(k,v)]
 | (a,x) :: r=>bif decide (k=a) then (a,v) :: r else (a,x) :: c7 k v r
theorem zx {k:PK}:∀ {es:List (PK × Int)},fD k es=true→dL k es < es.length
 | [],h=>by cases h
 | (a,x) :: r,h=>by
  unfold fD at h
  unfold dL
  cases hq:decide (k=a) with
  | true=>simp
  | false=>
   rw [hq] at h
   have:=zx (by simpa using h)
   simp only [cond_false,List.length_cons];omega
theorem oM {k:PK}:∀ {es:List (PK × Int)},fD k es=false→dL k es=es.length∧bI k es=0
 | [],_=>⟨rfl,rfl⟩
 | (a,x) :: r,h=>by
  unfold fD at h
  simp only [Bool.or_eq_false_iff] at h
  obtain ⟨h1,h2⟩:=oM h.2
  unfold dL bI
  rw [h.1]
  simp [h1,h2]
theorem uJ {k:PK} {v:Int}:∀ {es:List (PK × Int)} {n:Nat},fD k es=false→db n (c7 k v es)=db n es ++ [{ key:=kvP k,val:=.int .i64 v,born:=n + es.length }]∧(c7 k v es).length=es.length + 1
 | [],n,_=>⟨rfl,rfl⟩
 | (a,x) :: r,n,h=>by
  unfold fD at h
  simp only [Bool.or_eq_false_iff] at h
  obtain ⟨h1,h2⟩:=uJ (v:=v) (n:=n + 1) h.2
  unfold c7
  rw [h.1,cond_false]
  refine ⟨?_,by simp [h2]⟩
  show _ :: db (n + 1) (c7 k v r)=_
  rw [h1,show n + (((a,x) :: r).length)=n + 1 + r.length by simp;omega]
  rfl
theorem qs {k:PK} {v:Int}:∀ {es:List (PK × Int)} {n:Nat},fD k es=true→db n (c7 k v es)=(db n es).modify (dL k es) (fun e=>{ e with val:=.int .i64 v })∧(c7 k v es).length=es.length∧(∃ e,(db n es)[dL k es]? = some e∧e.key=kvP k∧e.val = .int .i64 (bI k es)∧e.born=n + dL k es)
 | [],_,h=>by cases h
 | (a,x) :: r,n,h=>by
  unfold fD at h
  unfold c7 dL bI
  cases hq:decide (k=a) with
  | true=>
   have:=of_decide_eq_true hq
   subst this
   exact ⟨by simp [db],by simp,_,rfl,rfl,rfl,by simp⟩
  | false=>
   rw [hq] at h
   obtain ⟨h1,h2,e,h3,h4,h5,h6⟩:=qs (v:=v) (n:=n + 1) (k:=k) (es:=r) (by simpa using h)
   simp only [cond_false]
   refine ⟨?_,by simp [h2],e,by simpa [db] using h3,h4,h5,by omega⟩
   show _ :: db (n + 1) (c7 k v r)=_
   rw [h1]
   simp [db,List.modify_succ_cons]
section
variable {P:Program} {w:World} {kt:TypeId}
theorem pI (h:v9 P kt [.i64,.i64]=true) (k a:PK):(Op.equal kt (kvP k) (kvP a)).run P w = .ok (decide (k=a)) w:=by
 unfold v9 at h
 split at h
 ·rename_i fs hu
  simp only [Bool.and_eq_true,Bool.not_eq_true'] at h
  obtain ⟨⟨h1,h2⟩,h3⟩:=h
  have hf:P.fieldsOf kt=fs:=by unfold Program.fieldsOf;rw [hu]
  have hrun:=run_equalIn_struct (P:=P) w 9999 kt (List.zipWith Value.int [.i64,.i64] [k.1,k.2]).toArray (List.zipWith Value.int [.i64,.i64] [a.1,a.2]).toArray (by rw [hf];exact hu) h1
  have he:=iD (P:=P) (w:=w) (d:=9998) fs.toList [.i64,.i64] 0 [k.1,k.2] [a.1,a.2] (List.zipWith Value.int [.i64,.i64] [k.1,k.2]) (List.zipWith Value.int [.i64,.i64] [a.1,a.2]) h3 rfl rfl rfl rfl
  rw [hf,he] at hrun
  have e:decide ([k.1,k.2]=[a.1,a.2])=decide (k=a):=by
   obtain ⟨k1,k2⟩:=k
   obtain ⟨a1,a2⟩:=a
   rw [Bool.eq_iff_iff]
   simp
  rw [e] at hrun
  exact hrun
 ·cases h
theorem qS (h:v9 P kt [.i64,.i64]=true) (k:PK):∀ (es:List (PK × Int)) (n i:Nat),(Instr.findAsking kt (kvP k) (db n es) i).run P w = .ok (bif fD k es then some (i + dL k es,.int .i64 (bI k es)) else none) w
 | [],n,i=>rfl
 | (a,x) :: r,n,i=>by
  unfold db Instr.findAsking fD dL bI
  simp only [Sem.run_bind,pI h k a,Result.andThen_ok]
  cases hq:decide (k=a) with
  | true=>simp
  | false=>
   simp only [Bool.false_eq_true,if_false,Bool.false_or,cond_false]
   rw [qS h k r (n + 1) (i + 1)]
   cases fD k r<;>simp [Nat.add_assoc,Nat.add_comm 1]
theorem mn (h:v9 P kt [.i64,.i64]=true) (k:PK) (es:List (PK × Int)) (n:Nat):(Instr.findKey kt (kvP k) (db n es)).run P w = .ok (bif fD k es then some (dL k es,.int .i64 (bI k es)) else none) w:=by
 have hs:(match P.underlying kt with | some (.array _ _) | some (.struct _)=>true | _=>false)=true:=by
  unfold v9 at h
  split at h
  ·rename_i fs hu;rw [hu]
  ·cases h
 have:=qS (w:=w) h k es n 0
 rw [run_findKey_eq w hs,this]
 simp
theorem kY {f1 f2:Field} (hu:P.underlying kt=some (.struct #[f1,f2])) (n1:f1.name ≠ "_") (n2:f2.name ≠ "_") (o1:f1.offset=0) (o2:f2.offset=1) (t1:P.underlying f1.type=some (.int .i64)) (t2:P.underlying f2.type=some (.int .i64)) (em:Bool) (k:PK) :
  (Instr.checkKey em 10000 kt (kvP k)).run P w = .ok () w:=by
 have key:∀ n:Nat,(Instr.checkKey em (n + 1 + 1) kt (kvP k)).run P w = .ok () w:=fun n=>by
  have hp1:=gu (w:=w) t1 (vs:=#[.int .i64 k.1,.int .i64 k.2]) (off:=0) (v:=.int .i64 k.1) rfl
  have hp2:=gu (w:=w) t2 (vs:=#[.int .i64 k.1,.int .i64 k.2]) (off:=1) (v:=.int .i64 k.2) rfl
  have hc:∀ (t:TypeId) (x:Value),P.underlying t=some (.int .i64)→(Instr.checkKey em (n + 1) t x).run P w = .ok () w:=fun t x ht=>by
   simp [Instr.checkKey,run_underlying ht]
  unfold Instr.checkKey kvP
  simp [run_underlying hu,n1,n2,o1,o2,hp1,hp2,hc _ _ t1,hc _ _ t2]
 exact key 9998
theorem yq (k:PK):(Instr.keyThatStays (kvP k) (kvP k)).run P w = .ok (kvP k) w:=by
 have:Instr.sameBits (9999 + 1) (kvP k) (kvP k)=true:=by
  simp [Instr.sameBits,kvP]
 simp [Instr.keyThatStays,this]
end
structure Fh (P:Program) (t kt vt:TypeId):Prop where
 map:P.underlying t=some (.map kt vt)
 eq:v9 P kt [.i64,.i64]=true
 key:∃ f1 f2,P.underlying kt=some (.struct #[f1,f2])∧f1.name ≠ "_" ∧ f2.name ≠ "_" ∧ f1.offset=0∧f2.offset=1∧P.underlying f1.type=some (.int .i64)∧P.underlying f2.type=some (.int .i64)
 zero:∃ i,P.info? vt=some i∧i.zero=some (.int .i64 0)
section
variable {P:Program} {t kt vt:TypeId} {o:Oper} {a:Act} {w:World} {K:Act→World→Prop} {Q:Exit→Act→World→Prop} {x y:Operand} {b:Nat} {k:PK} {es:List (PK × Int)}
def iN (w:World) (b:Nat) (es:List (PK × Int)):Prop:=w.heap[b]? = some (.map (db 0 es).toArray es.length)
theorem kg (M:Fh P t kt vt) (ho:o.op = .lookup t x y false) (hx:a.eval x = .map (some b)) (hy:a.eval y=kvP k) (hb:iN w b es) (hk:K (a.put o.dst (.int .i64 (bI k es))) w):o.wp P a w K Q:=by
 obtain ⟨f1,f2,hu,n1,n2,o1,o2,t1,t2⟩:=M.key
 obtain ⟨i,hi,hz⟩:=M.zero
 have hc:=fun em=>kY (w:=w) hu n1 n2 o1 o2 t1 t2 em k
 have hf:=mn (w:=w) M.eq k es 0
 refine aG (v:=.int .i64 (bI k es)) (w':=w) ?_ hk
 cases h:fD k es with
 | true=>
  rw [h,cond_true] at hf
  simp [execOp,ho,Instr.lookup,run_underlying M.map,hx,hy,bK hb,hc,hf]
 | false=>
  rw [h,cond_false] at hf
  rw [(oM h).2]
  simp [execOp,ho,Instr.lookup,run_underlying M.map,hx,hy,bK hb,hc,hf,zeroValue,typeInfo,hi,hz]
theorem qb (M:Fh P t kt vt) (ho:o.op = .mapEntry t x y) (hx:a.eval x = .map (some b)) (hy:a.eval y=kvP k) (hb:iN w b es)
  (hk:∀ w',iN w' b (c7 k (bI k es) es)→w.grownBy w' (some b)→w'.heap.size=w.heap.size→K (a.put o.dst (.tuple #[.int .i64 (bI k es),.int .i64 (dL k es)])) w'):o.wp P a w K Q:=by
 obtain ⟨f1,f2,hu,n1,n2,o1,o2,t1,t2⟩:=M.key
 obtain ⟨i,hi,hz⟩:=M.zero
 have hc:=kY (w:=w) hu n1 n2 o1 o2 t1 t2 false k
 have hf:=mn (w:=w) M.eq k es 0
 have hgo:∀ ents':Array MapEntry,ents' = (db 0 (c7 k (bI k es) es)).toArray→(execOp a.eval o).run P w = .ok (.value (.tuple #[.int .i64 (bI k es),.int .i64 (dL k es)])) { w with heap:=w.heap.setIfInBounds b (.map ents' (c7 k (bI k es) es).length) }→o.wp P a w K Q:=by
  intro ents' he hrun
  subst he
  exact aG hrun (hk _ (heap_set hb) (gF w b _) (by simp))
 cases h:fD k es with
 | true=>
  rw [h,cond_true] at hf
  obtain ⟨p1,p2,e,p3,p4,p5,p6⟩:=qs (v:=bI k es) (n:=0) h
  have hst:=yq (P:=P) (w:=w) k
  have hge:(db 0 es).toArray[dL k es]? = some e:=by simpa using p3
  refine hgo ((db 0 es).toArray.modify (dL k es) fun e=>{ e with key:=kvP k }) ?_ ?_
  ·rw [p1]
   apply Array.ext'
   simp only [Array.toList_modify]
   apply List.ext_getElem?
   intro j
   simp only [List.getElem?_modify]
   by_cases hj:dL k es=j
   ·subst hj
    rw [p3]
    simp only [if_true,Option.map_some]
    rw [← p4,← p5]
    rfl
   ·simp [hj]
  ·rw [p2]
   simp [execOp,ho,Instr.mapEntry,run_underlying M.map,hx,hy,bK hb,hc,hf,p3,p4,p6,hst,cZ _ hb,goInt]
 | false=>
  rw [h,cond_false] at hf
  obtain ⟨p1,p2⟩:=uJ (v:=bI k es) (n:=0) h
  obtain ⟨q1,q2⟩:=oM h
  refine hgo ((db 0 es).toArray.push { key:=kvP k,val:=.int .i64 0,born:=es.length }) ?_ ?_
  ·rw [p1,q2]
   apply Array.ext'
   simp
  ·rw [p2,q1,q2]
   simp [execOp,ho,Instr.mapEntry,run_underlying M.map,hx,hy,bK hb,hc,hf,zeroValue,typeInfo,hi,hz,cZ _ hb,goInt]
theorem kj {k:PK} {u v:Int}:∀ {es:List (PK × Int)},c7 k v (c7 k u es)=c7 k v es∧fD k (c7 k u es)=true∧dL k (c7 k u es)=dL k es∧bI k (c7 k u es)=u
 | []=>by simp [c7,fD,dL,bI]
 | (a,x) :: r=>by
  obtain ⟨h1,h2,h3,h4⟩:=kj (k:=k) (u:=u) (v:=v) (es:=r)
  have e:c7 k u ((a,x) :: r)=bif decide (k=a) then (a,u) :: r else (a,x) :: c7 k u r:=rfl
  rw [e]
  cases hq:decide (k=a) with
  | true=>simp [c7,fD,dL,bI,hq]
  | false=>simp [c7,fD,dL,bI,hq,h1,h2,h3,h4]
theorem yw (M:Fh P t kt vt) {z:Operand} {v:Int} {kd:IntKind} (ho:o.op = .entryStore t x y z) (hx:a.eval x = .map (some b)) (hy:a.eval y = .int kd (dL k es:Nat)) (hz:a.eval z = .int .i64 v) (hh:fD k es=true) (hb:iN w b es)
  (hk:∀ w',iN w' b (c7 k v es)→w.grownBy w' (some b)→w'.heap.size=w.heap.size→K (a.put o.dst undef) w'):o.wp P a w K Q:=by
 obtain ⟨p1,p2,e,p3,p4,p5,p6⟩:=qs (v:=v) (n:=0) hh
 have hfi:(db 0 es).toArray.findIdx? (fun e=>(e.born:Int) == ((dL k es:Nat):Int))=some (dL k es):=by
  have key:∀ (l:List (PK × Int)) (n j:Nat),j < l.length→(db n l).findIdx? (fun e=>(e.born:Int) == ((n + j:Nat):Int))=some j:=by
   intro l
   induction l with
   | nil=>intro n j h;simp at h
   | cons p r ih=>
    intro n j h
    obtain ⟨q,x⟩:=p
    cases j with
    | zero=>simp [db,List.findIdx?_cons]
    | succ j=>
     have hne:((n:Int) == ((n + (j + 1):Nat):Int))=false:=by simp;omega
     have:=ih (n + 1) j (by simpa using h)
     rw [show n + 1 + j=n + (j + 1) by omega] at this
     simp only [db,List.findIdx?_cons,hne,this]
     rfl
  have:=key es 0 (dL k es) (zx hh)
  rw [Nat.zero_add] at this
  rw [← this]
  simp
 have hm:(db 0 es).toArray.modify (dL k es) (fun e=>{ e with val:=.int .i64 v })=(db 0 (c7 k v es)).toArray:=by
  rw [p1]
  apply Array.ext'
  simp
 refine gH (w':={ w with heap:=w.heap.setIfInBounds b (.map (db 0 (c7 k v es)).toArray es.length) }) ?_ (hk _ (by unfold iN;rw [p2];exact heap_set hb) (gF w b _) (by simp))
 simp [execOp,ho,Instr.entryStore,hx,hy,hz,bK hb,asInt,asIntOf,hfi,cZ _ hb,hm]
end
end Go.Den

namespace Go.Mat
open Go Go.Den Go.Proofs
noncomputable def KW:Ctx:=(mkC PR bM aK aL aC aq aq).panics fun _ _=>False
noncomputable def cpC:Code:=bh Tryz.f47
noncomputable def cp2:Array Oper:=ax (piece cpC [1,1,0,0])
noncomputable def cp3:Array Oper:=ax (piece cpC [1,1,0,1,0,0,0])
noncomputable def cp4:Array Oper:=ax (piece cpC [1,1,0,1,0,0,1,1,0,0,0])
noncomputable def cp5:Array Oper:=ax (piece cpC [1,1,0,1,0,0,1,1,0,0,1])
noncomputable def cp6:Array Oper:=ax (piece cpC [1,1,0,1,0,0,1,1,1])
theorem DZ (k:KSt) (T:U):(ak KW cp2.toList cp2.toList ⟨[(1,.rptr [TRC] [T])],[]⟩ k)=(k (St.mk [(9,vi (U.i 0)),(8,vi (U.i (↑(List.length (U.list (nth (U.i 0) (List.drop (0:Nat) [T]) (0:Nat)))):Int))),(7,SV.val (Ct.sl false [Ct.sl true [.int .i64,.int .i64,.int .i64,.int .i64,
 .int .u32]]) (nth (U.i 0) (List.drop (0:Nat) [T]) (0:Nat))),(6,SV.rptr [Ct.sl false [Ct.sl true [.int .i64,.int .i64,.int .i64,.int .i64,.int .u32]]] [T]),(1,SV.rptr [Ct.sl false [Ct.sl true
 [.int .i64,.int .i64,.int .i64,.int .i64,.int .u32]]] [T])] [])):=by kernel_rfl
theorem En (k:KSt) (i n:U):(ak KW cp3.toList cp3.toList ⟨[(9,vi i),(8,vi n)],[]⟩ k)=(k (St.mk [(10,SV.val Ct.bool (U.b (decide (i.int < n.int)))),(9,vi i),(8,vi n)] [])):=by kernel_rfl
theorem DM (k:KSt) (i T:U):(ak KW cp4.toList cp4.toList ⟨[(9,vi i),(7,.val TRC T)],[]⟩ k)=(bif decide ((0:Int)≤i.int∧i.int < (↑(List.length T.list):Int)) then k (St.mk [(5,SV.val (Ct.sl true [.int .i64,.int .i64,.int .i64,.int .i64,.int .u32]) (nth (U.i 0) T.list (Int.toNat i.int))),
 (12,SV.val (Ct.sl true [.int .i64,.int .i64,.int .i64,.int .i64,.int .u32]) (nth (U.i 0) T.list (Int.toNat i.int))),(11,SV.rptr [Ct.sl true [.int .i64,.int .i64,.int .i64,.int .i64,.int .u32]]
 [nth (U.i 0) T.list (Int.toNat i.int)]),(9,vi i),(7,SV.val (Ct.sl false [Ct.sl true [.int .i64,.int .i64,.int .i64,.int .i64,.int .u32]]) T)] []) else False):=by kernel_rfl
theorem Dj (k:KSt) (i:U):(ak KW cp6.toList cp6.toList ⟨[(9,vi i)],[]⟩ k)=(k (St.mk [(9,vi (U.i (IntKind.wrap IntKind.i64 (i.int + 1)))),(20,vi (U.i (IntKind.wrap IntKind.i64 (i.int + 1)))),(9,vi i)] [])):=by kernel_rfl
end Go.Mat

namespace Go.Mat
open Go Go.Den Go.Proofs Go.RowKit
set_option maxRecDepth 100000
theorem bx:KW.Ok:=(aB ao af .nil .nil).panics _
theorem fl:∀ s σ,¬ KW.pan s σ:=fun _ _ h=>h
abbrev eX:(Nat→Prop)→World→Value→List Value→List U→Prop:=cN 46 47 EC
abbrev gY (w:World) (v:Value) (u:U):Prop:=fe w 46 EC v u
theorem uT:PR.underlying 22=some (.slice 47):=by kernel_rfl
theorem cR:Cs PR 47=some (false,[.sl true EC]):=by kernel_rfl
theorem cE:Cs PR 46=some (true,EC):=by kernel_rfl
theorem smR:bE PR 47=true:=by kernel_rfl
theorem szT:cI PR 22=some 1:=by kernel_rfl
theorem szA:cI PR 24=some 1:=by kernel_rfl
theorem uTb:∃ d,PR.underlying 24=some d∧pj d=true:=⟨(PR.underlying 24).getD .bool,by kernel_rfl,by kernel_rfl⟩
theorem fdT:∃ fd,ep PR 24 0=some fd∧fd.offset=0∧cI PR fd.type=some (0 + 1):=⟨(ep PR 24 0).getD default,by kernel_rfl,by kernel_rfl,by kernel_rfl⟩
theorem zT:∃ i z,PR.info? 24=some i∧i.zero=some z∧z.cells = #[.slice none 0 0]:=
 ⟨(PR.info? 24).getD default,((PR.info? 24).getD default).zero.getD default,by kernel_rfl,by kernel_rfl,by kernel_rfl⟩
theorem EK {G:Nat→Value} {w w':World} (h:Fut (bH G []) w w'):Fut (fun _=>False) w w':=⟨h.os,h.tape,h.output,h.size,fun k hk _=>h.block k hk fun ⟨_,_,h,_⟩=>by cases h⟩
theorem cK {w w':World} {r:Option Nat} {M:Nat→Prop} (g:w.grownBy w' r) (h:∀ b,r=some b→M b):Fut M w w':=⟨g.os,g.tape,g.output,g.size,fun k hk hn=>g.block k hk fun e=>hn (h k e.symm)⟩
theorem BT {w w':World} {Z M:Nat→Prop} (F:Fut M w w') (hZ:∀ b,Z b→b < w.heap.size) (hM:∀ b,Z b→¬ M b):Stays w w' Z Z:=⟨fun _ h=>h,fun b hb=>F.block b (hZ b hb) (hM b hb)⟩
theorem Ar {w:World} {Z:Nat→Prop} {rv:Value} {row:U} (hrv:aR w Z (.sl true EC) rv row) (hZ:∀ b,Z b→b < w.heap.size) (hrow:row.list.length≤1073741824) :
  Calls PR 69 #[rv] w fun e w'=>∃ r,e = .returned r∧Fut (fun _=>False) w w'∧gY w' r row∧∀ b,r.ownBlock=some b→w.heap.size≤b:=by
 have hf:PR.funcs[(69:Nat)]? = some Tryz.f69:=by kernel_rfl
 have main:=(Il _ hf).calls [.val (.sl true EC) row] [] (fun out objs=>out = .ret [.own 2097152]∧objs=[(2097152,.arr 46 row.list)]) rfl ⟨⟨rfl,hrow⟩,rfl,rfl⟩ w Z (fun _=>.pointer none) [rv] ⟨rv,[],rfl,hrv,rfl⟩
  {lt:=hZ,flat:=fun _=>rfl,obj:=fun _ _ h=>(by cases h),sep:=fun _ _ _ _ _ h=>(by cases h),free:=fun _ _ _ h=>(by cases h) }
 refine main.mono ?_
 rintro e w' ⟨out,objs',Z',G',⟨rfl,rfl⟩,⟨v,rfl,hv⟩,A⟩
 have hv:v=G' 2097152:=hv
 subst hv
 obtain ⟨m,cs,vs,h1,h2,h3⟩:=A.stand.obj 2097152 (.arr 46 row.list) rfl
 rw [cE] at h1
 cases h1
 refine ⟨_,rfl,EK A.fut,⟨vs,h2,ah.scal rfl h3⟩,fun b hb=>?_⟩
 rcases A.own 2097152 _ b rfl (by rw [dk h2];exact hb) with ⟨_,_,h,_⟩ | h
 ·cases h
 ·exact h
structure P5 (a0:Act) (B:Nat) (rv:Value) (a:Act):Prop where
 size:a.tmps.size=22
 calm:a.defers=a0.defers
 e13:a.eval (.tmp 13) = .pointer (some ⟨B,0,none⟩)
 e15:a.eval (.tmp 15)=rv
 low:∀ t:Nat,t < 13→a.eval (.tmp t)=a0.eval (.tmp t)
theorem P5.put {a0 a:Act} {B:Nat} {rv:Value} (h:P5 a0 B rv a) {d:Nat} {v:Value} (hd:d < 22) (h0:13 < d) (h1:d≠15):P5 a0 B rv (a.put (some d) v):=by
 have hs:d < a.tmps.size:=by rw [h.size];exact hd
 exact ⟨by rw [size_put];exact h.size,by rw [aP];exact h.calm,by rw [aJ hs,if_neg (show ¬ d=13 by omega)];exact h.e13,by rw [aJ hs,if_neg h1];exact h.e15,  fun t ht=>by rw [aJ hs,if_neg (show ¬ d=t by omega)];exact h.low t ht⟩
noncomputable def cpO (i:Nat):Oper:=(cp5[i]?).getD default
theorem Dh:(∀ i,i < 8→cp5[i]? = some (cpO i))∧(∀ i,i < 8→(cpO i).guard=none):=by
 have hs:cp5.size=8:=by kernel_rfl
 have hg:cp5.toList.all (fun o=>o.guard.isNone)=true:=by kernel_rfl
 have key:∀ i,i < 8→∃ h:i < cp5.size,cp5[i]? = some cp5[i]∧cpO i=cp5[i]:=fun i hi=>by
  have h:i < cp5.size:=by rw [hs];exact hi
  have h2:=Array.getElem?_eq_getElem h
  exact ⟨h,h2,by unfold cpO;rw [h2];rfl⟩
 refine ⟨fun i hi=>?_,fun i hi=>?_⟩<;>obtain ⟨h,h1,h2⟩:=key i hi
 ·rw [h1,h2]
 ·rw [h2]
  exact Option.isNone_iff_eq_none.1 (List.all_eq_true.1 hg _ (Array.getElem_mem_toList h))
theorem I1 {a:Act} {w:World} {B:Nat} {vo rv:Value} {rows:List Value} {xs:List U} {row:U} {F Z:Nat→Prop} (hs:a.tmps.size=22) (h3:a.eval (.tmp 3) = .pointer (some ⟨B,0,none⟩)) (h5:a.eval (.tmp 5)=rv) (hrv:aR w Z (.sl true EC) rv row) (hZ:∀ b,Z b→b < w.heap.size)
  (hrow:row.list.length≤1048576) (hB:w.heap[B]? = some (.cells #[vo] 24 (0,0))) (D:eX F w vo rows xs) (hF:∀ b,F b→b≠B) (hF2:∀ b,w.heap.size≤b→F b) (hlen:xs.length < 1048576) :
  (Code.region (av (piece cpC [1,1,0,1,0,0,1,1,0,0,1])) cp5 true).wp PR (fun e a' w'=>e = .normal∧∃ vo' rows',w'.heap[B]? = some (.cells #[vo'] 24 (0,0))∧eX F w' vo' rows' (xs ++ [row])∧a'.tmps.size=22∧a'.defers=a.defers∧
    (∀ t:Nat,t < 13→a'.eval (.tmp t)=a.eval (.tmp t))∧Fut (fun b=>b=B∨F b) w w') a w:=by
 obtain ⟨fd,f1,f2,f3⟩:=fdT
 have hBlt:B < w.heap.size:=(Array.getElem?_eq_some_iff.1 hB).1
 have at_:=Dh.1
 have gd:=Dh.2
 refine wp_region_any af ?_
 rw [show cp5.size=8 by kernel_rfl]
 generalize hw0:({ w with drawn:=w.drawn + 1 }:World)=w0
 have h0:w0.heap=w.heap:=by rw [← hw0]
 have F0:Fut (fun b=>b=B∨F b) w w0:=by rw [← hw0];exact ⟨rfl,rfl,rfl,Nat.le_refl _,fun _ _ _=>rfl⟩
 have hrv0:aR w0 Z (.sl true EC) rv row:=aR.mono ⟨fun _ h=>h,fun b _=>by rw [h0]⟩ _ _ _ hrv
 have D0:eX F w0 vo rows xs:=D.same fun b _ _=>by rw [h0]
 have hB0:w0.heap[B]? = some (.cells #[vo] 24 (0,0)):=by rw [h0];exact hB
 have hZ0:∀ b,Z b→b < w0.heap.size:=fun b hb=>by rw [h0];exact hZ b hb
 clear hrv D hB hZ hw0
 have hBlt0:B < w0.heap.size:=by rw [h0];exact hBlt
 refine wpAny_take (i:=0) (oi:=cpO 0) (v:=.pointer (some ⟨B,0,none⟩)) (at_ 0 (by decide)) (by kernel_rfl) (by kernel_rfl) (by kernel_rfl) (fun _ _ _ h=>by cases h.1) (fI (gd 0 (by decide)) fun w=>?_) ?_
 ·have:=iG (P:=PR) (o:=cpO 0) (a:=a) (x:=.tmp 3) (s:=24) (f:=0) (by kernel_rfl) f1 f3 h3 w
  rw [f2] at this;exact this
 refine wpAny_take (i:=2) (oi:=cpO 2) (v:=rv) (at_ 2 (by decide)) (by kernel_rfl) (by kernel_rfl) (by kernel_rfl) (fun _ _ _ h=>by cases h.1) (fI (gd 2 (by decide)) fun w=>?_) ?_
 ·have:=run_move (P:=PR) (o:=cpO 2) (a:=a.put (cpO 0).dst (.pointer (some ⟨B,0,none⟩))) (x:=.tmp 5) (by kernel_rfl) w
  rw [this,show (cpO 0).dst=some 13 by kernel_rfl,aJ (by omega),if_neg (by decide),h5]
 rw [show (cpO 0).dst=some 13 by kernel_rfl,show (cpO 2).dst=some 15 by kernel_rfl]
 generalize ha1:(a.put (some 13) (.pointer (some ⟨B,0,none⟩))).put (some 15) rv=a1
 have A1:P5 a B rv a1:=by
  rw [← ha1]
  refine ⟨by simp [size_put,hs],by simp [aP],?_,?_,fun t ht=>?_⟩
  ·simp [aJ,size_put,hs]
  ·simp [aJ,size_put,hs]
  ·rw [aJ (by simp [size_put,hs]),if_neg (show ¬ 15=t by omega),aJ (by simp [hs]),if_neg (show ¬ 13=t by omega)]
 clear ha1
 have ld1:∀ (K:Act→World→Prop) (a2:Act) (w2:World),P5 a B rv a2→w2.heap[B]? = some (.cells #[vo] 24 (0,0))→K (a2.put (some 14) vo) w2→wpOp PR cp5 (fun e a' w'=>e = .normal∧∃ vo' rows',w'.heap[B]? = some (.cells #[vo'] 24 (0,0))∧eX F w' vo' rows' (xs ++ [row])∧a'.tmps.size=22∧a'.defers=a.defers∧
   (∀ t:Nat,t < 13→a'.eval (.tmp t)=a.eval (.tmp t))∧Fut (fun b=>b=B∨F b) w w') 1 K a2 w2:=fun K a2 w2 A hb hk=>
  cB (at_ 1 (by decide)) (gd 1 (by decide)) (fp uT rfl (by kernel_rfl) A.e13 (bP hb) (by rw [show (cpO 1).dst=some 14 by kernel_rfl];exact hk))
 have cl3:∀ (K:Act→World→Prop) (a2:Act) (w2:World),P5 a B rv a2→aR w2 Z (.sl true EC) rv row→(∀ b,Z b→b < w2.heap.size)→(∀ r w3,Fut (fun _=>False) w2 w3→gY w3 r row→(∀ b,r.ownBlock=some b→w2.heap.size≤b)→K (a2.put (some 16) r) w3)→wpOp PR cp5 (fun e a' w'=>e = .normal∧∃ vo' rows',w'.heap[B]? = some (.cells #[vo'] 24 (0,0))∧eX F w' vo' rows' (xs ++ [row])∧a'.tmps.size=22∧a'.defers=a.defers∧
   (∀ t:Nat,t < 13→a'.eval (.tmp t)=a.eval (.tmp t))∧Fut (fun b=>b=B∨F b) w w') 3 K a2 w2:=fun K a2 w2 A hr hz hk=>by
  have hf:PR.funcs[(69:Nat)]? = some Tryz.f69:=by kernel_rfl
  refine cB (at_ 3 (by decide)) (gd 3 (by decide)) (yG (args:=#[.tmp 15]) (ts:=#[47]) (by kernel_rfl) hf (by kernel_rfl) (by kernel_rfl) ?_)
  have hl:(List.map a2.eval #[Operand.tmp 15].toList).toArray = #[rv]:=by simp [A.e15]
  rw [hl,show (cpO 3).dst=some 16 by kernel_rfl]
  exact (Ar hr hz (by omega)).mono fun e w3 ⟨r,he,h1,h2,h3⟩=>⟨r,he,hk r w3 h1 h2 h3⟩
 have bs4:∀ (K:Act→World→Prop) (a2:Act) (w2:World) (r:Value),P5 a B rv a2→a2.eval (.tmp 16)=r→r.oneCell' = true→K (a2.put (some 17) (.slice (some ⟨w2.heap.size,0,none⟩) 1 1)) (w2.alloc (.cells #[r] 47))→wpOp PR cp5 (fun e a' w'=>e = .normal∧∃ vo' rows',w'.heap[B]? = some (.cells #[vo'] 24 (0,0))∧eX F w' vo' rows' (xs ++ [row])∧a'.tmps.size=22∧a'.defers=a.defers∧
   (∀ t:Nat,t < 13→a'.eval (.tmp t)=a.eval (.tmp t))∧Fut (fun b=>b=B∨F b) w w') 4 K a2 w2:=fun K a2 w2 r A hr h1 hk=>
  cB (at_ 4 (by decide)) (gd 4 (by decide)) (su uT cR smR (by kernel_rfl) hr h1 (by rw [show (cpO 4).dst=some 17 by kernel_rfl];exact hk))
 have fin:∀ (l:Array Bool) (a2:Act) (w2:World) (r:Value) (bs:Nat),l = #[true,true,true,true,true,false,false,false]→P5 a B rv a2→a2.eval (.tmp 14)=vo→a2.eval (.tmp 17) = .slice (some ⟨bs,0,none⟩) 1 1→w2.cell? ⟨bs,0,none⟩=some r→gY w2 r row→(∀ b,r.ownBlock=some b→w0.heap.size≤b)→Fut (fun _=>False) w0 w2→
   wpAny PR .any cp5 (fun e a' w'=>e = .normal∧∃ vo' rows',w'.heap[B]? = some (.cells #[vo'] 24 (0,0))∧eX F w' vo' rows' (xs ++ [row])∧a'.tmps.size=22∧a'.defers=a.defers∧
   (∀ t:Nat,t < 13→a'.eval (.tmp t)=a.eval (.tmp t))∧Fut (fun b=>b=B∨F b) w w') 3 l a2 w2:=by
  intro l a2 w2 r bs hl A e14 e17 hbs hr hfr F2
  subst hl
  have D2:eX F w2 vo rows xs:=D0.same fun b _ hb=>F2.block b hb id
  have hB2:w2.heap[B]? = some (.cells #[vo] 24 (0,0)):=(F2.block B hBlt0 id).trans hB0
  refine wpAny_all (rs:=[5]) (by kernel_rfl) (by decide) fun i hi=>?_
  have hi:i=5:=by simpa using hi
  subst hi
  refine cB (at_ 5 (by decide)) (gd 5 (by decide)) (tf (F:=F) (x:=.tmp 14) (y:=.tmp 17) uT cR smR (by kernel_rfl) e14 e17 hbs D2 hr (fun b hb=>?_) (hF2 _ (by have:=F2.size;rw [h0] at this;exact this)) (by unfold room;omega) ?_)
  ·have hge:=hfr b hb
   refine ⟨hF2 b (by rw [← h0];exact hge),fun e=>?_,fun j r' hj hb'=>?_⟩
   ·have:=(D0.own.lt b e).2;omega
   ·have:=(D0.row j r' hj).lt hb';omega
  ·intro vo' w3 D3 g3
   have F3:=F2.trans (cK (M:=F) g3 fun b hb=>D2.home b hb) (N:=F) (fun _ h=>h.elim) (fun b _ h=>h)
   have hB3:w3.heap[B]? = some (.cells #[vo] 24 (0,0)):=(F3.block B hBlt0 (fun h=>hF B h rfl)).trans hB0
   rw [show (cpO 5).dst=some 18 by kernel_rfl]
   have A3:=A.put (d:=18) (v:=vo') (by decide) (by decide) (by decide)
   refine wpAny_all (rs:=[6]) (by kernel_rfl) (by decide) fun i hi=>?_
   have hi:i=6:=by simpa using hi
   subst hi
   refine cB (at_ 6 (by decide)) (gd 6 (by decide)) (bn (x:=.tmp 3) (s:=24) (f:=0) (by kernel_rfl) f1 f3 (by rw [A3.low 3 (by decide)];exact h3) ?_)
   rw [f2,Nat.zero_add,show (cpO 6).dst=some 19 by kernel_rfl]
   have A4:=A3.put (d:=19) (v:=.pointer (some ⟨B,0,none⟩)) (by decide) (by decide) (by decide)
   refine wpAny_all (rs:=[7]) (by kernel_rfl) (by decide) fun i hi=>?_
   have hi:i=7:=by simpa using hi
   subst hi
   refine cB (at_ 7 (by decide)) (gd 7 (by decide)) (eW (x:=.tmp 19) (y:=.tmp 18) (v:=vo') szT (by kernel_rfl) (by rw [aJ (by rw [A3.size];decide),if_pos rfl]) (by rw [aJ (by rw [A3.size];decide),if_neg (by decide),aJ (by rw [A.size];decide),if_pos rfl]) (cr (dx D3.own)) (dx D3.own) rfl hB3 ?_)
   intro w4 hB4 g4 _
   rw [show (cpO 7).dst=none by kernel_rfl]
   refine wpAny_done (by kernel_rfl) ⟨rfl,vo',_,hB4,D3.same fun b hb hlt=>g4.block b hlt fun e=>?_,A4.size,A4.calm,A4.low,?_⟩ 0
   ·cases e;exact hF _ hb rfl
   ·exact F0.trans ((F3.trans (cK (M:=fun b=>b=B) g4 fun b e=>by cases e;rfl) (N:=fun b=>b=B∨F b) (fun _ h=>.inr h) (fun b _ h=>.inl h))) (fun _ h=>h) (fun b _ h=>h)
 have nodup:∀ {w2:World} {r:Value},gY w2 r row→gY (w2.alloc (.cells #[r] 47)) r row:=fun h=>h.same fun g hg=>heap_alloc_old _ _ (h.lt hg)
 have futA:∀ {w2:World} {r:Value},Fut (fun _=>False) w0 w2→Fut (fun _=>False) w0 (w2.alloc (.cells #[r] 47)):=fun h=>h.trans (cK (World.grownBy_alloc _ _ none) fun b e=>by cases e) (fun _ h=>h) (fun _ _ h=>h)
 have hBf:∀ {w2:World},Fut (fun _=>False) w0 w2→w2.heap[B]? = some (.cells #[vo] 24 (0,0)):=fun h=>(h.block B hBlt0 id).trans hB0
 have cellA:∀ (w2:World) (r:Value),(w2.alloc (.cells #[r] 47)).cell? ⟨w2.heap.size,0,none⟩=some r:=fun w2 r=>bP (heap_alloc_new w2 _)
 refine wpAny_all (rs:=[1,3]) (by kernel_rfl) (by decide) fun i hi=>?_
 rcases (by simpa using hi:i=1∨i=3) with rfl | rfl
 ·refine ld1 _ _ _ A1 hB0 ?_
  have A2:=A1.put (d:=14) (v:=vo) (by decide) (by decide) (by decide)
  refine wpAny_all (rs:=[3]) (by kernel_rfl) (by decide) fun i hi=>?_
  have hi:i=3:=by simpa using hi
  subst hi
  refine cl3 _ _ _ A2 hrv0 hZ0 fun r w3 F3 hr hfr=>?_
  have A3:=A2.put (d:=16) (v:=r) (by decide) (by decide) (by decide)
  refine wpAny_all (rs:=[4]) (by kernel_rfl) (by decide) fun i hi=>?_
  have hi:i=4:=by simpa using hi
  subst hi
  refine bs4 _ _ _ r A3 (by rw [aJ (by rw [A2.size];decide),if_pos rfl]) hr.one ?_
  have A4:=A3.put (d:=17) (v:=.slice (some ⟨w3.heap.size,0,none⟩) 1 1) (by decide) (by decide) (by decide)
  refine fin _ _ _ r w3.heap.size (by kernel_rfl) A4 ?_ (by rw [aJ (by rw [A3.size];decide),if_pos rfl]) (cellA _ _) (nodup hr) hfr (futA F3)
  rw [aJ (by rw [A3.size];decide),if_neg (by decide),aJ (by rw [A2.size];decide),if_neg (by decide),aJ (by rw [A1.size];decide),if_pos rfl]
 ·refine cl3 _ _ _ A1 hrv0 hZ0 fun r w3 F3 hr hfr=>?_
  have A3:=A1.put (d:=16) (v:=r) (by decide) (by decide) (by decide)
  refine wpAny_all (rs:=[1,4]) (by kernel_rfl) (by decide) fun i hi=>?_
  rcases (by simpa using hi:i=1∨i=4) with rfl | rfl
  ·refine ld1 _ _ _ A3 (hBf F3) ?_
   have A2:=A3.put (d:=14) (v:=vo) (by decide) (by decide) (by decide)
   refine wpAny_all (rs:=[4]) (by kernel_rfl) (by decide) fun i hi=>?_
   have hi:i=4:=by simpa using hi
   subst hi
   refine bs4 _ _ _ r A2 (by rw [aJ (by rw [A3.size];decide),if_neg (by decide),aJ (by rw [A1.size];decide),if_pos rfl]) hr.one ?_
   have A4:=A2.put (d:=17) (v:=.slice (some ⟨w3.heap.size,0,none⟩) 1 1) (by decide) (by decide) (by decide)
   refine fin _ _ _ r w3.heap.size (by kernel_rfl) A4 ?_ (by rw [aJ (by rw [A2.size];decide),if_pos rfl]) (cellA _ _) (nodup hr) hfr (futA F3)
   rw [aJ (by rw [A2.size];decide),if_neg (by decide),aJ (by rw [A3.size];decide),if_pos rfl]
  ·refine bs4 _ _ _ r A3 (by rw [aJ (by rw [A1.size];decide),if_pos rfl]) hr.one ?_
   have A4:=A3.put (d:=17) (v:=.slice (some ⟨w3.heap.size,0,none⟩) 1 1) (by decide) (by decide) (by decide)
   refine wpAny_all (rs:=[1]) (by kernel_rfl) (by decide) fun i hi=>?_
   have hi:i=1:=by simpa using hi
   subst hi
   refine ld1 _ _ _ A4 (hBf (futA F3)) ?_
   have A5:=A4.put (d:=14) (v:=vo) (by decide) (by decide) (by decide)
   refine fin _ _ _ r w3.heap.size (by kernel_rfl) A5 (by rw [aJ (by rw [A4.size];decide),if_pos rfl]) ?_ (cellA _ _) (nodup hr) hfr (futA F3)
   rw [aJ (by rw [A4.size];decide),if_neg (by decide),aJ (by rw [A3.size];decide),if_pos rfl]
end Go.Mat

namespace Go.Mat
open Go Go.Den Go.Proofs Go.RowKit
set_option maxRecDepth 100000
def sa (f:FuncId):Prop:=∀ (w:World) (Z:Nat→Prop) (v:Value) (T:U),aR w Z TRC v T→(∀ b,Z b→b < w.heap.size)→T.list.length≤1048576→(∀ j,j < T.list.length→(U.at T.list j).list.length≤1048576)→
 Calls PR f #[.agg #[v]] w fun e w'=>∃ v' rows,e = .returned (.agg #[v'])∧Fut (fun _=>False) w w'∧eX (fun b=>w.heap.size≤b) w' v' rows T.list
structure CpI (n:Nat) (w0:World) (base:Nat) (T:U) (j:Nat) (a:Act) (w:World):Prop where
 size:a.tmps.size=n
 calm:a.defers=[]
 e2:a.eval (.tmp 2) = .pointer (some ⟨w0.heap.size + 1,0,none⟩)
 e3:a.eval (.tmp 3) = .pointer (some ⟨w0.heap.size + 2,0,none⟩)
 b1:w.heap[w0.heap.size + 1]? = some (.cells #[.slice none 0 0] 24 (0,0))
 deep:∃ vo rows,w.heap[w0.heap.size + 2]? = some (.cells #[vo] 24 (0,0))∧eX (fun b=>base≤b) w vo rows (T.list.take j)
 fut:Fut (fun _=>False) w0 w
 floor:w0.heap.size + 3≤base
 top:base≤w.heap.size
theorem CpI.next {n:Nat} {w0:World} {base:Nat} {T:U} {j:Nat} {a a':Act} {w w':World} (h:CpI n w0 base T j a w) (hs:a'.tmps.size=n) (hd:a'.defers=a.defers) (h2:a'.eval (.tmp 2)=a.eval (.tmp 2)) (h3:a'.eval (.tmp 3)=a.eval (.tmp 3)) (F:Fut (fun _=>False) w w'):CpI n w0 base T j a' w':=by
 obtain ⟨vo,rows,hb,D⟩:=h.deep
 have hbl:=h.floor
 have ht:=h.top
 exact ⟨hs,hd.trans h.calm,h2.trans h.e2,h3.trans h.e3,(F.block _ (by omega) id).trans h.b1,⟨vo,rows,(F.block _ (by omega) id).trans hb,D.same fun b _ hb=>F.block b hb id⟩,h.fut.trans F (fun _ h=>h) (fun _ _ h=>h),h.floor,Nat.le_trans h.top F.size⟩
theorem bA {a a':Act} {ops:Array Oper} (h:∀ t,(∀ o ∈ ops.toList,o.dst≠some t)→a'.tmps.getD t undef=a.tmps.getD t undef) {t:Nat} (ht:ops.toList.all (fun o=>match o.dst with | some d=>!Nat.beq d t | none=>true)=true):a'.eval (.tmp t)=a.eval (.tmp t):=
 h t fun o ho e=>by
  have:=List.all_eq_true.1 ht o ho
  rw [e] at this
  simp at this
theorem eG:∀ {l:List U} {j:Nat} (h:j < l.length),U.at l j=l[j]
 | [],_,h=>by simp at h
 | _ :: _,0,_=>rfl
 | _ :: r,j + 1,h=>by simp only [aZ,List.getElem_cons_succ];exact eG (by simpa using h)
theorem FY:bh Tryz.f47 = .seq (.region (av (piece cpC [0])) (ax (piece cpC [0])) false) (.seq (.region (av (piece cpC [1,0])) (ax (piece cpC [1,0])) false) (.seq (.seq (.region (av (piece cpC [1,1,0,0])) cp2 false) (.block 0 (.loop (.seq (.region (av (piece cpC [1,1,0,1,0,0,0])) cp3 false)
  (.seq (.cond (.tmp 10) .skip (.exit 0)) (.seq (.block 1 (.seq (.region (av (piece cpC [1,1,0,1,0,0,1,1,0,0,0])) cp4 false) (.region (av (piece cpC [1,1,0,1,0,0,1,1,0,0,1])) cp5 true))) (.region (av (piece cpC [1,1,0,1,0,0,1,1,1])) cp6 false))))))) (.seq (piece cpC [1,1,1,0]) .ret))):=by kernel_rfl
theorem JA:cd (.region (av (piece cpC [0])) (ax (piece cpC [0])) false) [(some 1,.box 24 (.tmp 0)),(some 2,.alloc 24)]:=⟨_,_,rfl,by kernel_rfl,by kernel_rfl⟩
theorem Jo:cd (.region (av (piece cpC [1,0])) (ax (piece cpC [1,0])) false) [(some 3,.alloc 24)]:=⟨_,_,rfl,by kernel_rfl,by kernel_rfl⟩
theorem Jb:cd (piece cpC [1,1,1,0]) [(some 21,.load 24 (.tmp 3)),(none,.store 24 (.tmp 2) (.tmp 21))]:=⟨av (piece cpC [1,1,1,0]),ax (piece cpC [1,1,1,0]),by kernel_rfl,by kernel_rfl,by kernel_rfl⟩
theorem n5:sa 47:=by
 intro w0 Z v T hv hZ hT hrows
 have hf:PR.funcs[(47:Nat)]? = some Tryz.f47:=by kernel_rfl
 have hb:Tryz.f47.body=some (bh Tryz.f47):=by kernel_rfl
 have hnt:Tryz.f47.ntmps=22:=by kernel_rfl
 obtain ⟨iT,z,hi,hz,hzc⟩:=zT
 obtain ⟨dA,hdA,hagg⟩:=uTb
 refine calls_of_wp hf hb ?_
 rw [FY,hnt]
 generalize ha0:({ tmps:=#[Value.agg #[v]] ++ Array.replicate (22 - (#[Value.agg #[v]]:Array Value).size) undef,defers:=[] }:Act)=a0
 have a0s:a0.tmps.size=22:=by rw [← ha0];simp
 have a00:a0.eval (.tmp 0) = .agg #[v]:=by rw [← ha0];simp [Act.eval,Array.getD_eq_getD_getElem?]
 have a0d:a0.defers=[]:=by rw [← ha0]
 clear ha0
 have hv1:v.oneCell' = true:=hv.one
 refine wp_seq (bQ JA ?_)
 simp only [wpL]
 intro o hd ho
 refine np ho ?_
 rw [hd]
 clear hd ho o
 intro o hd ho
 refine gO ho hi hz ?_
 rw [hd,hzc]
 clear hd ho o
 refine wp_seq (bQ Jo ?_)
 simp only [wpL]
 intro o hd ho
 refine gO ho hi hz ?_
 rw [hd,hzc]
 clear hd ho o
 have hcells:(a0.eval (.tmp 0)).cells = #[v]:=by rw [a00];simp [Value.cells,cr hv1]
 rw [hcells]
 generalize hw1:w0.alloc (.cells #[v] 24)=w1
 generalize hw2:w1.alloc (.cells #[.slice none 0 0] 24)=w2
 generalize hw3:w2.alloc (.cells #[.slice none 0 0] 24)=w3
 have s1:w1.heap.size=w0.heap.size + 1:=by rw [← hw1];simp
 have s2:w2.heap.size=w0.heap.size + 2:=by rw [← hw2];simp [s1]
 have s3:w3.heap.size=w0.heap.size + 3:=by rw [← hw3];simp [s2]
 have p1:w1.heap[w0.heap.size]? = some (.cells #[v] 24 (0,0)):=by rw [← hw1];exact heap_alloc_new w0 _
 have p2:w2.heap[w0.heap.size + 1]? = some (.cells #[.slice none 0 0] 24 (0,0)):=by rw [← hw2,← s1];exact heap_alloc_new w1 _
 have p3:w3.heap[w0.heap.size + 2]? = some (.cells #[.slice none 0 0] 24 (0,0)):=by rw [← hw3,← s2];exact heap_alloc_new w2 _
 have o1:∀ b,b < w0.heap.size→w1.heap[b]? = w0.heap[b]?:=fun b hb=>by rw [← hw1];exact heap_alloc_old _ _ hb
 have o2:∀ b,b < w0.heap.size + 1→w2.heap[b]? = w1.heap[b]?:=fun b hb=>by rw [← hw2];exact heap_alloc_old _ _ (by omega)
 have o3:∀ b,b < w0.heap.size + 2→w3.heap[b]? = w2.heap[b]?:=fun b hb=>by rw [← hw3];exact heap_alloc_old _ _ (by omega)
 have F3:Fut (fun _=>False) w0 w3:=by
  refine ⟨by rw [← hw3,← hw2,← hw1];rfl,by rw [← hw3,← hw2,← hw1];rfl,by rw [← hw3,← hw2,← hw1];rfl,by omega,fun k hk _=>?_⟩
  rw [o3 k (by omega),o2 k (by omega),o1 k hk]
 rw [s1,s2]
 generalize ha1:((a0.put (some 1) (.pointer (some ⟨w0.heap.size,0,none⟩))).put (some 2) (.pointer (some ⟨w0.heap.size + 1,0,none⟩))).put (some 3) (.pointer (some ⟨w0.heap.size + 2,0,none⟩))=a1
 have e1:a1.eval (.tmp 1) = .pointer (some ⟨w0.heap.size,0,none⟩):=by rw [← ha1];simp [aJ,size_put,a0s]
 have e2:a1.eval (.tmp 2) = .pointer (some ⟨w0.heap.size + 1,0,none⟩):=by rw [← ha1];simp [aJ,size_put,a0s]
 have e3:a1.eval (.tmp 3) = .pointer (some ⟨w0.heap.size + 2,0,none⟩):=by rw [← ha1];simp [aJ,size_put,a0s]
 have a1s:a1.tmps.size=22:=by rw [← ha1];simp [size_put,a0s]
 have a1d:a1.defers=[]:=by rw [← ha1];simp [aP,a0d]
 clear ha1 hcells a00 a0s a0d
 obtain ⟨Z1,hZ1⟩:∃ Z1:Nat→Prop,Z1=fun b=>Z b∨b=w0.heap.size:=⟨_,rfl⟩
 have hZ1lt:∀ b,Z1 b→b < w3.heap.size:=fun b hb=>by
  rw [hZ1] at hb
  rcases hb with hb | rfl
  ·have:=hZ b hb;omega
  ·omega
 have hv3:aR w3 Z1 TRC v T:=aR.mono ⟨fun b hb=>by rw [hZ1];exact .inl hb,fun b hb=>F3.block b (hZ b hb) id⟩ _ _ _ hv
 have hcell:w3.cell? ⟨w0.heap.size,0,none⟩=some v:=bP ((o3 _ (by omega)).trans ((o2 _ (by omega)).trans p1))
 refine wp_seq (wp_seq (bJ bx fl (n:=22) (G:=fun _=>.pointer none) (Z:=Z1) (env:=[(1,.rptr [TRC] [T])]) (k:=fun σ=>get σ.env 7 = .val TRC T∧get σ.env 8=vi (.i (T.list.length:Int))∧get σ.env 9=vi (.i 0)) (by kernel_rfl) (by kernel_rfl) a1s (fun t=>?_) hZ1lt (fun _=>rfl) ?_ ?_))
 ·rw [aF]
  split
  ·rename_i h;subst h
   exact ⟨w0.heap.size,0,e1,by rw [hZ1];exact .inr rfl,⟨v,hcell,hv3⟩,trivial⟩
  ·trivial
 ·rw [DZ]
  exact ⟨rfl,rfl,rfl⟩
 rintro σ a2 w4 Z2 G2 ⟨k7,k8,k9⟩ S2 kp
 have F4:Fut (fun _=>False) w3 w4:=S2.fut
 have r7:=S2.slot 7
 have r8:=S2.slot 8
 have r9:=S2.slot 9
 rw [k7] at r7
 rw [k8] at r8
 rw [k9] at r9
 have Z2ok:∀ b,Z2 b→b≠w0.heap.size + 2∧b < w4.heap.size:=fun b hb=>⟨fun e=>by
  rcases S2.new b hb with h | h | h | h
  ·rw [hZ1] at h
   rcases h with h | h
   ·have:=hZ b h;omega
   ·omega
  ·exact h
  ·exact h
  ·have h:w3.heap.size≤b:=h
   omega,S2.lt b hb⟩
 refine vD (t:=9) (fun j a w=>CpI 22 w0 w4.heap.size T j a w∧aR w Z2 TRC (a.eval (.tmp 7)) T∧a.eval (.tmp 8) = .int .i64 (T.list.length:Nat)∧a.eval (.tmp 9) = .int .i64 (j:Nat)∧(∀ b,Z2 b→w.heap[b]? = w4.heap[b]?))
  (fun j a w=>CpI 22 w0 w4.heap.size T (j + 1) a w∧aR w Z2 TRC (a.eval (.tmp 7)) T∧a.eval (.tmp 8) = .int .i64 (T.list.length:Nat)∧a.eval (.tmp 9) = .int .i64 (j:Nat)∧(∀ b,Z2 b→w.heap[b]? = w4.heap[b]?)) T.list.length (fun j a w h=>h.2.2.2.1) (Nat.zero_le _) ?_ ?_ ?_ ?_ ?_
 ·refine ⟨⟨S2.size,S2.calm.trans a1d,(bA kp (by kernel_rfl)).trans e2,(bA kp (by kernel_rfl)).trans e3,(F4.block _ (by omega) id).trans ((o3 _ (by omega)).trans p2),⟨.slice none 0 0,[],(F4.block _ (by omega) id).trans p3,by rw [List.take_zero];exact cN.nil _ _ _ _ _⟩,F3.trans F4 (fun _ h=>h) (fun _ _ h=>h),by have:=F4.size;omega,Nat.le_refl _⟩,r7,r8.1,r9.1,fun _ _=>rfl⟩
 ·rintro j a w hj ⟨I,h7,h8,h9,hz⟩
  have hz2:∀ b,Z2 b→b < w.heap.size:=fun b hb=>Nat.lt_of_lt_of_le (Z2ok b hb).2 I.top
  refine bJ bx fl (n:=22) (G:=fun _=>.pointer none) (Z:=Z2) (env:=[(9,vi (.i (j:Int))),(8,vi (.i (T.list.length:Int)))]) (k:=fun σ=>get σ.env 10 = .val .bool (.b (decide ((j:Int) < (T.list.length:Int))))) (by kernel_rfl) (by kernel_rfl) I.size (fun t=>?_) hz2 (fun _=>rfl) ?_ ?_
  ·rw [aF]
   split
   ·rename_i h;subst h;exact ⟨h9,by show -(2 ^ 63:Int)≤(j:Int);omega,by show (j:Int)≤2 ^ 63 - 1;omega⟩
   ·rw [aF]
    split
    ·rename_i h;subst h;exact ⟨h8,by show -(2 ^ 63:Int)≤(T.list.length:Int);omega,by show (T.list.length:Int)≤2 ^ 63 - 1;omega⟩
    ·trivial
  ·rw [En]
   rfl
  ·rintro σ a' w' Z' G' k10 S' kp'
   have r10:=S'.slot 10
   rw [k10] at r10
   have F':Fut (fun _=>False) w w':=S'.fut
   refine ⟨rfl,?_,I.next S'.size S'.calm (bA kp' (by kernel_rfl)) (bA kp' (by kernel_rfl)) F',?_,(bA kp' (by kernel_rfl)).trans h8,(bA kp' (by kernel_rfl)).trans h9,fun b hb=>(F'.block b (hz2 b hb) id).trans (hz b hb)⟩
   ·have r10:a'.eval (.tmp 10) = .bool (decide ((j:Int) < (T.list.length:Int))):=r10
    rw [r10]
    congr 1
    simp
   ·rw [bA kp' (by kernel_rfl)]
    exact aR.mono ⟨fun _ h=>h,fun b hb=>F'.block b (hz2 b hb) id⟩ _ _ _ h7
 ·rintro j a w hj ⟨I,h7,h8,h9,hz⟩
  have hz2:∀ b,Z2 b→b < w.heap.size:=fun b hb=>Nat.lt_of_lt_of_le (Z2ok b hb).2 I.top
  refine wp_block (wp_seq (bJ bx fl (n:=22) (G:=fun _=>.pointer none) (Z:=Z2) (env:=[(9,vi (.i (j:Int))),(7,.val TRC T)]) (k:=fun σ=>get σ.env 5 = .val (.sl true EC) (U.at T.list j)) (by kernel_rfl) (by kernel_rfl) I.size (fun t=>?_) hz2 (fun _=>rfl) ?_ ?_))
  ·rw [aF]
   split
   ·rename_i h;subst h;exact ⟨h9,by show -(2 ^ 63:Int)≤(j:Int);omega,by show (j:Int)≤2 ^ 63 - 1;omega⟩
   ·rw [aF]
    split
    ·rename_i h;subst h;exact h7
    ·trivial
  ·rw [DM]
   have:decide ((0:Int)≤(U.i (j:Int)).int∧(U.i (j:Int)).int < (T.list.length:Int))=true:=decide_eq_true ⟨by simp,by simpa using hj⟩
   rw [this,cond_true]
   rfl
  ·rintro σ a' w' Z' G' k5 S' kp'
   have r5:=S'.slot 5
   rw [k5] at r5
   have F':Fut (fun _=>False) w w':=S'.fut
   have I':=I.next S'.size S'.calm (bA kp' (by kernel_rfl)) (bA kp' (by kernel_rfl)) F'
   obtain ⟨vo,rows,hB,D⟩:=I'.deep
   have hlen:(T.list.take j).length < 1048576:=by rw [List.length_take];omega
   refine wp_mono (I1 (F:=fun b=>w4.heap.size≤b) I'.size I'.e3 rfl r5 S'.lt (hrows j hj) hB D (fun b hb e=>?_) (fun b hb=>Nat.le_trans I'.top hb) hlen) ?_
   ·have hb:w4.heap.size≤b:=hb
    have:=F4.size
    omega
   rintro e a3 w5 ⟨rfl,vo',rows',hB',D',hs,hdf,hlow,F5⟩
   have hbse:=I'.floor
   have htop:=I'.top
   have hz5:∀ b,Z2 b→w5.heap[b]? = w4.heap[b]?:=fun b hb=>(F5.block b (Nat.lt_of_lt_of_le (hz2 b hb) F'.size) (fun h=>by
    rcases h with h | h
    ·exact (Z2ok b hb).1 h
    ·have:=(Z2ok b hb).2;have h:w4.heap.size≤b:=h;omega)).trans ((F'.block b (hz2 b hb) id).trans (hz b hb))
   have htk:T.list.take (j + 1)=T.list.take j ++ [U.at T.list j]:=by
    rw [List.take_add_one,List.getElem?_eq_getElem hj]
    rw [eG hj]
    rfl
   refine ⟨rfl,⟨hs,hdf.trans I'.calm,(hlow 2 (by decide)).trans I'.e2,(hlow 3 (by decide)).trans I'.e3,?_,⟨vo',rows',hB',by rw [htk];exact D'⟩,?_,I'.floor,Nat.le_trans I'.top F5.size⟩,?_,?_,?_,hz5⟩
   ·refine (F5.block _ (by omega) fun h=>?_).trans I'.b1
    rcases h with h | h
    ·omega
    ·have h:w4.heap.size≤w0.heap.size + 1:=h
     omega
   ·exact I'.fut.trans F5 (fun _ h=>h) (fun b hb h=>by
     rcases h with h | h
     ·omega
     ·have h:w4.heap.size≤b:=h
      omega)
   ·rw [hlow 7 (by decide),bA kp' (by kernel_rfl)]
    exact aR.mono ⟨fun _ h=>h,fun b hb=>(hz5 b hb).trans (hz b hb).symm⟩ _ _ _ h7
   ·rw [hlow 8 (by decide),bA kp' (by kernel_rfl)];exact h8
   ·rw [hlow 9 (by decide),bA kp' (by kernel_rfl)];exact h9
 ·rintro j a w hj ⟨I,h7,h8,h9,hz⟩
  have hz2:∀ b,Z2 b→b < w.heap.size:=fun b hb=>Nat.lt_of_lt_of_le (Z2ok b hb).2 I.top
  refine bJ bx fl (n:=22) (G:=fun _=>.pointer none) (Z:=Z2) (env:=[(9,vi (.i (j:Int)))]) (k:=fun σ=>get σ.env 9=vi (.i ((j:Int) + 1))) (by kernel_rfl) (by kernel_rfl) I.size (fun t=>?_) hz2 (fun _=>rfl) ?_ ?_
  ·rw [aF]
   split
   ·rename_i h;subst h;exact ⟨h9,by show -(2 ^ 63:Int)≤(j:Int);omega,by show (j:Int)≤2 ^ 63 - 1;omega⟩
   ·trivial
  ·rw [Dj]
   show vi (U.i (IntKind.i64.wrap ((j:Int) + 1)))=_
   rw [i64_in (by omega) (by omega)]
  ·rintro σ a' w' Z' G' k9 S' kp'
   have r9:=S'.slot 9
   rw [k9] at r9
   have F':Fut (fun _=>False) w w':=S'.fut
   refine ⟨rfl,I.next S'.size S'.calm (bA kp' (by kernel_rfl)) (bA kp' (by kernel_rfl)) F',?_,(bA kp' (by kernel_rfl)).trans h8,r9.1,fun b hb=>(F'.block b (hz2 b hb) id).trans (hz b hb)⟩
   rw [bA kp' (by kernel_rfl)]
   exact aR.mono ⟨fun _ h=>h,fun b hb=>F'.block b (hz2 b hb) id⟩ _ _ _ h7
 ·rintro a w ⟨I,h7,h8,h9,hz⟩
  obtain ⟨vo,rows,hB,D⟩:=I.deep
  rw [List.take_length] at D
  have hone:=dx D.own
  have htop:=I.top
  have hbse:=I.floor
  refine wp_seq (bQ Jb ?_)
  simp only [wpL]
  intro o hd ho
  refine lZ hdA hagg szA ho I.e3 hB ?_
  rw [hd]
  clear hd ho o
  intro o hd ho
  refine eW (v:=.agg #[vo]) szA ho ?_ (by rw [aJ (by rw [I.size];decide),if_pos rfl]) (by simp [Value.cells,cr hone]) hone rfl I.b1 ?_
  ·rw [aJ (by rw [I.size];decide),if_neg (by decide)];exact I.e2
  intro w6 hB6 g6 _
  rw [hd]
  clear hd ho o
  refine wp_ret ?_
  have F6:Fut (fun b=>b=w0.heap.size + 1) w w6:=cK g6 fun b e=>by cases e;rfl
  refine ⟨by rw [aP,aP];exact I.calm,.agg #[vo],jk (x:=2) (by kernel_rfl) ?_ (cU (vs:=[vo]) hdA hagg szA rfl (fun j u hj=>by
   cases j with
   | zero=>simp at hj;subst hj;exact bP hB6
   | succ j=>simp at hj)),vo,rows,rfl,I.fut.trans F6 (fun _ h=>h) (fun b hb h=>by omega),?_⟩
  ·have:((a.put (some 21) (.agg #[vo])).put none undef).eval (.tmp 2) = .pointer (some ⟨w0.heap.size + 1,0,none⟩):=by
    show (a.put (some 21) (.agg #[vo])).eval (.tmp 2)=_
    rw [aJ (by rw [I.size];decide),if_neg (by decide)];exact I.e2
   exact this
  ·refine ⟨?_,D.len,fun b hb=>Nat.le_trans (by omega) (D.home b hb),?_,fun j r b hr hb=>⟨Nat.le_trans (by omega) (D.rowF j r b hr hb).1,(D.rowF j r b hr hb).2⟩,D.apart⟩
   ·exact dU D.own fun g hg=>F6.block g (D.own.lt g hg).2 fun e=>by have:w4.heap.size≤g:=D.home g hg;omega
   ·exact fun j r hr=>(D.row j r hr).same fun g hg=>F6.block g ((D.row j r hr).lt hg) fun e=>by have:w4.heap.size≤g:=(D.rowF j r g hr hg).1;omega
end Go.Mat

namespace Go.Mat
open Go Go.Den Go.Proofs
noncomputable def cqC:Code:=bh Tryz.f15
noncomputable def cq2:Array Oper:=ax (piece cqC [1,1,0,0])
noncomputable def cq3:Array Oper:=ax (piece cqC [1,1,0,1,0,0,0,0])
noncomputable def cq5:Array Oper:=ax (piece cqC [1,1,0,1,0,0,1,0,0])
noncomputable def cq4:Array Oper:=ax (piece cqC [1,1,0,1,0,0,1,1])
theorem ED (k:KSt):(ak KW cq2.toList cq2.toList ⟨[],[]⟩ k)=(k (St.mk [(4,vi (U.i 0))] [])):=by kernel_rfl
theorem CQ (k:KSt) (i T:U):(ak KW cq3.toList cq3.toList ⟨[(4,vi i),(1,.rptr [TRC] [T])],[]⟩ k)=(k (St.mk [(9,SV.val Ct.bool (U.b (decide (i.int < (↑(List.length (U.list (nth (U.i 0) (List.drop (0:Nat) [T]) (0:Nat)))):Int))))),(8,vi (U.i (↑(List.length (U.list (nth (U.i 0) (List.drop (0 :
 Nat) [T]) (0:Nat)))):Int))),(7,SV.val (Ct.sl false [Ct.sl true [.int .i64,.int .i64,.int .i64,.int .i64,.int .u32]]) (nth (U.i 0) (List.drop (0:Nat) [T]) (0:Nat))),(6,SV.rptr [Ct.sl false
 [Ct.sl true [.int .i64,.int .i64,.int .i64,.int .i64,.int .u32]]] [T]),(5,vi i),(4,vi i),(1,SV.rptr [Ct.sl false [Ct.sl true [.int .i64,.int .i64,.int .i64,.int .i64,.int .u32]]] [T])] [])):=by kernel_rfl
theorem CC (k:KSt) (i:U):(ak KW cq4.toList cq4.toList ⟨[(4,vi i)],[]⟩ k)=(k (St.mk [(4,vi (U.i (IntKind.wrap IntKind.i64 (i.int + 1)))),(11,vi (U.i (IntKind.wrap IntKind.i64 (i.int + 1)))),(10,vi i),(4,vi i)] [])):=by kernel_rfl
end Go.Mat

namespace Go.Mat
open Go Go.Den Go.Proofs Go.RowKit
set_option maxRecDepth 100000
theorem uR:PR.underlying 47=some (.slice 46):=by kernel_rfl
theorem smE:bE PR 46=true:=by kernel_rfl
theorem szR:cI PR 47=some 1:=by kernel_rfl
structure P7 (a0:Act) (B:Nat) (rv:Value) (a:Act):Prop where
 size:a.tmps.size=25
 calm:a.defers=a0.defers
 e12:a.eval (.tmp 12) = .pointer (some ⟨B,0,none⟩)
 e19:a.eval (.tmp 19)=rv
 low:∀ t:Nat,t < 12→a.eval (.tmp t)=a0.eval (.tmp t)
theorem P7.put {a0 a:Act} {B:Nat} {rv:Value} (h:P7 a0 B rv a) {d:Nat} {v:Value} (hd:d < 25) (h0:12 < d) (h1:d≠19):P7 a0 B rv (a.put (some d) v):=by
 have hs:d < a.tmps.size:=by rw [h.size];exact hd
 exact ⟨by rw [size_put];exact h.size,by rw [aP];exact h.calm,by rw [aJ hs,if_neg (show ¬ d=12 by omega)];exact h.e12,by rw [aJ hs,if_neg h1];exact h.e19,
  fun t ht=>by rw [aJ hs,if_neg (show ¬ d=t by omega)];exact h.low t ht⟩
theorem P7.set {a0 a:Act} {B:Nat} {rv:Value} (h:P7 a0 B rv a) {d:Nat} {v:Value} (hd:d < 25):(a.put (some d) v).eval (.tmp d)=v:=by rw [aJ (by rw [h.size];exact hd),if_pos rfl]
theorem P7.pass {a0 a:Act} {B:Nat} {rv u:Value} (h:P7 a0 B rv a) {d t:Nat} {v:Value} (hd:d < 25) (hn:d≠t) (e:a.eval (.tmp t)=u):(a.put (some d) v).eval (.tmp t)=u:=by rw [aJ (by rw [h.size];exact hd),if_neg hn];exact e
noncomputable def cqO (i:Nat):Oper:=(cq5[i]?).getD default
theorem Ee:(∀ i,i < 13→cq5[i]? = some (cqO i))∧(∀ i,i < 13→(cqO i).guard=none):=by
 have hs:cq5.size=13:=by kernel_rfl
 have hg:cq5.toList.all (fun o=>o.guard.isNone)=true:=by kernel_rfl
 have key:∀ i,i < 13→∃ h:i < cq5.size,cq5[i]? = some cq5[i]∧cqO i=cq5[i]:=fun i hi=>by
  have h:i < cq5.size:=by rw [hs];exact hi
  have h2:=Array.getElem?_eq_getElem h
  exact ⟨h,h2,by unfold cqO;rw [h2];rfl⟩
 refine ⟨fun i hi=>?_,fun i hi=>?_⟩<;>obtain ⟨h,h1,h2⟩:=key i hi
 ·rw [h1,h2]
 ·rw [h2]
  exact Option.isNone_iff_eq_none.1 (List.all_eq_true.1 hg _ (Array.getElem_mem_toList h))
theorem eZ {S:World→Prop} {ops:Array Oper} {o:Oper} {v:Value} {a:Act} (hg:o.guard=none) (h:∀ w,S w→(execOp a.eval o).run PR w = .ok (.value v) w):YieldsIf PR ops S o v a:=.inl ⟨by simp [Region.wanted,hg],h⟩
theorem I7 {a:Act} {w:World} {B N j:Nat} {v vo:Value} {rows:List Value} {xs:List U} {T:U} {F Z:Nat→Prop} (hs:a.tmps.size=25) (h1:a.eval (.tmp 1) = .pointer (some ⟨N,0,none⟩)) (h3:a.eval (.tmp 3) = .pointer (some ⟨B,0,none⟩)) (h4:a.eval (.tmp 4) = .int .i64 (j:Int))
  (hN:w.heap[N]? = some (.cells #[v] 24 (0,0))) (hv:aR w Z TRC v T) (hZN:Z N) (hZ:∀ b,Z b→b < w.heap.size) (hZB:∀ b,Z b→b≠B∧¬ F b) (hj:j < T.list.length)
  (hrow:(U.at T.list j).list.length≤1048576) (hB:w.heap[B]? = some (.cells #[vo] 24 (0,0))) (D:eX F w vo rows xs) (hF:∀ b,F b→b≠B) (hF2:∀ b,w.heap.size≤b→F b) (hlen:xs.length < 1048576) :
  (Code.region (av (piece cqC [1,1,0,1,0,0,1,0,0])) cq5 true).wp PR (fun e a' w'=>e = .normal∧∃ vo' rows',w'.heap[B]? = some (.cells #[vo'] 24 (0,0))∧eX F w' vo' rows' (xs ++ [U.at T.list j])∧a'.tmps.size=25∧a'.defers=a.defers∧
    (∀ t:Nat,t < 12→a'.eval (.tmp t)=a.eval (.tmp t))∧Fut (fun b=>b=B∨F b) w w') a w:=by
 obtain ⟨fd,f1,f2,f3⟩:=fdT
 obtain ⟨Q,hQ⟩:∃ Q:Exit→Act→World→Prop,Q=fun e a' w'=>e = .normal∧∃ vo' rows',w'.heap[B]? = some (.cells #[vo'] 24 (0,0))∧eX F w' vo' rows' (xs ++ [U.at T.list j])∧a'.tmps.size=25∧a'.defers=a.defers∧
   (∀ t:Nat,t < 12→a'.eval (.tmp t)=a.eval (.tmp t))∧Fut (fun b=>b=B∨F b) w w':=⟨_,rfl⟩
 rw [← hQ]
 have hQp:∀ c a w d v,Q (.panic c) (a.put d v) w→Q (.panic c) a w:=fun _ _ _ _ _ h=>by rw [hQ] at h;cases h.1
 have hBlt:B < w.heap.size:=(Array.getElem?_eq_some_iff.1 hB).1
 have at_:=Ee.1
 have gd:=Ee.2
 obtain ⟨A,c,rfl,_,_,hk⟩:=hv
 obtain ⟨b0,o0,rfl,hb0,⟨rv,hrv,hrr⟩,_⟩:=hk j hj
 have hrr:aR w Z (.sl true EC) rv (U.at T.list j):=hrr
 rw [show o0 + j * [Ct.sl true EC].length=o0 + j by simp] at hrv
 generalize hrowu:U.at T.list j=row at hrr hrow hQ
 clear hk
 obtain ⟨S,hS⟩:∃ S:World→Prop,S=fun w'=>∀ b,Z b→w'.heap[b]? = w.heap[b]?:=⟨_,rfl⟩
 refine wp_region_held (S:=S) af ?_
 rw [show cq5.size=13 by kernel_rfl]
 generalize hw0:({ w with drawn:=w.drawn + 1 }:World)=w0
 have h0:w0.heap=w.heap:=by rw [← hw0]
 have F0:Fut (fun b=>b=B∨F b) w w0:=by rw [← hw0];exact ⟨rfl,rfl,rfl,Nat.le_refl _,fun _ _ _=>rfl⟩
 have hrr0:aR w0 Z (.sl true EC) rv row:=aR.mono ⟨fun _ h=>h,fun b _=>by rw [h0]⟩ _ _ _ hrr
 have D0:eX F w0 vo rows xs:=D.same fun b _ _=>by rw [h0]
 have hB0:w0.heap[B]? = some (.cells #[vo] 24 (0,0)):=by rw [h0];exact hB
 have hZ0:∀ b,Z b→b < w0.heap.size:=fun b hb=>by rw [h0];exact hZ b hb
 have hS0:S w0:=by rw [hS];intro b _;rw [h0]
 have hSF:∀ w2,Fut (fun _=>False) w0 w2→S w2:=fun w2 f=>by rw [hS];intro b hb;rw [← h0];exact f.block b (hZ0 b hb) id
 have hBlt0:B < w0.heap.size:=by rw [h0];exact hBlt
 clear D hB hw0
 refine wpAnyH_take (i:=0) (oi:=cqO 0) (v:=.pointer (some ⟨B,0,none⟩)) (at_ 0 (by decide)) (by kernel_rfl) (by kernel_rfl) (by kernel_rfl) (fun _ _ _ h=>hQp _ _ _ _ _ h) (eZ (gd 0 (by decide)) fun w _=>?_) hS0 ?_
 ·have:=iG (P:=PR) (o:=cqO 0) (a:=a) (x:=.tmp 3) (s:=24) (f:=0) (by kernel_rfl) f1 f3 h3 w
  rw [f2] at this;exact this
 rw [show (cqO 0).dst=some 12 by kernel_rfl]
 generalize ha1:a.put (some 12) (.pointer (some ⟨B,0,none⟩))=a1
 have s1:a1.tmps.size=25:=by rw [← ha1,size_put];exact hs
 refine wpAnyH_take (i:=3) (oi:=cqO 3) (v:=.pointer (some ⟨N,0,none⟩)) (at_ 3 (by decide)) (by kernel_rfl) (by kernel_rfl) (by kernel_rfl) (fun _ _ _ h=>hQp _ _ _ _ _ h) (eZ (gd 3 (by decide)) fun w _=>?_) hS0 ?_
 ·have:=iG (P:=PR) (o:=cqO 3) (a:=a1) (x:=.tmp 1) (s:=24) (f:=0) (by kernel_rfl) f1 f3 (by rw [← ha1,aJ (by omega),if_neg (by decide)];exact h1) w
  rw [f2] at this;exact this
 rw [show (cqO 3).dst=some 15 by kernel_rfl]
 generalize ha2:a1.put (some 15) (.pointer (some ⟨N,0,none⟩))=a2
 have s2:a2.tmps.size=25:=by rw [← ha2,size_put];exact s1
 refine wpAnyH_take (i:=5) (oi:=cqO 5) (v:=.int .i64 (j:Int)) (at_ 5 (by decide)) (by kernel_rfl) (by kernel_rfl) (by kernel_rfl) (fun _ _ _ h=>hQp _ _ _ _ _ h) (eZ (gd 5 (by decide)) fun w _=>?_) hS0 ?_
 ·have:=run_move (P:=PR) (o:=cqO 5) (a:=a2) (x:=.tmp 4) (by kernel_rfl) w
  rw [this,← ha2,aJ (by omega),if_neg (by decide),← ha1,aJ (by omega),if_neg (by decide),h4]
 rw [show (cqO 5).dst=some 17 by kernel_rfl]
 generalize ha3:a2.put (some 17) (.int .i64 (j:Int))=a3
 have s3:a3.tmps.size=25:=by rw [← ha3,size_put];exact s2
 refine wpAnyH_take (i:=4) (oi:=cqO 4) (v:=.slice (some ⟨b0,o0,none⟩) T.list.length c) (at_ 4 (by decide)) (by kernel_rfl) (by kernel_rfl) (by kernel_rfl) (fun _ _ _ h=>hQp _ _ _ _ _ h) (eZ (gd 4 (by decide)) fun w2 hw2=>?_) hS0 ?_
 ·have hN2:w2.heap[N]? = some (.cells #[.slice (some ⟨b0,o0,none⟩) T.list.length c] 24 (0,0)):=by
   rw [hS] at hw2
   exact (hw2 N hZN).trans hN
  have he:a3.eval (.tmp 15) = .pointer (some ⟨N,0,none⟩):=by rw [← ha3,aJ (by omega),if_neg (by decide),← ha2,aJ (by omega),if_pos rfl]
  have ho:(cqO 4).op = .load 22 (.tmp 15):=by kernel_rfl
  have hl:=et (P:=PR) uT rfl (bP hN2)
  simp [execOp,ho,he,Instr.loadAt,Instr.sureAddr,hl]
 rw [show (cqO 4).dst=some 16 by kernel_rfl]
 generalize ha4:a3.put (some 16) (.slice (some ⟨b0,o0,none⟩) T.list.length c)=a4
 have s4:a4.tmps.size=25:=by rw [← ha4,size_put];exact s3
 refine wpAnyH_take (i:=6) (oi:=cqO 6) (v:=.pointer (some ⟨b0,o0 + j,none⟩)) (at_ 6 (by decide)) (by kernel_rfl) (by kernel_rfl) (by kernel_rfl) (fun _ _ _ h=>hQp _ _ _ _ _ h) (eZ (gd 6 (by decide)) fun w2 _=>?_) hS0 ?_
 ·have he:a4.eval (.tmp 16) = .slice (some ⟨b0,o0,none⟩) T.list.length c:=by rw [← ha4,aJ (by omega),if_pos rfl]
  have he2:a4.eval (.tmp 17) = .int .i64 (j:Int):=by rw [← ha4,aJ (by omega),if_neg (by decide),← ha3,aJ (by omega),if_pos rfl]
  have ho:(cqO 6).op = .indexAddr 22 (.tmp 16) (.tmp 17):=by kernel_rfl
  have hj':(j:Int) < (T.list.length:Int):=by exact_mod_cast hj
  simp [execOp,ho,he,he2,Instr.indexAt,asIntOf,run_underlying uT,cp szR,bp,hj']
  intro h;omega
 rw [show (cqO 6).dst=some 18 by kernel_rfl]
 generalize ha5:a4.put (some 18) (.pointer (some ⟨b0,o0 + j,none⟩))=a5
 have s5:a5.tmps.size=25:=by rw [← ha5,size_put];exact s4
 refine wpAnyH_take (i:=7) (oi:=cqO 7) (v:=rv) (at_ 7 (by decide)) (by kernel_rfl) (by kernel_rfl) (by kernel_rfl) (fun _ _ _ h=>hQp _ _ _ _ _ h) (eZ (gd 7 (by decide)) fun w2 hw2=>?_) hS0 ?_
 ·have he:a5.eval (.tmp 18) = .pointer (some ⟨b0,o0 + j,none⟩):=by rw [← ha5,aJ (by omega),if_pos rfl]
  have ho:(cqO 7).op = .load 47 (.tmp 18):=by kernel_rfl
  have hc:w2.cell? ⟨b0,o0 + j,none⟩=some rv:=by
   rw [hS] at hw2
   exact (World.cell?_of_block (w:=w) (a:=⟨b0,o0 + j,none⟩) (hw2 b0 hb0)).trans hrv
  have hl:=et (P:=PR) uR rfl hc
  simp [execOp,ho,he,Instr.loadAt,Instr.sureAddr,hl]
 rw [show (cqO 7).dst=some 19 by kernel_rfl]
 generalize ha6:a5.put (some 19) rv=a6
 have A6:P7 a B rv a6:=by
  rw [← ha6]
  refine ⟨by rw [size_put];exact s5,?_,?_,by rw [aJ (by omega),if_pos rfl],fun t ht=>?_⟩
  ·rw [aP,← ha5,aP,← ha4,aP,← ha3,aP,← ha2,aP,← ha1,aP]
  ·rw [aJ (by omega),if_neg (by decide),← ha5,aJ (by omega),if_neg (by decide),← ha4,aJ (by omega),if_neg (by decide),← ha3,aJ (by omega),if_neg (by decide),← ha2,aJ (by omega),if_neg (by decide),← ha1,aJ (by omega),if_pos rfl]
  ·rw [aJ (by omega),if_neg (show ¬ 19=t by omega),← ha5,aJ (by omega),if_neg (show ¬ 18=t by omega),← ha4,aJ (by omega),if_neg (show ¬ 16=t by omega),← ha3,aJ (by omega),if_neg (show ¬ 17=t by omega),← ha2,aJ (by omega),if_neg (show ¬ 15=t by omega),← ha1,aJ (by omega),if_neg (show ¬ 12=t by omega)]
 clear ha1 ha2 ha3 ha4 ha5 ha6 s1 s2 s3 s4 s5
 have ld1:∀ (K:Act→World→Prop) (a2:Act) (w2:World),P7 a B rv a2→Fut (fun _=>False) w0 w2→K (a2.put (some 13) vo) w2→wpOp PR cq5 Q 1 K a2 w2:=fun K a2 w2 A f hk=>
  cB (at_ 1 (by decide)) (gd 1 (by decide)) (fp uT rfl (by kernel_rfl) A.e12 (bP ((f.block B hBlt0 id).trans hB0)) (by rw [show (cqO 1).dst=some 13 by kernel_rfl];exact hk))
 have bs2:∀ (K:Act→World→Prop) (a2:Act) (w2:World),P7 a B rv a2→Fut (fun _=>False) w0 w2→(∀ x w3,x.ownBlock=some w2.heap.size→w3.ownsRow 0 46 EC.length x 0 []→Fut (fun _=>False) w0 w3→w2.heap.size < w3.heap.size→K (a2.put (some 14) x) w3)→wpOp PR cq5 Q 2 K a2 w2:=fun K a2 w2 A f hk=>
  cB (at_ 2 (by decide)) (gd 2 (by decide)) (Gj uR smE (by kernel_rfl) (by
   rw [show (cqO 2).dst=some 14 by kernel_rfl]
   refine hk _ _ rfl ⟨by simp,.inr ⟨w2.heap.size,0,#[],rfl,Nat.zero_le _,heap_alloc_new w2 _,Nat.le_refl _,Nat.zero_le _,by simp,by simp⟩⟩ (f.trans (cK (M:=fun _=>False) (World.grownBy_alloc w2 _ none) fun b e=>by cases e) (fun _ h=>h) (fun _ _ h=>h)) (by simp)))
 have ap8:∀ (K:Act→World→Prop) (a2:Act) (w2:World) (x:Value) (n:Nat),P7 a B rv a2→Fut (fun _=>False) w0 w2→a2.eval (.tmp 14)=x→x.ownBlock=some n→w0.heap.size≤n→w2.ownsRow 0 46 EC.length x 0 []→
   (∀ r w3,gY w3 r row→(∀ b,r.ownBlock=some b→w0.heap.size≤b)→Fut (fun _=>False) w0 w3→K (a2.put (some 20) r) w3)→wpOp PR cq5 Q 8 K a2 w2:=fun K a2 w2 x n A f hx hn hge hown hk=>by
  have hrr2:aR w2 Z (.sl true EC) rv row:=aR.mono (BT f hZ0 fun _ _ h=>h) _ _ _ hrr0
  refine cB (at_ 8 (by decide)) (gd 8 (by decide)) (tU (x:=.tmp 14) (y:=.tmp 19) uR cE smE rfl (by kernel_rfl) hx A.e19 hown hrr2 (by unfold room;omega) fun r w3 hr g hb=>?_)
  rw [show (cqO 8).dst=some 20 by kernel_rfl]
  refine hk r w3 hr (fun b hb'=>?_) (f.trans (cK (M:=fun b=>b=n) g fun b e=>by rw [hn] at e;cases e;rfl) (fun _ h=>h) (fun b hb h=>by omega))
  rcases hb with e | e
  ·rw [e,hn] at hb';cases hb';exact hge
  ·rw [e] at hb';cases hb';exact f.size
 have bs9:∀ (K:Act→World→Prop) (a2:Act) (w2:World) (r:Value),P7 a B rv a2→a2.eval (.tmp 20)=r→gY w2 r row→Fut (fun _=>False) w0 w2→(∀ bs w3,w3.cell? ⟨bs,0,none⟩=some r→gY w3 r row→Fut (fun _=>False) w0 w3→K (a2.put (some 21) (.slice (some ⟨bs,0,none⟩) 1 1)) w3)→wpOp PR cq5 Q 9 K a2 w2:=fun K a2 w2 r A he hr f hk=>
  cB (at_ 9 (by decide)) (gd 9 (by decide)) (su uT cR smR (by kernel_rfl) he hr.one (by
   rw [show (cqO 9).dst=some 21 by kernel_rfl]
   exact hk _ _ (bP (heap_alloc_new w2 _)) (hr.same fun g hg=>heap_alloc_old _ _ (hr.lt hg)) (f.trans (cK (M:=fun _=>False) (World.grownBy_alloc w2 _ none) fun b e=>by cases e) (fun _ h=>h) (fun _ _ h=>h))))
 have fin:∀ (l:Array Bool) (a2:Act) (w2:World) (r:Value) (bs:Nat),l = #[true,true,true,true,true,true,true,true,true,true,false,false,false]→P7 a B rv a2→a2.eval (.tmp 13)=vo→a2.eval (.tmp 21) = .slice (some ⟨bs,0,none⟩) 1 1→w2.cell? ⟨bs,0,none⟩=some r→gY w2 r row→(∀ b,r.ownBlock=some b→w0.heap.size≤b)→Fut (fun _=>False) w0 w2→
   wpAnyH PR .any cq5 Q S 3 l a2 w2:=by
  intro l a2 w2 r bs hl A e14 e17 hbs hr hfr F2
  subst hl
  have D2:eX F w2 vo rows xs:=D0.same fun b _ hb=>F2.block b hb id
  refine wpAnyH_all (rs:=[10]) (by kernel_rfl) (by decide) fun i hi=>?_
  have hi:i=10:=by simpa using hi
  subst hi
  refine cB (at_ 10 (by decide)) (gd 10 (by decide)) (tf (F:=F) (x:=.tmp 13) (y:=.tmp 21) uT cR smR (by kernel_rfl) e14 e17 hbs D2 hr (fun b hb=>?_) (hF2 _ (by have:=F2.size;rw [h0] at this;exact this)) (by unfold room;omega) ?_)
  ·have hge:=hfr b hb
   refine ⟨hF2 b (by rw [← h0];exact hge),fun e=>?_,fun j r' hj hb'=>?_⟩
   ·have:=(D0.own.lt b e).2;omega
   ·have:=(D0.row j r' hj).lt hb';omega
  ·intro vo' w3 D3 g3
   have F3:=F2.trans (cK (M:=F) g3 fun b hb=>D2.home b hb) (N:=F) (fun _ h=>h.elim) (fun b _ h=>h)
   have hB3:w3.heap[B]? = some (.cells #[vo] 24 (0,0)):=(F3.block B hBlt0 (fun h=>hF B h rfl)).trans hB0
   have hS3:S w3:=by rw [hS];intro b hb;rw [← h0];exact F3.block b (hZ0 b hb) (hZB b hb).2
   rw [show (cqO 10).dst=some 22 by kernel_rfl]
   have A3:=A.put (d:=22) (v:=vo') (by decide) (by decide) (by decide)
   refine ⟨hS3,wpAnyH_all (rs:=[11]) (by kernel_rfl) (by decide) fun i hi=>?_⟩
   have hi:i=11:=by simpa using hi
   subst hi
   refine cB (at_ 11 (by decide)) (gd 11 (by decide)) (bn (x:=.tmp 3) (s:=24) (f:=0) (by kernel_rfl) f1 f3 (by rw [A3.low 3 (by decide)];exact h3) ?_)
   rw [f2,Nat.zero_add,show (cqO 11).dst=some 23 by kernel_rfl]
   have A4:=A3.put (d:=23) (v:=.pointer (some ⟨B,0,none⟩)) (by decide) (by decide) (by decide)
   refine ⟨hS3,wpAnyH_all (rs:=[12]) (by kernel_rfl) (by decide) fun i hi=>?_⟩
   have hi:i=12:=by simpa using hi
   subst hi
   refine cB (at_ 12 (by decide)) (gd 12 (by decide)) (eW (x:=.tmp 23) (y:=.tmp 22) (v:=vo') szT (by kernel_rfl) (A3.set (by decide)) (A3.pass (by decide) (by decide) (A.set (by decide))) (cr (dx D3.own)) (dx D3.own) rfl hB3 ?_)
   intro w4 hB4 g4 _
   rw [show (cqO 12).dst=none by kernel_rfl]
   have F4:=F3.trans (cK (M:=fun b=>b=B) g4 fun b e=>by cases e;rfl) (N:=fun b=>b=B∨F b) (fun _ h=>.inr h) (fun b _ h=>.inl h)
   refine ⟨by rw [hS];intro b hb;rw [← h0];exact F4.block b (hZ0 b hb) fun h=>h.elim (hZB b hb).1 (hZB b hb).2,wpAnyH_done (by kernel_rfl) ?_ 0⟩
   rw [hQ]
   refine ⟨rfl,vo',_,hB4,D3.same fun b hb hlt=>g4.block b hlt fun e=>?_,A4.size,A4.calm,A4.low,F0.trans F4 (fun _ h=>h) (fun b _ h=>h)⟩
   cases e;exact hF _ hb rfl
 have fresh:∀ {w2:World} {x:Value},Fut (fun _=>False) w0 w2→x.ownBlock=some w2.heap.size→w0.heap.size≤w2.heap.size:=fun f _=>f.size
 have F00:Fut (fun _=>False) w0 w0:=Fut.refl _ w0
 refine wpAnyH_all (rs:=[1,2]) (by kernel_rfl) (by decide) fun i hi=>?_
 rcases (by simpa using hi:i=1∨i=2) with rfl | rfl
 ·refine ld1 _ _ _ A6 F00 ⟨hS0,wpAnyH_all (rs:=[2]) (by kernel_rfl) (by decide) fun i hi=>?_⟩
  have hi:i=2:=by simpa using hi
  subst hi
  have A7:=A6.put (d:=13) (v:=vo) (by decide) (by decide) (by decide)
  refine bs2 _ _ _ A7 F00 fun x w2 hx hown F2 _=>⟨hSF _ F2,wpAnyH_all (rs:=[8]) (by kernel_rfl) (by decide) fun i hi=>?_⟩
  have hi:i=8:=by simpa using hi
  subst hi
  have A8:=A7.put (d:=14) (v:=x) (by decide) (by decide) (by decide)
  refine ap8 _ _ _ x _ A8 F2 (A7.set (by decide)) hx (Nat.le_refl _) hown fun r w3 hr hfr F3=>⟨hSF _ F3,wpAnyH_all (rs:=[9]) (by kernel_rfl) (by decide) fun i hi=>?_⟩
  have hi:i=9:=by simpa using hi
  subst hi
  have A9:=A8.put (d:=20) (v:=r) (by decide) (by decide) (by decide)
  refine bs9 _ _ _ r A9 (A8.set (by decide)) hr F3 fun bs w4 hbs hr4 F4=>⟨hSF _ F4,?_⟩
  exact fin _ _ _ r bs (by kernel_rfl) (A9.put (by decide) (by decide) (by decide)) (A9.pass (by decide) (by decide) (A8.pass (by decide) (by decide) (A7.pass (by decide) (by decide) (A6.set (by decide))))) (A9.set (by decide)) hbs hr4 hfr F4
 ·refine bs2 _ _ _ A6 F00 fun x w2 hx hown F2 _=>⟨hSF _ F2,wpAnyH_all (rs:=[1,8]) (by kernel_rfl) (by decide) fun i hi=>?_⟩
  have A8:=A6.put (d:=14) (v:=x) (by decide) (by decide) (by decide)
  rcases (by simpa using hi:i=1∨i=8) with rfl | rfl
  ·refine ld1 _ _ _ A8 F2 ⟨hSF _ F2,wpAnyH_all (rs:=[8]) (by kernel_rfl) (by decide) fun i hi=>?_⟩
   have hi:i=8:=by simpa using hi
   subst hi
   have A7:=A8.put (d:=13) (v:=vo) (by decide) (by decide) (by decide)
   refine ap8 _ _ _ x _ A7 F2 (A8.pass (by decide) (by decide) (A6.set (by decide))) hx (Nat.le_refl _) hown fun r w3 hr hfr F3=>⟨hSF _ F3,wpAnyH_all (rs:=[9]) (by kernel_rfl) (by decide) fun i hi=>?_⟩
   have hi:i=9:=by simpa using hi
   subst hi
   have A9:=A7.put (d:=20) (v:=r) (by decide) (by decide) (by decide)
   refine bs9 _ _ _ r A9 (A7.set (by decide)) hr F3 fun bs w4 hbs hr4 F4=>⟨hSF _ F4,?_⟩
   exact fin _ _ _ r bs (by kernel_rfl) (A9.put (by decide) (by decide) (by decide)) (A9.pass (by decide) (by decide) (A7.pass (by decide) (by decide) (A8.set (by decide)))) (A9.set (by decide)) hbs hr4 hfr F4
  ·refine ap8 _ _ _ x _ A8 F2 (A6.set (by decide)) hx (Nat.le_refl _) hown fun r w3 hr hfr F3=>⟨hSF _ F3,wpAnyH_all (rs:=[1,9]) (by kernel_rfl) (by decide) fun i hi=>?_⟩
   have A9:=A8.put (d:=20) (v:=r) (by decide) (by decide) (by decide)
   rcases (by simpa using hi:i=1∨i=9) with rfl | rfl
   ·refine ld1 _ _ _ A9 F3 ⟨hSF _ F3,wpAnyH_all (rs:=[9]) (by kernel_rfl) (by decide) fun i hi=>?_⟩
    have hi:i=9:=by simpa using hi
    subst hi
    have A7:=A9.put (d:=13) (v:=vo) (by decide) (by decide) (by decide)
    refine bs9 _ _ _ r A7 (A9.pass (by decide) (by decide) (A8.set (by decide))) hr F3 fun bs w4 hbs hr4 F4=>⟨hSF _ F4,?_⟩
    exact fin _ _ _ r bs (by kernel_rfl) (A7.put (by decide) (by decide) (by decide)) (A7.pass (by decide) (by decide) (A9.set (by decide))) (A7.set (by decide)) hbs hr4 hfr F4
   ·refine bs9 _ _ _ r A9 (A8.set (by decide)) hr F3 fun bs w4 hbs hr4 F4=>⟨hSF _ F4,wpAnyH_all (rs:=[1]) (by kernel_rfl) (by decide) fun i hi=>?_⟩
    have hi:i=1:=by simpa using hi
    subst hi
    have A7:=A9.put (d:=21) (v:=.slice (some ⟨bs,0,none⟩) 1 1) (by decide) (by decide) (by decide)
    refine ld1 _ _ _ A7 F4 ⟨hSF _ F4,?_⟩
    exact fin _ _ _ r bs (by kernel_rfl) (A7.put (by decide) (by decide) (by decide)) (A7.set (by decide)) (A7.pass (by decide) (by decide) (A9.set (by decide))) hbs hr4 hfr F4
end Go.Mat

namespace Go.Mat
open Go Go.Den Go.Proofs Go.RowKit
set_option maxRecDepth 100000
theorem FN:bh Tryz.f15 = .seq (.region (av (piece cqC [0])) (ax (piece cqC [0])) false) (.seq (.region (av (piece cqC [1,0])) (ax (piece cqC [1,0])) false) (.seq (.seq (.region (av (piece cqC [1,1,0,0])) cq2 false) (.block 0 (.loop (.seq (.seq (.region (av (piece cqC [1,1,0,1,0,0,0,0])) cq3 false) (.cond (.tmp 9) .skip (.exit 0)))
  (.seq (.block 1 (.region (av (piece cqC [1,1,0,1,0,0,1,0,0])) cq5 true)) (.region (av (piece cqC [1,1,0,1,0,0,1,1])) cq4 false)))))) (.seq (piece cqC [1,1,1,0]) .ret))):=by kernel_rfl
theorem Jf:cd (.region (av (piece cqC [0])) (ax (piece cqC [0])) false) [(some 1,.box 24 (.tmp 0)),(some 2,.alloc 24)]:=⟨_,_,rfl,by kernel_rfl,by kernel_rfl⟩
theorem Jd:cd (.region (av (piece cqC [1,0])) (ax (piece cqC [1,0])) false) [(some 3,.alloc 24)]:=⟨_,_,rfl,by kernel_rfl,by kernel_rfl⟩
theorem JD:cd (piece cqC [1,1,1,0]) [(some 24,.load 24 (.tmp 3)),(none,.store 24 (.tmp 2) (.tmp 24))]:=⟨av (piece cqC [1,1,1,0]),ax (piece cqC [1,1,1,0]),by kernel_rfl,by kernel_rfl,by kernel_rfl⟩
theorem pJ:sa 15:=by
 intro w0 Z v T hv hZ hT hrows
 have hf:PR.funcs[(15:Nat)]? = some Tryz.f15:=by kernel_rfl
 have hb:Tryz.f15.body=some (bh Tryz.f15):=by kernel_rfl
 have hnt:Tryz.f15.ntmps=25:=by kernel_rfl
 obtain ⟨iT,z,hi,hz,hzc⟩:=zT
 obtain ⟨dA,hdA,hagg⟩:=uTb
 refine calls_of_wp hf hb ?_
 rw [FN,hnt]
 generalize ha0:({ tmps:=#[Value.agg #[v]] ++ Array.replicate (25 - (#[Value.agg #[v]]:Array Value).size) undef,defers:=[] }:Act)=a0
 have a0s:a0.tmps.size=25:=by rw [← ha0];simp
 have a00:a0.eval (.tmp 0) = .agg #[v]:=by rw [← ha0];simp [Act.eval,Array.getD_eq_getD_getElem?]
 have a0d:a0.defers=[]:=by rw [← ha0]
 clear ha0
 have hv1:v.oneCell' = true:=hv.one
 refine wp_seq (bQ Jf ?_)
 simp only [wpL]
 intro o hd ho
 refine np ho ?_
 rw [hd]
 clear hd ho o
 intro o hd ho
 refine gO ho hi hz ?_
 rw [hd,hzc]
 clear hd ho o
 refine wp_seq (bQ Jd ?_)
 simp only [wpL]
 intro o hd ho
 refine gO ho hi hz ?_
 rw [hd,hzc]
 clear hd ho o
 have hcells:(a0.eval (.tmp 0)).cells = #[v]:=by rw [a00];simp [Value.cells,cr hv1]
 rw [hcells]
 generalize hw1:w0.alloc (.cells #[v] 24)=w1
 generalize hw2:w1.alloc (.cells #[.slice none 0 0] 24)=w2
 generalize hw3:w2.alloc (.cells #[.slice none 0 0] 24)=w3
 have s1:w1.heap.size=w0.heap.size + 1:=by rw [← hw1];simp
 have s2:w2.heap.size=w0.heap.size + 2:=by rw [← hw2];simp [s1]
 have s3:w3.heap.size=w0.heap.size + 3:=by rw [← hw3];simp [s2]
 have p1:w1.heap[w0.heap.size]? = some (.cells #[v] 24 (0,0)):=by rw [← hw1];exact heap_alloc_new w0 _
 have p2:w2.heap[w0.heap.size + 1]? = some (.cells #[.slice none 0 0] 24 (0,0)):=by rw [← hw2,← s1];exact heap_alloc_new w1 _
 have p3:w3.heap[w0.heap.size + 2]? = some (.cells #[.slice none 0 0] 24 (0,0)):=by rw [← hw3,← s2];exact heap_alloc_new w2 _
 have o1:∀ b,b < w0.heap.size→w1.heap[b]? = w0.heap[b]?:=fun b hb=>by rw [← hw1];exact heap_alloc_old _ _ hb
 have o2:∀ b,b < w0.heap.size + 1→w2.heap[b]? = w1.heap[b]?:=fun b hb=>by rw [← hw2];exact heap_alloc_old _ _ (by omega)
 have o3:∀ b,b < w0.heap.size + 2→w3.heap[b]? = w2.heap[b]?:=fun b hb=>by rw [← hw3];exact heap_alloc_old _ _ (by omega)
 have F3:Fut (fun _=>False) w0 w3:=by
  refine ⟨by rw [← hw3,← hw2,← hw1];rfl,by rw [← hw3,← hw2,← hw1];rfl,by rw [← hw3,← hw2,← hw1];rfl,by omega,fun k hk _=>?_⟩
  rw [o3 k (by omega),o2 k (by omega),o1 k hk]
 rw [s1,s2]
 generalize ha1:((a0.put (some 1) (.pointer (some ⟨w0.heap.size,0,none⟩))).put (some 2) (.pointer (some ⟨w0.heap.size + 1,0,none⟩))).put (some 3) (.pointer (some ⟨w0.heap.size + 2,0,none⟩))=a1
 have e1:a1.eval (.tmp 1) = .pointer (some ⟨w0.heap.size,0,none⟩):=by rw [← ha1];simp [aJ,size_put,a0s]
 have e2:a1.eval (.tmp 2) = .pointer (some ⟨w0.heap.size + 1,0,none⟩):=by rw [← ha1];simp [aJ,size_put,a0s]
 have e3:a1.eval (.tmp 3) = .pointer (some ⟨w0.heap.size + 2,0,none⟩):=by rw [← ha1];simp [aJ,size_put,a0s]
 have a1s:a1.tmps.size=25:=by rw [← ha1];simp [size_put,a0s]
 have a1d:a1.defers=[]:=by rw [← ha1];simp [aP,a0d]
 clear ha1 hcells a00 a0s a0d
 obtain ⟨Z1,hZ1⟩:∃ Z1:Nat→Prop,Z1=fun b=>Z b∨b=w0.heap.size:=⟨_,rfl⟩
 have hZ1lt:∀ b,Z1 b→b < w3.heap.size:=fun b hb=>by
  rw [hZ1] at hb
  rcases hb with hb | rfl
  ·have:=hZ b hb;omega
  ·omega
 have hv3:aR w3 Z1 TRC v T:=aR.mono ⟨fun b hb=>by rw [hZ1];exact .inl hb,fun b hb=>F3.block b (hZ b hb) id⟩ _ _ _ hv
 have hp1:w3.heap[w0.heap.size]? = some (.cells #[v] 24 (0,0)):=(o3 _ (by omega)).trans ((o2 _ (by omega)).trans p1)
 have hZ1N:Z1 w0.heap.size:=by rw [hZ1];exact .inr rfl
 have hZ1n:∀ b,Z1 b→b < w0.heap.size + 1:=fun b hb=>by
  rw [hZ1] at hb
  rcases hb with hb | rfl
  ·have:=hZ b hb;omega
  ·omega
 refine wp_seq (wp_seq (bJ bx fl (n:=25) (G:=fun _=>.pointer none) (Z:=Z1) (env:=[]) (k:=fun σ=>get σ.env 4=vi (.i 0)) (by kernel_rfl) (by kernel_rfl) a1s (fun _=>trivial) hZ1lt (fun _=>rfl) (by rw [ED];rfl) ?_))
 rintro σ a2 w4 Z2 G2 k4 S2 kp
 have F4:Fut (fun _=>False) w3 w4:=S2.fut
 have r4:=S2.slot 4
 rw [k4] at r4
 refine yz (t:=4) (fun j a w=>CpI 25 w0 w4.heap.size T j a w∧a.eval (.tmp 1) = .pointer (some ⟨w0.heap.size,0,none⟩)∧a.eval (.tmp 4) = .int .i64 (j:Nat)∧(∀ b,Z1 b→w.heap[b]? = w3.heap[b]?))
  (fun j a w=>CpI 25 w0 w4.heap.size T (j + 1) a w∧a.eval (.tmp 1) = .pointer (some ⟨w0.heap.size,0,none⟩)∧a.eval (.tmp 4) = .int .i64 (j:Nat)∧(∀ b,Z1 b→w.heap[b]? = w3.heap[b]?)) T.list.length (fun j a w h=>h.2.2.1) (Nat.zero_le _) ?_ ?_ ?_ ?_ ?_
 ·refine ⟨⟨S2.size,S2.calm.trans a1d,(bA kp (by kernel_rfl)).trans e2,(bA kp (by kernel_rfl)).trans e3,(F4.block _ (by omega) id).trans ((o3 _ (by omega)).trans p2),⟨.slice none 0 0,[],(F4.block _ (by omega) id).trans p3,by rw [List.take_zero];exact cN.nil _ _ _ _ _⟩,F3.trans F4 (fun _ h=>h) (fun _ _ h=>h),by have:=F4.size;omega,Nat.le_refl _⟩,(bA kp (by kernel_rfl)).trans e1,r4.1,fun b hb=>F4.block b (hZ1lt b hb) id⟩
 ·rintro j a w hj ⟨I,h1,h4,hz⟩
  have hfl:=I.floor
  have htp:=I.top
  have hz2:∀ b,Z1 b→b < w.heap.size:=fun b hb=>by have:=hZ1n b hb;omega
  have hvw:aR w Z1 TRC v T:=aR.mono ⟨fun _ h=>h,hz⟩ _ _ _ hv3
  refine bJ bx fl (n:=25) (G:=fun _=>.pointer none) (Z:=Z1) (env:=[(4,vi (.i (j:Int))),(1,.rptr [TRC] [T])]) (k:=fun σ=>get σ.env 9 = .val .bool (.b (decide ((j:Int) < (T.list.length:Int))))) (by kernel_rfl) (by kernel_rfl) I.size (fun t=>?_) hz2 (fun _=>rfl) ?_ ?_
  ·rw [aF]
   split
   ·rename_i h;subst h;exact ⟨h4,by show -(2 ^ 63:Int)≤(j:Int);omega,by show (j:Int)≤2 ^ 63 - 1;omega⟩
   ·rw [aF]
    split
    ·rename_i h;subst h;exact ⟨_,0,h1,hZ1N,⟨v,bP ((hz _ hZ1N).trans hp1),hvw⟩,trivial⟩
    ·trivial
  ·rw [CQ]
   rfl
  ·rintro σ a' w' Z' G' k10 S' kp'
   have r10:=S'.slot 9
   rw [k10] at r10
   have F':Fut (fun _=>False) w w':=S'.fut
   refine ⟨rfl,?_,I.next S'.size S'.calm (bA kp' (by kernel_rfl)) (bA kp' (by kernel_rfl)) F',(bA kp' (by kernel_rfl)).trans h1,(bA kp' (by kernel_rfl)).trans h4,fun b hb=>(F'.block b (hz2 b hb) id).trans (hz b hb)⟩
   have r10:a'.eval (.tmp 9) = .bool (decide ((j:Int) < (T.list.length:Int))):=r10
   rw [r10]
   congr 1
   simp
 ·rintro j a w hj ⟨I,h1,h4,hz⟩
  have hfl:=I.floor
  have htp:=I.top
  have hz2:∀ b,Z1 b→b < w.heap.size:=fun b hb=>by have:=hZ1n b hb;omega
  have hvw:aR w Z1 TRC v T:=aR.mono ⟨fun _ h=>h,hz⟩ _ _ _ hv3
  obtain ⟨vo,rows,hB,D⟩:=I.deep
  have hlen:(T.list.take j).length < 1048576:=by rw [List.length_take];omega
  refine wp_block (wp_mono (I7 (F:=fun b=>w4.heap.size≤b) I.size h1 I.e3 h4 ((hz _ hZ1N).trans hp1) hvw hZ1N hz2 (fun b hb=>?_) hj (hrows j hj) hB D (fun b hb e=>?_) (fun b hb=>Nat.le_trans I.top hb) hlen) ?_)
  ·have:=hZ1n b hb
   exact ⟨by omega,fun h=>by have h:w4.heap.size≤b:=h;omega⟩
  ·have hb:w4.heap.size≤b:=hb
   omega
  rintro e a3 w5 ⟨rfl,vo',rows',hB',D',hs,hdf,hlow,F5⟩
  have hz5:∀ b,Z1 b→w5.heap[b]? = w3.heap[b]?:=fun b hb=>(F5.block b (hz2 b hb) (fun h=>by
   have:=hZ1n b hb
   rcases h with h | h
   ·omega
   ·have h:w4.heap.size≤b:=h;omega)).trans (hz b hb)
  have htk:T.list.take (j + 1)=T.list.take j ++ [U.at T.list j]:=by
   rw [List.take_add_one,List.getElem?_eq_getElem hj,eG hj]
   rfl
  refine ⟨rfl,⟨hs,hdf.trans I.calm,(hlow 2 (by decide)).trans I.e2,(hlow 3 (by decide)).trans I.e3,?_,⟨vo',rows',hB',by rw [htk];exact D'⟩,?_,I.floor,Nat.le_trans I.top F5.size⟩,(hlow 1 (by decide)).trans h1,(hlow 4 (by decide)).trans h4,hz5⟩
  ·refine (F5.block _ (by omega) fun h=>?_).trans I.b1
   rcases h with h | h
   ·omega
   ·have h:w4.heap.size≤w0.heap.size + 1:=h
    omega
  ·exact I.fut.trans F5 (fun _ h=>h) (fun b hb h=>by
    rcases h with h | h
    ·omega
    ·have h:w4.heap.size≤b:=h
     omega)
 ·rintro j a w hj ⟨I,h1,h4,hz⟩
  have hfl:=I.floor
  have htp:=I.top
  have hz2:∀ b,Z1 b→b < w.heap.size:=fun b hb=>by have:=hZ1n b hb;omega
  refine bJ bx fl (n:=25) (G:=fun _=>.pointer none) (Z:=Z1) (env:=[(4,vi (.i (j:Int)))]) (k:=fun σ=>get σ.env 4=vi (.i ((j:Int) + 1))) (by kernel_rfl) (by kernel_rfl) I.size (fun t=>?_) hz2 (fun _=>rfl) ?_ ?_
  ·rw [aF]
   split
   ·rename_i h;subst h;exact ⟨h4,by show -(2 ^ 63:Int)≤(j:Int);omega,by show (j:Int)≤2 ^ 63 - 1;omega⟩
   ·trivial
  ·rw [CC]
   show vi (U.i (IntKind.i64.wrap ((j:Int) + 1)))=_
   rw [i64_in (by omega) (by omega)]
  ·rintro σ a' w' Z' G' k9 S' kp'
   have r9:=S'.slot 4
   rw [k9] at r9
   have F':Fut (fun _=>False) w w':=S'.fut
   exact ⟨rfl,I.next S'.size S'.calm (bA kp' (by kernel_rfl)) (bA kp' (by kernel_rfl)) F',(bA kp' (by kernel_rfl)).trans h1,r9.1,fun b hb=>(F'.block b (hz2 b hb) id).trans (hz b hb)⟩
 ·rintro a w ⟨I,h1,h4,hz⟩
  obtain ⟨vo,rows,hB,D⟩:=I.deep
  rw [List.take_length] at D
  have hone:=dx D.own
  have htop:=I.top
  have hbse:=I.floor
  refine wp_seq (bQ JD ?_)
  simp only [wpL]
  intro o hd ho
  refine lZ hdA hagg szA ho I.e3 hB ?_
  rw [hd]
  clear hd ho o
  intro o hd ho
  refine eW (v:=.agg #[vo]) szA ho ?_ (by rw [aJ (by rw [I.size];decide),if_pos rfl]) (by simp [Value.cells,cr hone]) hone rfl I.b1 ?_
  ·rw [aJ (by rw [I.size];decide),if_neg (by decide)];exact I.e2
  intro w6 hB6 g6 _
  rw [hd]
  clear hd ho o
  refine wp_ret ?_
  have F6:Fut (fun b=>b=w0.heap.size + 1) w w6:=cK g6 fun b e=>by cases e;rfl
  refine ⟨by rw [aP,aP];exact I.calm,.agg #[vo],jk (x:=2) (by kernel_rfl) ?_ (cU (vs:=[vo]) hdA hagg szA rfl (fun j u hj=>by
   cases j with
   | zero=>simp at hj;subst hj;exact bP hB6
   | succ j=>simp at hj)),vo,rows,rfl,I.fut.trans F6 (fun _ h=>h) (fun b hb h=>by omega),?_⟩
  ·have:((a.put (some 24) (.agg #[vo])).put none undef).eval (.tmp 2) = .pointer (some ⟨w0.heap.size + 1,0,none⟩):=by
    show (a.put (some 24) (.agg #[vo])).eval (.tmp 2)=_
    rw [aJ (by rw [I.size];decide),if_neg (by decide)];exact I.e2
   exact this
  ·refine ⟨?_,D.len,fun b hb=>Nat.le_trans (by omega) (D.home b hb),?_,fun j r b hr hb=>⟨Nat.le_trans (by omega) (D.rowF j r b hr hb).1,(D.rowF j r b hr hb).2⟩,D.apart⟩
   ·exact dU D.own fun g hg=>F6.block g (D.own.lt g hg).2 fun e=>by have:w4.heap.size≤g:=D.home g hg;omega
   ·exact fun j r hr=>(D.row j r hr).same fun g hg=>F6.block g ((D.row j r hr).lt hg) fun e=>by have:w4.heap.size≤g:=(D.rowF j r g hr hg).1;omega
end Go.Mat

namespace Go.Mat
open Go Go.Den Go.Proofs Go.RowKit
set_option maxRecDepth 100000
theorem ae {a:Act} {d t:Nat} {v:Value} (h:d≠t):(a.put (some d) v).eval (.tmp t)=a.eval (.tmp t):=by
 simp [Act.put,Act.eval,Array.getD_eq_getD_getElem?,Array.getElem?_setIfInBounds_ne h]
theorem ay {a:Act} {t:Nat} {v:Value} (h:t < a.tmps.size):(a.put (some t) v).eval (.tmp t)=v:=uZ h
theorem au {a:Act} {v:Value}:a.eval (.const v)=v:=rfl
theorem cC {id:Nat} {Q:Exit→Act→World→Prop} {a:Act} {w:World} (h:Q .normal a w):Exit.inBlock id Q (.exit id) a w:=by
 show if id=id then Q .normal a w else Q (.exit id) a w
 rw [if_pos rfl]
 exact h
theorem iZ {a:Act} {v:Value}:a.put none v=a:=rfl
structure St0 (w0 w3:World) (Z:Nat→Prop) (v:Value) (T:U) (e:List U):Prop where
 size:w3.heap.size=w0.heap.size + 3
 fut:Fut (fun _=>False) w0 w3
 zlt:∀ b,Z b→b < w0.heap.size
 tab:aR w3 Z TRC v T
 box3:w3.heap[w0.heap.size]? = some (.cells #[v] 24 (0,0))
 box5:bz w3 Z EC (w0.heap.size + 1) 0 e
 box6:w3.heap[w0.heap.size + 2]? = some (.cells #[.slice none 0 0] 24 (0,0))
structure StJ (n:Nat) (w0 w3:World) (B7:Nat) (i:Int) (vo:Value) (rows:List Value) (xs:List U) (a:Act) (w:World):Prop where
 size:a.tmps.size=n
 calm:a.defers=[]
 e1:a.eval (.tmp 1) = .int .i64 i
 e3:a.eval (.tmp 3) = .pointer (some ⟨w0.heap.size,0,none⟩)
 e5:a.eval (.tmp 5) = .pointer (some ⟨w0.heap.size + 1,0,none⟩)
 e6:a.eval (.tmp 6) = .pointer (some ⟨w0.heap.size + 2,0,none⟩)
 e7:a.eval (.tmp 7) = .pointer (some ⟨B7,0,none⟩)
 old:∀ b,b < w0.heap.size + 3→w.heap[b]? = w3.heap[b]?
 fut:Fut (fun _=>False) w0 w
 b7:w.heap[B7]? = some (.cells #[vo] 24 (0,0))
 deep:eX (fun b=>w0.heap.size + 3≤b∧b≠B7) w vo rows xs
 lo:w0.heap.size + 3≤B7
section
variable {n:Nat} {w0 w3:World} {B7:Nat} {i:Int} {vo:Value} {rows:List Value} {xs:List U} {a a':Act} {w w':World} {Z:Nat→Prop} {v:Value} {T:U} {e:List U}
theorem StJ.b7lt (H:StJ n w0 w3 B7 i vo rows xs a w):B7 < w.heap.size:=(Array.getElem?_eq_some_iff.1 H.b7).1
theorem StJ.next (H:StJ n w0 w3 B7 i vo rows xs a w) (hs:a'.tmps.size=n) (hd:a'.defers=a.defers) (h1:a'.eval (.tmp 1)=a.eval (.tmp 1)) (h3:a'.eval (.tmp 3)=a.eval (.tmp 3)) (h5:a'.eval (.tmp 5)=a.eval (.tmp 5)) (h6:a'.eval (.tmp 6)=a.eval (.tmp 6)) (h7:a'.eval (.tmp 7)=a.eval (.tmp 7))
  (F:Fut (fun _=>False) w w'):StJ n w0 w3 B7 i vo rows xs a' w' where
 size:=hs
 calm:=hd.trans H.calm
 e1:=h1.trans H.e1
 e3:=h3.trans H.e3
 e5:=h5.trans H.e5
 e6:=h6.trans H.e6
 e7:=h7.trans H.e7
 old:=fun b hb=>(F.block b (by have:=H.b7lt;have:=H.lo;omega) id).trans (H.old b hb)
 fut:=H.fut.trans F (fun _ h=>h) (fun _ _ h=>h)
 b7:=(F.block B7 H.b7lt id).trans H.b7
 deep:=H.deep.same fun b _ hb=>F.block b hb id
 lo:=H.lo
theorem StJ.put (H:StJ n w0 w3 B7 i vo rows xs a w) {d:Nat} {u:Value} (hd:8≤d):StJ n w0 w3 B7 i vo rows xs (a.put (some d) u) w:=
 H.next (by rw [size_put];exact H.size) (by rw [aP]) (ae (by omega)) (ae (by omega)) (ae (by omega)) (ae (by omega)) (ae (by omega)) (Fut.refl _ w)
def fo (i:Int) (T:U) (e xs:List U) (ex:List (Nat × SV)):List (Nat × SV):=ex ++ [(1,vi (.i i)),(3,.rptr [TRC] [T]),(5,.rptr EC e),(7,.rptr [TRC] [.l xs])]
theorem StJ.slots (H:StJ n w0 w3 B7 i vo rows xs a w) (S:St0 w0 w3 Z v T e) (hi:IntKind.i64.min≤i∧i≤IntKind.i64.max) {G:Nat→Value} {ex:List (Nat × SV)} {Z8:Nat→Prop} (h8:∀ p ∈ ex,ag w Z8 G p.2 (a.tmps.getD p.1 undef)) (hz8:∀ b,Z8 b→b < w.heap.size) (t:Nat):ag w (fun b=>b < w.heap.size) G (get (fo i T e xs ex) t) (a.tmps.getD t undef):=by
 have hlo:=H.lo
 have hlt:=H.b7lt
 have S3:Stays w3 w Z (fun b=>b < w.heap.size):=⟨fun b hb=>by have:=S.zlt b hb;omega,fun b hb=>H.old b (by have:=S.zlt b hb;omega)⟩
 unfold fo
 induction ex with
 | cons p r ih=>
  rw [List.cons_append,aF]
  split
  ·rename_i h;subst h
   exact ag.mono ⟨hz8,fun _ _=>rfl⟩ _ _ (h8 p (List.mem_cons_self ..))
  ·exact ih fun q hq=>h8 q (List.mem_cons_of_mem _ hq)
 | nil=>
 rw [List.nil_append,aF]
 split
 ·rename_i h;subst h;exact ⟨H.e1,hi⟩
 rw [aF]
 split
 ·rename_i h;subst h
  exact ⟨_,0,H.e3,by omega,⟨v,bP ((H.old _ (by omega)).trans S.box3),aR.mono S3 _ _ _ S.tab⟩,trivial⟩
 rw [aF]
 split
 ·rename_i h;subst h
  exact ⟨_,0,H.e5,by omega,bz.mono S3 EC _ _ _ (H.old _ (by omega)) S.box5⟩
 rw [aF]
 split
 ·rename_i h;subst h
  exact ⟨_,0,H.e7,hlt,⟨vo,bP H.b7,kJ (Z:=fun b=>b < w.heap.size) (fun _ h=>h) (fun b hb=>(H.deep.own.lt b (by rw [← dk H.deep.own];exact hb)).2) (by rw [← H.deep.len];exact H.deep.own) (H.deep.reps fun j r b hr hb=>(H.deep.row j r hr).lt hb)⟩,trivial⟩
 ·trivial
def jD (ops:Array Oper) (l:List Nat):Bool:=ops.toList.all fun o=>match o.dst with | some d=>!dZ d l | none=>true
theorem aj {ops:Array Oper} {l:List Nat} (hf:jD ops l=true) (kp:∀ t,(∀ o ∈ ops.toList,o.dst≠some t)→a'.tmps.getD t undef=a.tmps.getD t undef) {t:Nat} (ht:dZ t l=true):a'.eval (.tmp t)=a.eval (.tmp t):=
 kp t fun o ho e=>by
  have:=List.all_eq_true.1 hf o ho
  rw [e] at this
  simp [ht] at this
theorem ch {C:Ctx} (hP:C.P=PR) (hC:C.Ok) (hpan:∀ s σ,¬ C.pan s σ) {id:Nat} {ops:Array Oper} (hdef:ops.toList.all (fun o=>!dy o)=true) (hok:bg n ops.toList=true) (hfr:jD ops [1,3,5,6,7]=true)
  (H:StJ n w0 w3 B7 i vo rows xs a w) (S:St0 w0 w3 Z v T e) (hi:IntKind.i64.min≤i∧i≤IntKind.i64.max) {ex:List (Nat × SV)} {Z8:Nat→Prop} (h8:∀ p ∈ ex,ag w Z8 (fun _=>.pointer none) p.2 (a.tmps.getD p.1 undef)) (hz8:∀ b,Z8 b→b < w.heap.size) {k:St→Prop} (h:ak C ops.toList ops.toList ⟨fo i T e xs ex,[]⟩ k) :
  (Code.region id ops false).wp PR (fun ex a' w'=>ex = .normal∧StJ n w0 w3 B7 i vo rows xs a' w'∧Fut (fun _=>False) w w'∧(∀ t,(∀ o ∈ ops.toList,o.dst≠some t)→a'.tmps.getD t undef=a.tmps.getD t undef)∧
    ∃ σ' Z' G',k σ'∧Sim PR ⟨w,fun _=>False,fun _=>False,fun b=>b < w.heap.size,false,false,fun _=>.pointer none,a.defers⟩ n σ' a' w' Z' G') a w:=by
 rw [← hP]
 refine bJ hC hpan hdef hok (G:=fun _=>.pointer none) (Z:=fun b=>b < w.heap.size) H.size (H.slots S hi h8 hz8) (fun _ h=>h) (fun _=>rfl) h ?_
 intro σ' a' w' Z' G' hk S' kp
 exact ⟨rfl,H.next S'.size S'.calm (aj hfr kp rfl) (aj hfr kp rfl) (aj hfr kp rfl) (aj hfr kp rfl) (aj hfr kp rfl) S'.fut,S'.fut,kp,σ',Z',G',hk,S'⟩
theorem Hm {c:Code} (hc:cd c [(some 3,.box 24 (.tmp 0)),(some 5,.box 46 (.tmp 2)),(some 6,.alloc 24)]) {vs:Array Value} (hn:6 < n) (hs:a.tmps.size=n) (hd0:a.defers=[]) (h0:a.eval (.tmp 0) = .agg #[v]) (h1:a.eval (.tmp 1) = .int .i64 i) (h2:a.eval (.tmp 2) = .agg vs)
  (hv:aR w0 Z TRC v T) (hZ:∀ b,Z b→b < w0.heap.size) (hvs:aX w0 Z EC vs.toList e) :
  c.wp PR (fun ex a' w3=>ex = .normal∧a'.tmps.size=n∧a'.defers=[]∧a'.eval (.tmp 1) = .int .i64 i∧a'.eval (.tmp 3) = .pointer (some ⟨w0.heap.size,0,none⟩)∧a'.eval (.tmp 5) = .pointer (some ⟨w0.heap.size + 1,0,none⟩)∧a'.eval (.tmp 6) = .pointer (some ⟨w0.heap.size + 2,0,none⟩)∧St0 w0 w3 Z v T e) a w0:=by
 obtain ⟨iT,z,hi,hz,hzc⟩:=zT
 have hv1:v.oneCell' = true:=hv.one
 refine bQ hc ?_
 simp only [wpL]
 intro o hd ho
 refine np ho ?_
 rw [hd]
 clear hd ho o
 intro o hd ho
 refine np ho ?_
 rw [hd]
 clear hd ho o
 intro o hd ho
 refine gO ho hi hz ?_
 rw [hd,hzc]
 clear hd ho o
 have hc1:(a.eval (.tmp 0)).cells = #[v]:=by rw [h0];simp [Value.cells,cr hv1]
 have hc2:((a.put (some 3) (.pointer (some ⟨w0.heap.size,0,none⟩))).eval (.tmp 2)).cells=vs:=by
  rw [ae (by decide),h2]
  rfl
 rw [hc1,hc2]
 generalize hw1:w0.alloc (.cells #[v] 24)=w1
 generalize hw2:w1.alloc (.cells vs 46)=w2
 generalize hw3:w2.alloc (.cells #[.slice none 0 0] 24)=w3
 have s1:w1.heap.size=w0.heap.size + 1:=by rw [← hw1];simp
 have s2:w2.heap.size=w0.heap.size + 2:=by rw [← hw2];simp [s1]
 have s3:w3.heap.size=w0.heap.size + 3:=by rw [← hw3];simp [s2]
 have p1:w1.heap[w0.heap.size]? = some (.cells #[v] 24 (0,0)):=by rw [← hw1];exact heap_alloc_new w0 _
 have p2:w2.heap[w0.heap.size + 1]? = some (.cells vs 46 (0,0)):=by rw [← hw2,← s1];exact heap_alloc_new w1 _
 have p3:w3.heap[w0.heap.size + 2]? = some (.cells #[.slice none 0 0] 24 (0,0)):=by rw [← hw3,← s2];exact heap_alloc_new w2 _
 have o1:∀ b,b < w0.heap.size→w1.heap[b]? = w0.heap[b]?:=fun b hb=>by rw [← hw1];exact heap_alloc_old _ _ hb
 have o2:∀ b,b < w0.heap.size + 1→w2.heap[b]? = w1.heap[b]?:=fun b hb=>by rw [← hw2];exact heap_alloc_old _ _ (by omega)
 have o3:∀ b,b < w0.heap.size + 2→w3.heap[b]? = w2.heap[b]?:=fun b hb=>by rw [← hw3];exact heap_alloc_old _ _ (by omega)
 have F3:Fut (fun _=>False) w0 w3:=by
  refine ⟨by rw [← hw3,← hw2,← hw1];rfl,by rw [← hw3,← hw2,← hw1];rfl,by rw [← hw3,← hw2,← hw1];rfl,by omega,fun k hk _=>?_⟩
  rw [o3 k (by omega),o2 k (by omega),o1 k hk]
 rw [s1,s2]
 have S3:Stays w0 w3 Z Z:=⟨fun _ h=>h,fun b hb=>F3.block b (hZ b hb) id⟩
 refine ⟨by trivial,by simp only [size_put];exact hs,by simp only [aP];exact hd0,by rw [ae (by decide),ae (by decide),ae (by decide)];exact h1,?_,?_,?_,s3,F3,hZ,aR.mono S3 _ _ _ hv,(o3 _ (by omega)).trans ((o2 _ (by omega)).trans p1),?_,p3⟩
 ·rw [ae (by decide),ae (by decide),ay (by omega)]
 ·rw [ae (by decide),ay (by rw [size_put];omega)]
 ·rw [ay (by rw [size_put,size_put];omega)]
 ·refine aX.cells (aX.mono S3 hvs) fun j u hj=>?_
  rw [cell_of_row w3 _ _ vs 46 (0,0) ((o3 _ (by omega)).trans p2),Nat.zero_add,← hj,Array.getElem?_toList]
theorem Hy {c:Code} {d:Nat} {f:FuncId} {fn:Func} (hf:PR.funcs[f]? = some fn) (hbody:fn.body.isNone=false) (hname:(fn.name == "runtime.NumGoroutine")=false) (hcp:sa f)
  (hc:cd c [(some d,.load 24 (.tmp 3)),(some (d + 1),.call { callee:=.value (.func f),args:=#[.tmp d],argTypes:=#[24] }),(some 7,.alloc 24),(none,.store 24 (.tmp 7) (.tmp (d + 1)))]) (hd:8 < d∧d + 1 < n)
  (hs:a.tmps.size=n) (hd0:a.defers=[]) (h1:a.eval (.tmp 1) = .int .i64 i) (h3:a.eval (.tmp 3) = .pointer (some ⟨w0.heap.size,0,none⟩)) (h5:a.eval (.tmp 5) = .pointer (some ⟨w0.heap.size + 1,0,none⟩)) (h6:a.eval (.tmp 6) = .pointer (some ⟨w0.heap.size + 2,0,none⟩))
  (S:St0 w0 w Z v T e) (hT:T.list.length≤1048576) (hrows:∀ j,j < T.list.length→(U.at T.list j).list.length≤1048576) :
  c.wp PR (fun ex a' w'=>ex = .normal∧∃ B7 vo rows,StJ n w0 w B7 i vo rows T.list a' w') a w:=by
 obtain ⟨iT,z,hi,hz,hzc⟩:=zT
 obtain ⟨dA,hdA,hagg⟩:=uTb
 have hsz:=S.size
 refine bQ hc ?_
 simp only [wpL]
 intro o hd' ho
 refine lZ hdA hagg szA ho h3 S.box3 ?_
 rw [hd']
 clear hd' ho o
 intro o hd' ho
 refine yG ho hf hbody hname ?_
 have hargs:(List.map (a.put (some d) (.agg #[v])).eval #[Operand.tmp d].toList).toArray = #[.agg #[v]]:=by
  simp [ay (a:=a) (v:=.agg #[v]) (show d < a.tmps.size by omega)]
 rw [hargs]
 refine (hcp w Z v T S.tab (fun b hb=>by have:=S.zlt b hb;omega) hT hrows).mono ?_
 rintro ex w1 ⟨vo,rows,rfl,F1,D1⟩
 refine ⟨_,rfl,?_⟩
 rw [hd']
 clear hd' ho o
 intro o hd' ho
 refine gO ho hi hz ?_
 rw [hd',hzc]
 clear hd' ho o
 intro o hd' ho
 have hsz1:=F1.size
 refine eW (v:=.agg #[vo]) (b:=w1.heap.size) szA ho (ay (by simp only [size_put];omega)) (by rw [ae (by omega),ay (by simp only [size_put];omega)]) (by simp [Value.cells,cr (dx D1.own)]) (dx D1.own) (c:=#[.slice none 0 0]) rfl (heap_alloc_new w1 _) ?_
 intro w2 hB g2 hsz2
 rw [hd',iZ]
 clear hd' ho o
 have hob:∀ b,b < w1.heap.size→w2.heap[b]? = w1.heap[b]?:=fun b hb=>(g2.block b (by simp;omega) (by simp;omega)).trans (heap_alloc_old _ _ hb)
 have hsz2':w2.heap.size=w1.heap.size + 1:=by rw [hsz2];simp
 have F2:Fut (fun _=>False) w1 w2:=⟨g2.os,g2.tape,g2.output,by omega,fun k hk _=>hob k hk⟩
 refine ⟨by trivial,w1.heap.size,vo,rows,?_⟩
 refine { size:=by simp only [size_put];exact hs,calm:=by simp only [aP];exact hd0,e1:=?_,e3:=?_,e5:=?_,e6:=?_,e7:=ay (by simp only [size_put];omega),old:=fun b hb=>(hob b (by omega)).trans (F1.block b (by omega) id),fut:=S.fut.trans (F1.trans F2 (N:=fun _=>False) (fun _ h=>h) (fun _ _ h=>h)) (fun _ h=>h) (fun _ _ h=>h),b7:=hB,deep:=?_,lo:=by omega }
 ·rw [ae (by omega),ae (by omega),ae (by omega)];exact h1
 ·rw [ae (by omega),ae (by omega),ae (by omega)];exact h3
 ·rw [ae (by omega),ae (by omega),ae (by omega)];exact h5
 ·rw [ae (by omega),ae (by omega),ae (by omega)];exact h6
 ·have D2:=D1.same (w':=w2) fun b _ hb=>hob b hb
  refine ⟨D2.own,D2.len,fun b hb=>?_,D2.row,fun j r b hr hb=>?_,D2.apart⟩
  ·have h1:w.heap.size≤b:=D1.home b hb
   have h2:=(D1.own.lt b hb).2
   exact ⟨by omega,by omega⟩
  ·have h1:w.heap.size≤b:=(D1.rowF j r b hr hb).1
   have h2:=(D1.row j r hr).lt hb
   exact ⟨⟨by omega,by omega⟩,(D1.rowF j r b hr hb).2⟩
theorem yy {c:Code} {d:Nat} (hc:cd c [(some (d),.fieldAddr 24 (.tmp 7) 0),(some (d + 1),.load 22 (.tmp d)),(some (d + 2),.buildSlice 22 1 #[(0,.const (.slice none 0 0))]),(some (d + 3),.call { callee:=.builtin .append,args:=#[.tmp (d + 1),.tmp (d + 2)],argTypes:=#[22,22] }),(some (d + 4),.fieldAddr 24 (.tmp 7) 0),(none,.store 22 (.tmp (d + 4)) (.tmp (d + 3)))]) (hd0:8 < d∧d + 4 < n)
  (H:StJ n w0 w3 B7 i vo rows xs a w) (hx:xs.length < 1048576):c.wp PR (fun ex a' w'=>ex = .normal∧∃ vo' rows',StJ n w0 w3 B7 i vo' rows' (xs ++ [.l []]) a' w') a w:=by
 obtain ⟨fd,f1,f2,f3⟩:=fdT
 have hs:=H.size
 have hlo:=H.lo
 have hlt:=H.b7lt
 refine bQ hc ?_
 simp only [wpL]
 intro o hd ho
 refine bn (k:=0) (b:=B7) (off:=0) ho f1 f3 (by simp (disch:=first | omega | (simp only [size_put];omega)) only [ae,ay,au,H.e1,H.e3,H.e5,H.e6,H.e7]) ?_
 rw [hd]
 clear hd ho o
 rw [f2,Nat.zero_add]
 intro o hd ho
 refine fp (b:=B7) (off:=0) uT rfl ho (by simp (disch:=first | omega | (simp only [size_put];omega)) only [ae,ay,au,H.e1,H.e3,H.e5,H.e6,H.e7]) (bP H.b7) ?_
 rw [hd]
 clear hd ho o
 intro o hd ho
 refine su uT cR smR ho rfl rfl ?_
 rw [hd]
 clear hd ho o
 have D1:=H.deep.same (w':=w.alloc (.cells #[.slice none 0 0] 47)) fun b _ hb=>heap_alloc_old _ _ hb
 have hne:∀ b,vo.ownBlock=some b→b < w.heap.size:=fun b hb=>(H.deep.own.lt b hb).2
 intro o hd ho
 refine tf (vo:=vo) (bs:=w.heap.size) (cap:=1) (r:=.slice none 0 0) (row:=.l []) uT cR smR ho (by simp (disch:=first | omega | (simp only [size_put];omega)) only [ae,ay,au,H.e1,H.e3,H.e5,H.e6,H.e7]) (by simp (disch:=first | omega | (simp only [size_put];omega)) only [ae,ay,au,H.e1,H.e3,H.e5,H.e6,H.e7]) (bP (heap_alloc_new w _)) D1 (fe.nil _ _ _) (fun b hb=>by cases hb) (by simp;omega) (by unfold room;omega) ?_
 intro vo' w2 D2 g2
 rw [hd]
 clear hd ho o
 have hob:∀ b,b < w.heap.size→vo.ownBlock≠some b→w2.heap[b]? = w.heap[b]?:=fun b hb hn=>(g2.block b (by simp;omega) (fun e=>hn e.symm)).trans (heap_alloc_old _ _ hb)
 have hsz2:=g2.size
 have hsz2:w.heap.size + 1≤w2.heap.size:=by simpa using hsz2
 have hB2:w2.heap[B7]? = some (.cells #[vo] 24 (0,0)):=(hob B7 hlt (fun e=>(H.deep.home B7 e).2 rfl)).trans H.b7
 intro o hd ho
 refine bn (k:=0) (b:=B7) (off:=0) ho f1 f3 (by simp (disch:=first | omega | (simp only [size_put];omega)) only [ae,ay,au,H.e1,H.e3,H.e5,H.e6,H.e7]) ?_
 rw [hd]
 clear hd ho o
 rw [f2,Nat.zero_add]
 intro o hd ho
 refine eW (b:=B7) (v:=vo') (c:=#[vo]) szT ho (by simp (disch:=first | omega | (simp only [size_put];omega)) only [ae,ay,au,H.e1,H.e3,H.e5,H.e6,H.e7]) (by simp (disch:=first | omega | (simp only [size_put];omega)) only [ae,ay,au,H.e1,H.e3,H.e5,H.e6,H.e7]) (cr (dx D2.own)) (dx D2.own) rfl hB2 ?_
 intro w3' hB3 g3 hsz3
 rw [hd,iZ]
 clear hd ho o
 have hob3:∀ b,b < w2.heap.size→b≠B7→w3'.heap[b]? = w2.heap[b]?:=fun b hb hn=>g3.block b hb fun e=>hn (by injection e)
 refine ⟨by trivial,vo',rows ++ [.slice none 0 0],?_⟩
 refine { size:=by simp only [size_put];exact hs,calm:=by simp only [aP];exact H.calm,e1:=(by simp (disch:=first | omega | (simp only [size_put];omega)) only [ae,ay,au,H.e1,H.e3,H.e5,H.e6,H.e7]),e3:=(by simp (disch:=first | omega | (simp only [size_put];omega)) only [ae,ay,au,H.e1,H.e3,H.e5,H.e6,H.e7]),e5:=(by simp (disch:=first | omega | (simp only [size_put];omega)) only [ae,ay,au,H.e1,H.e3,H.e5,H.e6,H.e7]),e6:=(by simp (disch:=first | omega | (simp only [size_put];omega)) only [ae,ay,au,H.e1,H.e3,H.e5,H.e6,H.e7]),e7:=(by simp (disch:=first | omega | (simp only [size_put];omega)) only [ae,ay,au,H.e1,H.e3,H.e5,H.e6,H.e7]),old:=fun b hb=>?_,fut:=?_,b7:=hB3,deep:=D2.same fun b hb hl=>hob3 b hl hb.2,lo:=hlo }
 ·refine (hob3 b (by omega) (by omega)).trans ((hob b (by omega) fun e=>?_).trans (H.old b hb))
  have:=(H.deep.home b e).1
  omega
 ·have hbw:∀ k,k < w0.heap.size→w3'.heap[k]? = w0.heap[k]?:=fun k hk=>(hob3 k (by omega) (by omega)).trans ((hob k (by omega) fun e=>by have:=(H.deep.home k e).1;omega).trans (H.fut.block k hk id))
  exact ⟨(g3.os.trans g2.os).trans H.fut.os,(g3.tape.trans g2.tape).trans H.fut.tape,(g3.output.trans g2.output).trans H.fut.output,by have:=H.fut.size;omega,fun k hk _=>hbw k hk⟩
theorem IY (m:Nat) (hm:m < 4096) {w:World}:(binOp .quo 3 (.int .i64 (m:Int)) (.int .i64 8)).run KW.P w = .ok (.int .i64 ((m / 8:Nat):Int)) w:=by
 have h4:IntKind.i64.wrap ((m:Int) / 8)=(m:Int) / 8:=i64_in (by omega) (by omega)
 simp [binOp,Op.intArith,Op.intDiv,h4]
theorem zA {c:Code} {d m:Nat} (hm:m < 4096) (hc:cd c [(some (d),.fieldAddr 24 (.tmp 7) 0),(some (d + 1),.load 22 (.tmp d)),(some (d + 2),.move (.tmp 1)),(some (d + 3),.binOp .quo 3 (.tmp (d + 2)) (.const (.int .i64 8)) 3),(some (d + 4),.indexAddr 22 (.tmp (d + 1)) (.tmp (d + 3))),(some (d + 5),.load 47 (.tmp (d + 4))),(some (8),.assign (.tmp (d + 5)))]) (hd0:8 < d∧d + 5 < n)
  (H:StJ n w0 w3 B7 (m:Int) vo rows xs a w) (hx:m / 8 < xs.length):c.wp PR (fun ex a' w'=>ex = .normal∧StJ n w0 w3 B7 (m:Int) vo rows xs a' w'∧∃ r,rows[m / 8]? = some r∧a'.eval (.tmp 8)=r) a w:=by
 obtain ⟨fd,f1,f2,f3⟩:=fdT
 have hs:=H.size
 have hlen:=H.deep.len
 obtain ⟨r,hr⟩:∃ r,rows[m / 8]? = some r:=⟨_,List.getElem?_eq_getElem (by omega)⟩
 obtain ⟨g,cap,hvo⟩:∃ g cap,vo = .slice (some ⟨g,0,none⟩) rows.length cap:=by
  rcases H.deep.own.2 with ⟨_,h0⟩ | ⟨g,cap,_,h,_⟩
  ·omega
  ·exact ⟨g,cap,h⟩
 have hcell:w.cell? ⟨g,m / 8,none⟩=some r:=by
  have:=H.deep.own.cells (g:=g) (by rw [hvo];rfl) (m / 8) r hr
  rw [bp,Nat.zero_add] at this
  exact this
 refine bQ hc ?_
 simp only [wpL]
 intro o hd ho
 refine bn (k:=0) (b:=B7) (off:=0) ho f1 f3 (by simp (disch:=first | omega | (simp only [size_put];omega)) only [ae,ay,au,H.e1,H.e3,H.e5,H.e6,H.e7]) ?_
 rw [hd]
 clear hd ho o
 rw [f2,Nat.zero_add]
 intro o hd ho
 refine fp (b:=B7) (off:=0) uT rfl ho (by simp (disch:=first | omega | (simp only [size_put];omega)) only [ae,ay,au,H.e1,H.e3,H.e5,H.e6,H.e7]) (bP H.b7) ?_
 rw [hd]
 clear hd ho o
 intro o hd ho
 refine jy ho ?_
 rw [hd]
 clear hd ho o
 intro o hd ho
 refine fi (C:=KW) (i:=.i64) (j:=.i64) (m:=(m:Int)) (n:=8) (v:=.int .i64 ((m / 8:Nat):Int)) ho (by simp (disch:=first | omega | (simp only [size_put];omega)) only [ae,ay,au,H.e1,H.e3,H.e5,H.e6,H.e7]) rfl (IY m hm) ?_
 rw [hd]
 clear hd ho o
 intro o hd ho
 refine gy (kd:=.i64) (b:=g) (off:=0) (len:=rows.length) (c:=cap) (j:=((m / 8:Nat):Int)) ho uT szR (by simp (disch:=first | omega | (simp only [size_put];omega)) only [ae,ay,au,H.e1,H.e3,H.e5,H.e6,H.e7,hvo]) (by simp (disch:=first | omega | (simp only [size_put];omega)) only [ae,ay,au,H.e1,H.e3,H.e5,H.e6,H.e7]) (by omega) (by omega) ?_
 rw [hd]
 clear hd ho o
 rw [show 0 + ((m / 8:Nat):Int).toNat * 1=m / 8 by omega]
 intro o hd ho
 refine fp (b:=g) (off:=m / 8) uR rfl ho (by simp (disch:=first | omega | (simp only [size_put];omega)) only [ae,ay,au,H.e1,H.e3,H.e5,H.e6,H.e7]) hcell ?_
 rw [hd]
 clear hd ho o
 intro o hd ho
 refine eY ho ?_
 rw [hd]
 clear hd ho o
 refine ⟨by trivial,?_,r,hr,(by simp (disch:=first | omega | (simp only [size_put];omega)) only [ae,ay,au,H.e1,H.e3,H.e5,H.e6,H.e7])⟩
 exact ((((((H.put (by omega)).put (by omega)).put (by omega)).put (by omega)).put (by omega)).put (by omega)).put (by omega)
theorem DD {c:Code} {d m:Nat} (hm:m < 4096) (hc:cd c [(some (d),.fieldAddr 24 (.tmp 7) 0),(some (d + 1),.load 22 (.tmp d)),(some (d + 2),.move (.tmp 1)),(some (d + 3),.binOp .quo 3 (.tmp (d + 2)) (.const (.int .i64 8)) 3),(some (d + 4),.move (.tmp 8)),(some (d + 5),.indexAddr 22 (.tmp (d + 1)) (.tmp (d + 3))),(none,.store 47 (.tmp (d + 5)) (.tmp (d + 4)))]) (hd0:8 < d∧d + 5 < n)
  (H:StJ n w0 w3 B7 (m:Int) vo rows xs a w) (hx:m / 8 < xs.length) {r:Value} {u:U} (h8:a.eval (.tmp 8)=r) (hr:gY w r u) (hrF:∀ b,r.ownBlock=some b→w0.heap.size + 3≤b∧b≠B7∧vo.ownBlock≠some b∧∀ (j:Nat) (r':Value),j≠m / 8→rows[j]? = some r'→r'.ownBlock≠some b) :
  c.wp PR (fun ex a' w'=>ex = .normal∧∃ vo' rows',StJ n w0 w3 B7 (m:Int) vo' rows' (xs.set (m / 8) u) a' w') a w:=by
 obtain ⟨fd,f1,f2,f3⟩:=fdT
 have hs:=H.size
 have hlen:=H.deep.len
 have hlo:=H.lo
 have hlt:=H.b7lt
 obtain ⟨g,cap,hvo⟩:∃ g cap,vo = .slice (some ⟨g,0,none⟩) rows.length cap:=by
  rcases H.deep.own.2 with ⟨_,h0⟩ | ⟨g,cap,_,h,_⟩
  ·omega
  ·exact ⟨g,cap,h⟩
 have hgF:=H.deep.home g (by rw [hvo];rfl)
 refine bQ hc ?_
 simp only [wpL]
 intro o hd ho
 refine bn (k:=0) (b:=B7) (off:=0) ho f1 f3 (by simp (disch:=first | omega | (simp only [size_put];omega)) only [ae,ay,au,H.e1,H.e3,H.e5,H.e6,H.e7]) ?_
 rw [hd]
 clear hd ho o
 rw [f2,Nat.zero_add]
 intro o hd ho
 refine fp (b:=B7) (off:=0) uT rfl ho (by simp (disch:=first | omega | (simp only [size_put];omega)) only [ae,ay,au,H.e1,H.e3,H.e5,H.e6,H.e7]) (bP H.b7) ?_
 rw [hd]
 clear hd ho o
 intro o hd ho
 refine jy ho ?_
 rw [hd]
 clear hd ho o
 intro o hd ho
 refine fi (C:=KW) (i:=.i64) (j:=.i64) (m:=(m:Int)) (n:=8) (v:=.int .i64 ((m / 8:Nat):Int)) ho (by simp (disch:=first | omega | (simp only [size_put];omega)) only [ae,ay,au,H.e1,H.e3,H.e5,H.e6,H.e7]) rfl (IY m hm) ?_
 rw [hd]
 clear hd ho o
 intro o hd ho
 refine jy ho ?_
 rw [hd]
 clear hd ho o
 intro o hd ho
 refine gy (kd:=.i64) (b:=g) (off:=0) (len:=rows.length) (c:=cap) (j:=((m / 8:Nat):Int)) ho uT szR (by simp (disch:=first | omega | (simp only [size_put];omega)) only [ae,ay,au,H.e1,H.e3,H.e5,H.e6,H.e7,hvo]) (by simp (disch:=first | omega | (simp only [size_put];omega)) only [ae,ay,au,H.e1,H.e3,H.e5,H.e6,H.e7]) (by omega) (by omega) ?_
 rw [hd]
 clear hd ho o
 rw [show 0 + ((m / 8:Nat):Int).toNat * 1=m / 8 by omega]
 intro o hd ho
 refine Ik (g:=g) (k:=m / 8) (r:=r) szR ho (by simp (disch:=first | omega | (simp only [size_put];omega)) only [ae,ay,au,H.e1,H.e3,H.e5,H.e6,H.e7]) (by rw [hvo];rfl) (by simp (disch:=first | omega | (simp only [size_put];omega)) only [ae,ay,au,H.e1,H.e3,H.e5,H.e6,H.e7,h8]) H.deep (by omega) hr (fun b hb=>⟨⟨(hrF b hb).1,(hrF b hb).2.1⟩,(hrF b hb).2.2⟩) ?_
 intro w2 D2 g2 hsz2
 rw [hd,iZ]
 clear hd ho o
 have hob:∀ b,b < w.heap.size→b≠g→w2.heap[b]? = w.heap[b]?:=fun b hb hn=>g2.block b hb fun e=>hn (by injection e)
 refine ⟨by trivial,vo,rows.set (m / 8) r,?_⟩
 refine { size:=by simp only [size_put];exact hs,calm:=by simp only [aP];exact H.calm,e1:=(by simp (disch:=first | omega | (simp only [size_put];omega)) only [ae,ay,au,H.e1,H.e3,H.e5,H.e6,H.e7]),e3:=(by simp (disch:=first | omega | (simp only [size_put];omega)) only [ae,ay,au,H.e1,H.e3,H.e5,H.e6,H.e7]),e5:=(by simp (disch:=first | omega | (simp only [size_put];omega)) only [ae,ay,au,H.e1,H.e3,H.e5,H.e6,H.e7]),e6:=(by simp (disch:=first | omega | (simp only [size_put];omega)) only [ae,ay,au,H.e1,H.e3,H.e5,H.e6,H.e7]),e7:=(by simp (disch:=first | omega | (simp only [size_put];omega)) only [ae,ay,au,H.e1,H.e3,H.e5,H.e6,H.e7]),old:=fun b hb=>(hob b (by omega) (by omega)).trans (H.old b hb),fut:=?_,b7:=(hob B7 hlt (Ne.symm hgF.2)).trans H.b7,deep:=D2,lo:=hlo }
 exact ⟨g2.os.trans H.fut.os,g2.tape.trans H.fut.tape,g2.output.trans H.fut.output,by have:=H.fut.size;omega,fun k hk _=>(hob k (by have:=H.fut.size;omega) (by omega)).trans (H.fut.block k hk id)⟩
theorem Cq {a1:Act} {vo':Value} {rows':List Value} {ys:List U} (H:StJ n w0 w3 B7 i vo rows xs a w) (D:eX (fun b=>w0.heap.size + 3≤b∧b≠B7) w vo' rows' ys) {x y:Operand} {K:Act→World→Prop} {Q:Exit→Act→World→Prop} {o:Oper} (ho:o.op = .store 22 x y) (hx:a1.eval x = .pointer (some ⟨B7,0,none⟩)) (hy:a1.eval y=vo')
  (hs:a1.tmps.size=n) (hd:a1.defers=[]) (h1:a1.eval (.tmp 1) = .int .i64 i) (h3:a1.eval (.tmp 3) = .pointer (some ⟨w0.heap.size,0,none⟩)) (h5:a1.eval (.tmp 5) = .pointer (some ⟨w0.heap.size + 1,0,none⟩)) (h6:a1.eval (.tmp 6) = .pointer (some ⟨w0.heap.size + 2,0,none⟩)) (h7:a1.eval (.tmp 7) = .pointer (some ⟨B7,0,none⟩))
  (hn:o.dst=none) (hK:∀ w2,StJ n w0 w3 B7 i vo' rows' ys a1 w2→K a1 w2):o.wp PR a1 w K Q:=by
 have hlo:=H.lo
 have hlt:=H.b7lt
 refine eW (b:=B7) (v:=vo') (c:=#[vo]) szT ho hx hy (cr (dx D.own)) (dx D.own) rfl H.b7 ?_
 intro w2 hB g2 hsz2
 rw [hn,iZ]
 have hob:∀ b,b < w.heap.size→b≠B7→w2.heap[b]? = w.heap[b]?:=fun b hb hn=>g2.block b hb fun e=>hn (by injection e)
 refine hK w2 { size:=hs,calm:=hd,e1:=h1,e3:=h3,e5:=h5,e6:=h6,e7:=h7,old:=fun b hb=>(hob b (by omega) (by omega)).trans (H.old b hb),fut:=?_,b7:=hB,deep:=D.same fun b hb hl=>hob b hl hb.2,lo:=hlo }
 exact ⟨g2.os.trans H.fut.os,g2.tape.trans H.fut.tape,g2.output.trans H.fut.output,by have:=H.fut.size;omega,fun k hk _=>(hob k (by have:=H.fut.size;omega) (by omega)).trans (H.fut.block k hk id)⟩
theorem Jc (m:Nat) (hm:m < 1073741824) {w:World}:(binOp .sub 3 (.int .i64 ((m + 1:Nat):Int)) (.int .i64 1)).run KW.P w = .ok (.int .i64 (m:Int)) w:=by
 have h4:IntKind.i64.wrap (m:Int)=(m:Int):=i64_in (by omega) (by omega)
 have h2:((m + 1:Nat):Int) - 1=(m:Int):=by omega
 simp only [binOp,Op.intArith,h2]
 simp [h4]
theorem Fz {c:Code} {d m:Nat} (hm:m < 1073741824) (hc:cd c [(some (d),.fieldAddr 24 (.tmp 7) 0),(some (d + 1),.load 22 (.tmp d)),(some (d + 2),.move (.tmp 9)),(some (d + 3),.binOp .sub 3 (.tmp (d + 2)) (.const (.int .i64 1)) 3),(some (d + 4),.slice 22 (.tmp (d + 1)) none (some (.tmp (d + 3))) none),(some (d + 5),.fieldAddr 24 (.tmp 7) 0),(none,.store 22 (.tmp (d + 5)) (.tmp (d + 4)))]) (hd0:9 < d∧d + 5 < n)
  (H:StJ n w0 w3 B7 i vo rows xs a w) (h9:a.eval (.tmp 9) = .int .i64 ((m + 1:Nat):Int)) (hx:m≤xs.length):c.wp PR (fun ex a' w'=>ex = .normal∧∃ vo' rows',StJ n w0 w3 B7 i vo' rows' (xs.take m) a' w'∧a'.eval (.tmp 9) = .int .i64 ((m + 1:Nat):Int)) a w:=by
 obtain ⟨fd,f1,f2,f3⟩:=fdT
 have hs:=H.size
 refine bQ hc ?_
 simp only [wpL]
 intro o hd ho
 refine bn (k:=0) (b:=B7) (off:=0) ho f1 f3 (by simp (disch:=first | omega | (simp only [size_put];omega)) only [ae,ay,au,H.e1,H.e3,H.e5,H.e6,H.e7]) ?_
 rw [hd]
 clear hd ho o
 rw [f2,Nat.zero_add]
 intro o hd ho
 refine fp (b:=B7) (off:=0) uT rfl ho (by simp (disch:=first | omega | (simp only [size_put];omega)) only [ae,ay,au,H.e1,H.e3,H.e5,H.e6,H.e7]) (bP H.b7) ?_
 rw [hd]
 clear hd ho o
 intro o hd ho
 refine jy ho ?_
 rw [hd]
 clear hd ho o
 intro o hd ho
 refine fi (C:=KW) (i:=.i64) (j:=.i64) (m:=((m + 1:Nat):Int)) (n:=1) (v:=.int .i64 (m:Int)) ho (by simp (disch:=first | omega | (simp only [size_put];omega)) only [ae,ay,au,H.e1,H.e3,H.e5,H.e6,H.e7,h9]) rfl (Jc m hm) ?_
 rw [hd]
 clear hd ho o
 intro o hd ho
 refine zC (kd:=.i64) (m:=m) (vo:=vo) uT szR ho (by simp (disch:=first | omega | (simp only [size_put];omega)) only [ae,ay,au,H.e1,H.e3,H.e5,H.e6,H.e7]) (by simp (disch:=first | omega | (simp only [size_put];omega)) only [ae,ay,au,H.e1,H.e3,H.e5,H.e6,H.e7]) H.deep hx ?_
 intro vo' D
 rw [hd]
 clear hd ho o
 intro o hd ho
 refine bn (k:=0) (b:=B7) (off:=0) ho f1 f3 (by simp (disch:=first | omega | (simp only [size_put];omega)) only [ae,ay,au,H.e1,H.e3,H.e5,H.e6,H.e7]) ?_
 rw [hd]
 clear hd ho o
 rw [f2,Nat.zero_add]
 intro o hd ho
 refine Cq H D ho (by simp (disch:=first | omega | (simp only [size_put];omega)) only [ae,ay,au,H.e1,H.e3,H.e5,H.e6,H.e7]) (by simp (disch:=first | omega | (simp only [size_put];omega)) only [ae,ay,au,H.e1,H.e3,H.e5,H.e6,H.e7]) (by simp only [size_put];exact hs) (by simp only [aP];exact H.calm) (by simp (disch:=first | omega | (simp only [size_put];omega)) only [ae,ay,au,H.e1,H.e3,H.e5,H.e6,H.e7]) (by simp (disch:=first | omega | (simp only [size_put];omega)) only [ae,ay,au,H.e1,H.e3,H.e5,H.e6,H.e7]) (by simp (disch:=first | omega | (simp only [size_put];omega)) only [ae,ay,au,H.e1,H.e3,H.e5,H.e6,H.e7]) (by simp (disch:=first | omega | (simp only [size_put];omega)) only [ae,ay,au,H.e1,H.e3,H.e5,H.e6,H.e7]) (by simp (disch:=first | omega | (simp only [size_put];omega)) only [ae,ay,au,H.e1,H.e3,H.e5,H.e6,H.e7]) hd ?_
 intro w2 H2
 exact ⟨by trivial,vo',rows.take m,H2,(by simp (disch:=first | omega | (simp only [size_put];omega)) only [ae,ay,au,H.e1,H.e3,H.e5,H.e6,H.e7,h9])⟩
theorem CH {c:Code} {d m:Nat} (hm:m < 1073741824) (hc:cd c [(some (d),.fieldAddr 24 (.tmp 7) 0),(some (d + 1),.load 22 (.tmp d)),(some (d + 2),.fieldAddr 24 (.tmp 7) 0),(some (d + 3),.load 22 (.tmp (d + 2))),(some (d + 4),.call { callee:=.builtin .len,args:=#[.tmp (d + 3)],argTypes:=#[22] }),(some (d + 5),.binOp .sub 3 (.tmp (d + 4)) (.const (.int .i64 1)) 3),(some (d + 6),.slice 22 (.tmp (d + 1)) none (some (.tmp (d + 5))) none),(some (d + 7),.fieldAddr 24 (.tmp 7) 0),(none,.store 22 (.tmp (d + 7)) (.tmp (d + 6)))]) (hd0:9 < d∧d + 7 < n)
  (H:StJ n w0 w3 B7 i vo rows xs a w) (hx:xs.length=m + 1):c.wp PR (fun ex a' w'=>ex = .normal∧∃ vo' rows',StJ n w0 w3 B7 i vo' rows' (xs.take m) a' w') a w:=by
 obtain ⟨fd,f1,f2,f3⟩:=fdT
 have hs:=H.size
 have hlen:=H.deep.len
 obtain ⟨A,cap,hvo⟩:∃ A cap,vo = .slice A (m + 1) cap:=by
  rcases H.deep.own.2 with ⟨_,h0⟩ | ⟨g,cap,_,h,_⟩
  ·omega
  ·exact ⟨_,cap,by rw [h,hlen,hx]⟩
 refine bQ hc ?_
 simp only [wpL]
 intro o hd ho
 refine bn (k:=0) (b:=B7) (off:=0) ho f1 f3 (by simp (disch:=first | omega | (simp only [size_put];omega)) only [ae,ay,au,H.e1,H.e3,H.e5,H.e6,H.e7]) ?_
 rw [hd]
 clear hd ho o
 rw [f2,Nat.zero_add]
 intro o hd ho
 refine fp (b:=B7) (off:=0) uT rfl ho (by simp (disch:=first | omega | (simp only [size_put];omega)) only [ae,ay,au,H.e1,H.e3,H.e5,H.e6,H.e7]) (bP H.b7) ?_
 rw [hd]
 clear hd ho o
 intro o hd ho
 refine bn (k:=0) (b:=B7) (off:=0) ho f1 f3 (by simp (disch:=first | omega | (simp only [size_put];omega)) only [ae,ay,au,H.e1,H.e3,H.e5,H.e6,H.e7]) ?_
 rw [hd]
 clear hd ho o
 rw [f2,Nat.zero_add]
 intro o hd ho
 refine fp (b:=B7) (off:=0) uT rfl ho (by simp (disch:=first | omega | (simp only [size_put];omega)) only [ae,ay,au,H.e1,H.e3,H.e5,H.e6,H.e7]) (bP H.b7) ?_
 rw [hd]
 clear hd ho o
 intro o hd ho
 refine fC (A:=A) (l:=m + 1) (c:=cap) ho rfl rfl uT (by simp (disch:=first | omega | (simp only [size_put];omega)) only [ae,ay,au,H.e1,H.e3,H.e5,H.e6,H.e7,hvo]) ?_
 rw [hd]
 clear hd ho o
 intro o hd ho
 refine fi (C:=KW) (i:=.i64) (j:=.i64) (m:=((m + 1:Nat):Int)) (n:=1) (v:=.int .i64 (m:Int)) ho (by simp (disch:=first | omega | (simp only [size_put];omega)) only [ae,ay,au,H.e1,H.e3,H.e5,H.e6,H.e7]) rfl (Jc m hm) ?_
 rw [hd]
 clear hd ho o
 intro o hd ho
 refine zC (kd:=.i64) (m:=m) (vo:=vo) uT szR ho (by simp (disch:=first | omega | (simp only [size_put];omega)) only [ae,ay,au,H.e1,H.e3,H.e5,H.e6,H.e7]) (by simp (disch:=first | omega | (simp only [size_put];omega)) only [ae,ay,au,H.e1,H.e3,H.e5,H.e6,H.e7]) H.deep (by omega) ?_
 intro vo' D
 rw [hd]
 clear hd ho o
 intro o hd ho
 refine bn (k:=0) (b:=B7) (off:=0) ho f1 f3 (by simp (disch:=first | omega | (simp only [size_put];omega)) only [ae,ay,au,H.e1,H.e3,H.e5,H.e6,H.e7]) ?_
 rw [hd]
 clear hd ho o
 rw [f2,Nat.zero_add]
 intro o hd ho
 refine Cq H D ho (by simp (disch:=first | omega | (simp only [size_put];omega)) only [ae,ay,au,H.e1,H.e3,H.e5,H.e6,H.e7]) (by simp (disch:=first | omega | (simp only [size_put];omega)) only [ae,ay,au,H.e1,H.e3,H.e5,H.e6,H.e7]) (by simp only [size_put];exact hs) (by simp only [aP];exact H.calm) (by simp (disch:=first | omega | (simp only [size_put];omega)) only [ae,ay,au,H.e1,H.e3,H.e5,H.e6,H.e7]) (by simp (disch:=first | omega | (simp only [size_put];omega)) only [ae,ay,au,H.e1,H.e3,H.e5,H.e6,H.e7]) (by simp (disch:=first | omega | (simp only [size_put];omega)) only [ae,ay,au,H.e1,H.e3,H.e5,H.e6,H.e7]) (by simp (disch:=first | omega | (simp only [size_put];omega)) only [ae,ay,au,H.e1,H.e3,H.e5,H.e6,H.e7]) (by simp (disch:=first | omega | (simp only [size_put];omega)) only [ae,ay,au,H.e1,H.e3,H.e5,H.e6,H.e7]) hd ?_
 intro w2 H2
 exact ⟨by trivial,vo',rows.take m,H2⟩
theorem pG {fn:Func} {c:Code} {d:Nat} (hc:cd c [(some d,.load 24 (.tmp 7)),(none,.store 24 (.tmp 6) (.tmp d))]) (hd0:8 < d∧d < n) (hres:fn.results = #[.cell 6 24]) (hrt:fn.resultTypes.toList=[24]) (S:St0 w0 w3 Z v T e) (H:StJ n w0 w3 B7 i vo rows xs a w) :
  (Code.seq c .ret).wp PR (fun ex a' w'=>ex = .ret∧bodyPost PR fn (Den.Ends PR fn [[.l xs]] w0 Z) .ret a' w') a w:=by
 obtain ⟨dA,hdA,hagg⟩:=uTb
 have hs:=H.size
 have hlo:=H.lo
 have hlt:=H.b7lt
 have hone:=dx H.deep.own
 refine wp_seq (bQ hc ?_)
 simp only [wpL]
 intro o hd ho
 refine lZ hdA hagg szA ho H.e7 H.b7 ?_
 rw [hd]
 clear hd ho o
 intro o hd ho
 refine eW (v:=.agg #[vo]) (b:=w0.heap.size + 2) szA ho (by rw [ae (by omega)];exact H.e6) (ay (by omega)) (by simp [Value.cells,cr hone]) hone rfl ((H.old _ (by omega)).trans S.box6) ?_
 intro w6 hB6 g6 hsz6
 rw [hd,iZ]
 clear hd ho o
 refine wp_ret ⟨rfl,?_⟩
 have hob:∀ b,b < w.heap.size→b≠w0.heap.size + 2→w6.heap[b]? = w.heap[b]?:=fun b hb hn=>g6.block b hb fun e=>hn (by injection e)
 have hD:eX (fun b=>w0.heap.size + 3≤b∧b≠B7) w6 vo rows xs:=H.deep.same fun b hb hl=>hob b hl (by omega)
 have hfs:=H.fut.size
 have F6:Fut (fun _=>False) w0 w6:=⟨g6.os.trans H.fut.os,g6.tape.trans H.fut.tape,g6.output.trans H.fut.output,by omega,fun k hk _=>(hob k (by omega) (by omega)).trans (H.fut.block k hk id)⟩
 obtain ⟨Z',hZ'⟩:∃ Z':Nat→Prop,Z' = fun b=>Z b∨vo.ownBlock=some b∨∃ (j:Nat) (r:Value),rows[j]? = some r∧r.ownBlock=some b:=⟨_,rfl⟩
 refine ⟨by rw [aP];exact H.calm,.agg #[vo],jk hres ?_ (cU (vs:=[vo]) hdA hagg szA rfl (fun j u hj=>by
  cases j with
  | zero=>simp at hj;subst hj;exact bP hB6
  | succ j=>simp at hj)),.agg #[vo],Z',rfl,F6,fun b hb=>by rw [hZ'];exact .inl hb,fun b hb=>?_,fun b hb=>?_,[.agg [.val TRC (.l xs)]],?_,?_⟩
 ·have:=H.e6
  rw [← ae (d:=d) (v:=.agg #[vo]) (by omega)] at this
  exact this
 ·rw [hZ'] at hb
  rcases hb with hb | hb | ⟨j,r,hr,hb⟩
  ·exact .inl hb
  ·have:=(hD.home b hb).1
   exact .inr ⟨by omega,ns hD.own hb⟩
  ·have:=(hD.rowF j r b hr hb).1.1
   exact .inr ⟨by omega,(hD.row j r hr).plain hb⟩
 ·rw [hZ'] at hb
  rcases hb with hb | hb | ⟨j,r,hr,hb⟩
  ·have:=S.zlt b hb;omega
  ·exact (hD.own.lt b hb).2
  ·exact (hD.row j r hr).lt hb
 ·rw [hrt];rfl
 ·refine ⟨#[vo],rfl,vo,[],rfl,?_,rfl⟩
  have hb:=dk hD.own
  exact kJ (Z:=Z') (fun _ h=>h) (fun b h=>by rw [hZ'];rw [hb] at h;exact .inr (.inl h)) (by rw [← hD.len];exact hD.own) (hD.reps fun j r b hr hb=>by rw [hZ'];exact .inr (.inr ⟨j,r,hr,hb⟩))
end
end Go.Mat

namespace Go.Mat
open Go Go.Den Go.Proofs
noncomputable def KA:Ctx:=(mkC PR bM (aH 60 anyS aK) aL aC aq aq).panics fun _ _=>False
noncomputable def KF:Ctx:=(mkC PR bM aK (cw 61 [] cfF aL) aC aq aq).panics fun _ _=>False
noncomputable def stC:Code:=bh Tryz.f41
noncomputable def st2:Array Oper:=ax (piece stC [1,1,0,0])
noncomputable def st4:Array Oper:=ax (piece stC [1,1,1,0,0,0,0,0])
noncomputable def st7:Array Oper:=ax (piece stC [1,1,1,1,1,0,0])
noncomputable def st8:Array Oper:=ax (piece stC [1,1,1,1,1,0,1,0])
noncomputable def st9:Array Oper:=ax (piece stC [1,1,1,1,1,1,0])
noncomputable def FL:Array Oper:=ax (piece stC [1,1,1,1,1,1,1,0,0])
noncomputable def HM:Array Oper:=ax (piece stC [1,1,1,1,1,1,1,0,1,0])
noncomputable def HX:Array Oper:=ax (piece stC [1,1,1,1,1,1,1,1,1,0,0])
noncomputable def Fx:Array Oper:=ax (piece stC [1,1,1,1,1,1,1,1,1,0,1,0,0,0,0])
noncomputable def GI:Array Oper:=ax (piece stC [1,1,1,1,1,1,1,1,1,0,1,0,0,1,1])
theorem Dl (k:KSt) (i:Int) (T a b d e g:U) (xs:List U):(ak KA st2.toList st2.toList ⟨fo i T [a,b,d,e,g] xs [],[]⟩ k)=(bif decide (i < 0) then k (St.mk [(23,.val .bool (U.b true)),(22,.und),(18,.val .bool (U.b true)),(21,.und),(18,.val .bool (U.b true)),(20,.und),(18,.val .bool (U.b true)),(19,.und),(18,.val .bool (U.b true)),(18,.val .bool (U.b true)),(17,.val .bool (U.b true)),(16,.und),(14,.val .bool (U.b true)),(15,.und),(14,.val .bool (U.b true)),(14,.val .bool (U.b (decide (i < 0)))),(13,.val .bool (U.b (decide (i < 0)))),(12,vi (U.i i)),(1,vi (U.i i)),(3,.rptr [.sl false [.sl true EC]] [T]),(5,.rptr EC [a,b,d,e,g]),(7,.rptr [.sl false [.sl true EC]] [U.l xs])] []) else bif decide (i ≥ 4096) then k (St.mk [(23,.val .bool (U.b true)),(22,.und),(18,.val .bool (U.b true)),(21,.und),(18,.val .bool (U.b true)),(20,.und),(18,.val .bool (U.b true)),(19,.und),(18,.val .bool (U.b true)),(18,.val .bool (U.b (decide (i ≥ 4096)))),(17,.val .bool (U.b (decide (i ≥ 4096)))),(16,.val .bool (U.b (decide (i ≥ 4096)))),(14,.val .bool (U.b false)),(15,vi (U.i i)),(14,.val .bool (U.b false)),(14,.val .bool (U.b (decide (i < 0)))),(13,.val .bool (U.b (decide (i < 0)))),(12,vi (U.i i)),(1,vi (U.i i)),(3,.rptr [.sl false [.sl true EC]] [T]),(5,.rptr EC [a,b,d,e,g]),(7,.rptr [.sl false [.sl true EC]] [U.l xs])] []) else k (St.mk [(23,.val .bool (U.b !bw T.list a.int b.int d.int e.int g.int (7:Nat) 0)),(22,.val .bool (U.b !bw T.list a.int b.int d.int e.int g.int (7:Nat) 0)),(18,.val .bool (U.b false)),(21,.val .bool (U.b (bw T.list a.int b.int d.int e.int g.int (7:Nat) 0))),(18,.val .bool (U.b false)),(20,.agg [vi a,vi b,vi d,vi e,.val (.int .u32) g]),(18,.val .bool (U.b false)),(19,.agg [.val (.sl false [.sl true EC]) T]),(18,.val .bool (U.b false)),(18,.val .bool (U.b (decide (i ≥ 4096)))),(17,.val .bool (U.b (decide (i ≥ 4096)))),(16,.val .bool (U.b (decide (i ≥ 4096)))),(14,.val .bool (U.b false)),(15,vi (U.i i)),(14,.val .bool (U.b false)),(14,.val .bool (U.b (decide (i < 0)))),(13,.val .bool (U.b (decide (i < 0)))),(12,vi (U.i i)),(1,vi (U.i i)),(3,.rptr [.sl false [.sl true EC]] [T]),(5,.rptr EC [a,b,d,e,g]),(7,.rptr [.sl false [.sl true EC]] [U.l xs])] [])):=by kernel_rfl
theorem u0 (k:KSt) (i:Int) (T a b d e g:U) (xs:List U):(ak KW st4.toList st4.toList ⟨fo i T [a,b,d,e,g] xs [],[]⟩ k)=(k (St.mk [(30,SV.val Ct.bool (U.b (decide ((↑(List.length (U.list (nth (U.i 0) (List.drop (0:Nat) [U.l xs]) (0:Nat)))):Int)≤IntKind.wrap IntKind.i64 (Int.tdiv i 8))))),(29,vi (U.i (IntKind.wrap
 IntKind.i64 (Int.tdiv i 8)))),(28,vi (U.i i)),(27,vi (U.i (↑(List.length (U.list (nth (U.i 0) (List.drop (0:Nat) [U.l xs]) (0:Nat)))):Int))),(26,SV.val (Ct.sl false [Ct.sl true EC]) (U.l xs)),
 (25,SV.rptr [Ct.sl false [Ct.sl true EC]] [U.l xs]),(1,vi (U.i i)),(3,SV.rptr [Ct.sl false [Ct.sl true EC]] [T]),(5,SV.rptr EC [a,b,d,e,g]),(7,SV.rptr [Ct.sl false [Ct.sl true EC]] [U.l xs])]
 [])):=by kernel_rfl
theorem EI (k:KSt) (i:Int) (T R a b d e g:U) (xs:List U):(ak KW st7.toList st7.toList ⟨fo i T [a,b,d,e,g] xs [(8,vt EC R)],[]⟩ k)=(k (St.mk [(44,SV.val Ct.bool (U.b ((↑(List.length R.list):Int) == 0))),(43,vi (U.i (↑(List.length R.list):Int))),(42,SV.val (Ct.sl true EC) R),(8,SV.val (Ct.sl true EC) R),(1,vi (U.i i)),
 (3,SV.rptr [Ct.sl false [Ct.sl true EC]] [T]),(5,SV.rptr EC [a,b,d,e,g]),(7,SV.rptr [Ct.sl false [Ct.sl true EC]] [U.l xs])] [])):=by kernel_rfl
theorem Eo (k:KSt) (i:Int) (T a b d e g:U) (xs:List U):(ak KW st8.toList st8.toList ⟨fo i T [a,b,d,e,g] xs [],[]⟩ k)=(k (St.mk [(8,SV.own 5886),(45,SV.own 5886),(1,vi (U.i i)),(3,SV.rptr [Ct.sl false [Ct.sl true EC]] [T]),(5,SV.rptr EC [a,b,d,e,g]),(7,SV.rptr [Ct.sl false [Ct.sl true EC]] [U.l xs])] [(5886,
 Obj.arr 46 [U.l [U.i 0,U.i 0,U.i 0,U.i 0,U.i 0],U.l [U.i 0,U.i 0,U.i 0,U.i 0,U.i 0],U.l [U.i 0,U.i 0,U.i 0,U.i 0,U.i 0],U.l [U.i 0,U.i 0,U.i 0,U.i 0,U.i 0],U.l [U.i 0,U.i 0,U.i 0,
 U.i 0,U.i 0],U.l [U.i 0,U.i 0,U.i 0,U.i 0,U.i 0],U.l [U.i 0,U.i 0,U.i 0,U.i 0,U.i 0],U.l [U.i 0,U.i 0,U.i 0,U.i 0,U.i 0]])])):=by kernel_rfl
theorem CN (k:KSt) (i:Int) (a b d e g:U) (R:List U):(ak KW st9.toList st9.toList ⟨[(8,.own 2),(1,vi (.i i)),(3,.unk),(5,.rptr EC [a,b,d,e,g]),(7,.unk)],[(2,.arr 46 R)]⟩ k)=(bif decide ((0:Int)≤Int.tmod i 8∧Int.tmod i (8:Int) < (↑(List.length R):Int)) then bif Nat.blt (Int.toNat (Int.tmod i 8)) (List.length R) then k (St.mk [(50,SV.aptr 2 5 (Int.toNat (Int.tmod
 i 8)) 0),(49,SV.agg [vi a,vi b,vi d,vi e,SV.val (.int .u32) g]),(48,vi (U.i (Int.tmod i 8))),(47,vi (U.i i)),(46,SV.own 2),(8,SV.own 2),(1,vi (U.i i)),(3,SV.unk),(5,SV.rptr EC [a,b,
 d,e,g]),(7,SV.unk)] [(2,Obj.arr 46 (List.set R (Int.toNat (Int.tmod i 8)) (U.l (c4 (U.list (nth (U.i 0) R (Int.toNat (Int.tmod i 8)))) (0:Nat) [a,b,d,e,g]))))]) else False else False):=by kernel_rfl
theorem BR (k:KSt) (i:Int) (T R a b d e g:U) (xs:List U):(ak KF FL.toList FL.toList ⟨fo i T [a,b,d,e,g] xs [(8,vt EC R)],[]⟩ k)=((EC=EC∧nat_lit 62=nat_lit 62)∧k (St.mk [(53,SV.val Ct.bool (U.b !dD R.list)),(52,SV.val Ct.bool (U.b (dD R.list))),(51,SV.val (Ct.sl true EC) R),(8,SV.val (Ct.sl true EC) R),(1,vi
 (U.i i)),(3,SV.rptr [Ct.sl false [Ct.sl true EC]] [T]),(5,SV.rptr EC [a,b,d,e,g]),(7,SV.rptr [Ct.sl false [Ct.sl true EC]] [U.l xs])] [])):=by kernel_rfl
theorem Ae (k:KSt) (i:Int) (T a b d e g:U) (xs:List U):(ak KW HM.toList HM.toList ⟨fo i T [a,b,d,e,g] xs [],[]⟩ k)=(k (St.mk [(8,SV.own 1148),(1,vi (U.i i)),(3,SV.rptr [Ct.sl false [Ct.sl true EC]] [T]),(5,SV.rptr EC [a,b,d,e,g]),(7,SV.rptr [Ct.sl false [Ct.sl true EC]] [U.l xs])] [(1148,Obj.arr 46 [])])):=by kernel_rfl
theorem zM (k:KSt) (i:Int) (T a b d e g:U) (xs:List U):(ak KW HX.toList HX.toList ⟨fo i T [a,b,d,e,g] xs [],[]⟩ k)=(k (St.mk [(9,vi (U.i (↑(List.length (U.list (nth (U.i 0) (List.drop (0:Nat) [U.l xs]) (0:Nat)))):Int))),(62,vi (U.i (↑(List.length (U.list (nth (U.i 0) (List.drop (0:Nat) [U.l xs]) (0:Nat))))
 : Int))),(61,SV.val (Ct.sl false [Ct.sl true EC]) (U.l xs)),(60,SV.rptr [Ct.sl false [Ct.sl true EC]] [U.l xs]),(1,vi (U.i i)),(3,SV.rptr [Ct.sl false [Ct.sl true EC]] [T]),(5,SV.rptr EC [a,
 b,d,e,g]),(7,SV.rptr [Ct.sl false [Ct.sl true EC]] [U.l xs])] [])):=by kernel_rfl
theorem rz (k:KSt) (i:Int) (T a b d e g n:U) (xs:List U):(ak KW Fx.toList Fx.toList ⟨fo i T [a,b,d,e,g] xs [(9,vi n)],[]⟩ k)=(bif decide (n.int > 0) then bif decide ((0:Int)≤IntKind.wrap .i64 (n.int - 1)∧IntKind.wrap .i64 (n.int - 1) < (↑(List.length (U.list (nth (.i 0) (List.drop (0:Nat) [U.l xs]) 0))):Int)) then k (St.mk [(74,.val .bool (U.b ((↑(List.length (U.list (nth (.i 0) (U.list (nth (.i 0) (List.drop (0:Nat) [U.l xs]) 0)) (Int.toNat (IntKind.wrap .i64 (n.int - 1)))))):Int) == 0))),(73,.val .bool (U.b ((↑(List.length (U.list (nth (.i 0) (U.list (nth (.i 0) (List.drop (0:Nat) [U.l xs]) 0)) (Int.toNat (IntKind.wrap .i64 (n.int - 1)))))):Int) == 0))),(65,.val .bool (U.b true)),(72,vi (U.i (↑(List.length (U.list (nth (.i 0) (U.list (nth (.i 0) (List.drop (0:Nat) [U.l xs]) 0)) (Int.toNat (IntKind.wrap .i64 (n.int - 1)))))):Int))),(65,.val .bool (U.b true)),(71,.val (.sl true EC) (nth (.i 0) (U.list (nth (.i 0) (List.drop (0:Nat) [U.l xs]) 0)) (Int.toNat (IntKind.wrap .i64 (n.int - 1))))),(65,.val .bool (U.b true)),(70,.rptr [.sl true EC] [nth (.i 0) (U.list (nth (.i 0) (List.drop (0:Nat) [U.l xs]) 0)) (Int.toNat (IntKind.wrap .i64 (n.int - 1)))]),(65,.val .bool (U.b true)),(69,vi (U.i (IntKind.wrap .i64 (n.int - 1)))),(65,.val .bool (U.b true)),(68,vi n),(65,.val .bool (U.b true)),(67,.val (.sl false [.sl true EC]) (U.l xs)),(65,.val .bool (U.b true)),(66,.rptr [.sl false [.sl true EC]] [U.l xs]),(65,.val .bool (U.b true)),(65,.val .bool (U.b (decide (n.int > 0)))),(64,.val .bool (U.b (decide (n.int > 0)))),(63,vi n),(9,vi n),(1,vi (U.i i)),(3,.rptr [.sl false [.sl true EC]] [T]),(5,.rptr EC [a,b,d,e,g]),(7,.rptr [.sl false [.sl true EC]] [U.l xs])] []) else False else k (St.mk [(74,.val .bool (U.b false)),(73,.und),(65,.val .bool (U.b false)),(72,.und),(65,.val .bool (U.b false)),(71,.und),(65,.val .bool (U.b false)),(70,.und),(65,.val .bool (U.b false)),(69,.und),(65,.val .bool (U.b false)),(68,.und),(65,.val .bool (U.b false)),(67,.und),(65,.val .bool (U.b false)),(66,.und),(65,.val .bool (U.b false)),(65,.val .bool (U.b (decide (n.int > 0)))),(64,.val .bool (U.b (decide (n.int > 0)))),(63,vi n),(9,vi n),(1,vi (U.i i)),(3,.rptr [.sl false [.sl true EC]] [T]),(5,.rptr EC [a,b,d,e,g]),(7,.rptr [.sl false [.sl true EC]] [U.l xs])] [])):=by kernel_rfl
theorem AV (k:KSt) (i:Int) (T a b d e g n:U) (xs:List U):(ak KW GI.toList GI.toList ⟨fo i T [a,b,d,e,g] xs [(9,vi n)],[]⟩ k)=(k (St.mk [(9,vi (U.i (IntKind.wrap IntKind.i64 (n.int - 1)))),(76,vi (U.i (IntKind.wrap IntKind.i64 (n.int - 1)))),(75,vi n),(9,vi n),(1,vi (U.i i)),(3,SV.rptr [Ct.sl false [Ct.sl true EC]]
 [T]),(5,SV.rptr EC [a,b,d,e,g]),(7,SV.rptr [Ct.sl false [Ct.sl true EC]] [U.l xs])] [])):=by kernel_rfl
end Go.Mat
