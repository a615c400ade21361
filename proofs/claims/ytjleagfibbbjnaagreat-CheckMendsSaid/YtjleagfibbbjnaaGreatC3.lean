/- A part of the proof of this: the program mends a meta as the document does, and what was handed in stays what it was. Conditions: none. Joined of F3, B4, F4, B5, F5, B6, F6, F7, P10, P11, B60, F60, F60S, F60T, B61, F61, B62, F62, B63, F63, B64, F64, B65, F65, B82, F82, B83, F83, B84. -/
import Derived.Test.YtjleagfibbbjnaaGreatC2
import Derived.KernelRfl
import Derived.Tactics
import Derived.Tactics2
import Derived.Defers
import Derived.Laws.Pointers
import Derived.Laws.LoneSync
import Derived.RegionTactic
import Derived.RegionCalls
import Derived.ChangeAlike
import Derived.Laws.NewBlocks
import Derived.WalkKit
namespace Go.Mat
open Go Go.Den Go.Proofs
theorem x5 (x:U) (r:List U):ie (x :: r)=(!gg (e0 x).int (e1 x).int (e2 x).int (e3 x).int (e4 x).int || ie r):=rfl
theorem vY (x:U) (r:List U):gj (x :: r)=(decide ((e0 x).int≠0) || gj r):=rfl
theorem Ac:aE Bk 2 (aa Tryz.f37 1):=by
 refine al (F:=l8) (ts:=[50,49,48,9,7,1,2,29,28,27,3]) (os:=[384]) rfl (fun svs _=>match svs with | .val _ i :: .val _ m :: _=>(m.int - i.int).toNat | _=>0) ?_
 intro pan svs os k ho1 ho2 h
 unfold l8 at h
 split at h
 ·rename_i kk m ec l s rest
  split at h
  ·rename_i i n c p1 p2 ec1 p3 pp po ec2 L
   obtain ⟨⟨rfl,rfl,rfl,rfl,rfl,hs,hm,h0,hi⟩,hk⟩:=h
   have hL:l.list.length≤maxLen:=ho1.2.2.1.1
   refine .eq (xC pan _ _ k kk m l s i n c p1 p2 p3 L) ?_
   simp only [aD,Nat.zero_add,Nat.reduceAdd]
   refine bd (fun hlt=>dt ⟨h0,by omega⟩ ?_) (fun hlt=>?_)
   ·rw [aN (by omega),ef,x5] at hk
    simp only [pn,U.at,e0,e1,e2,e3,e4] at hk
    have hw:IntKind.wrap .i64 (kk.int + 1)=kk.int + 1:=i64_in (by omega) (by unfold maxLen at hL;omega)
    have hn:(kk.int + 1).toNat=kk.int.toNat + 1:=by omega
    simp only [hw,hn]
    have hlt':(m.int - (kk.int + 1)).toNat < (m.int - kk.int).toNat:=by omega
    refine bi (fun h1=>?_) (fun h1=>?_)
    ·rw [nt h1] at hk;exact hk
    ·rw [nf h1] at hk
     refine bi (fun h2=>bd (fun h3=>?_) (fun h3=>?_)) (fun h2=>?_)
     ·rw [nt h2,decide_eq_false (by omega)] at hk;exact hk
     ·rw [nt h2,decide_eq_true (by omega)] at hk
      refine bi (fun h4=>?_) (fun h4=>?_)
      ·rw [h4] at hk
       exact blt hlt' ⟨⟨by trivial,by trivial,by trivial,by trivial,by trivial,by trivial,hm,by omega,by omega⟩,hk⟩
      ·rw [h4] at hk
       refine blt hlt' ⟨⟨by trivial,by trivial,by trivial,by trivial,by trivial,by trivial,hm,by omega,by omega⟩,?_⟩
       simpa [nt h2] using hk
     ·rw [nf h2] at hk
      refine bi (fun h4=>?_) (fun h4=>?_)
      ·rw [h4] at hk
       exact blt hlt' ⟨⟨by trivial,by trivial,by trivial,by trivial,by trivial,by trivial,hm,by omega,by omega⟩,hk⟩
      ·rw [h4] at hk
       refine blt hlt' ⟨⟨by trivial,by trivial,by trivial,by trivial,by trivial,by trivial,hm,by omega,by omega⟩,?_⟩
       simpa [nf h2] using hk
   ·rw [List.drop_of_length_le (by omega)] at hk
    rw [hs]
    simpa [ef,ie] using hk
  ·exact h.elim
 ·exact h.elim
theorem AH:aE Bk 0 (aa Tryz.f37 0):=by
 refine al (F:=l0) (ts:=[29,28,27,3,1,2]) (os:=[384]) rfl (fun svs _=>match svs with | .val _ i :: .val _ m :: _=>(m.int - i.int).toNat | _=>0) ?_
 intro pan svs os k ho1 ho2 h
 unfold l0 at h
 split at h
 ·rename_i i m ec L pp po n c ec' L'
  obtain ⟨⟨rfl,rfl,rfl,rfl,rfl,hm,h0,hi⟩,hk⟩:=h
  have hL:L'.list.length≤maxLen:=ho1.2.2.1.1
  refine .eq (wV pan _ _ k i m L' n c) ?_
  refine bd (fun hlt=>dt ⟨h0,by omega⟩ ?_) (fun hlt=>?_)
  ·rw [aN (by omega),cx] at hk
   simp only [U.at] at hk
   have hw:IntKind.wrap .i64 (i.int + 1)=i.int + 1:=i64_in (by omega) (by unfold maxLen at hL;omega)
   have hw1:IntKind.wrap .i64 ((L'.list.length:Int) - 1)=(L'.list.length:Int) - 1:=i64_in (by omega) (by unfold maxLen at hL;omega)
   have hn:(i.int + 1).toNat=i.int.toNat + 1:=by omega
   have hlt':(m.int - (i.int + 1)).toNat < (m.int - i.int).toNat:=by omega
   have hdr:L'.list.drop (i.int.toNat + 1)=[]↔¬ i.int < (L'.list.length:Int) - 1:=by rw [List.drop_eq_nil_iff];omega
   simp only [hw,hw1,hn,Int.toNat_zero,List.drop_zero,Bool.false_or]
   generalize (nth (U.i 0) L'.list i.int.toNat).list=l at hk ⊢
   have full:(bif (ll n.int c.int i.int l && cx n.int c.int (i.int + 1) (L'.list.drop (i.int.toNat + 1))) then k (.exit 0) ⟨[(6,.unk)],[]⟩ else k .ret ⟨[(6,vb (.b false))],[]⟩)→
     (bif (l.length:Int) != 8 then k .ret ⟨[(6,vb (.b false))],[]⟩ else
       ((384:Nat)=384∧(0:Nat)=0∧EC=EC∧EC=EC∧EC=EC∧U.b false=U.b (U.b false).bool∧(l.length:Int)=(l.length:Int)∧(0:Int)≤0∧(0:Int)≤(l.length:Int))∧
       bif ef n.int c.int i.int 0 l then
        bif !ie l then k .ret ⟨[(6,vb (.b false))],[]⟩ else
         bif Nat.blt (m.int - (i.int + 1)).toNat (m.int - i.int).toNat then
          ((384:Nat)=384∧(0:Nat)=0∧EC=EC∧EC=EC∧L' = L'∧m.int=(L'.list.length:Int)∧0≤i.int + 1∧i.int + 1≤m.int)∧
          bif cx n.int c.int (i.int + 1) (L'.list.drop (i.int.toNat + 1)) then k (.exit 0) ⟨[(6,.unk)],[]⟩ else k .ret ⟨[(6,vb (.b false))],[]⟩
         else False
       else k .ret ⟨[(6,vb (.b false))],[]⟩):=by
    intro hk
    unfold ll at hk
    refine bi (fun h2=>?_) (fun h2=>?_)
    ·rw [decide_eq_false (by simp at h2;omega)] at hk;exact hk
    ·rw [decide_eq_true (by simp at h2;omega)] at hk
     refine ⟨⟨rfl,rfl,rfl,rfl,rfl,rfl,rfl,by omega,by omega⟩,bi (fun h3=>bi (fun h4=>?_) (fun h4=>blt hlt' ⟨⟨rfl,rfl,rfl,rfl,rfl,hm,by omega,by omega⟩,?_⟩)) (fun h3=>?_)⟩
     ·rw [h3,nt h4] at hk;exact hk
     ·rw [h3,nf h4] at hk;exact hk
     ·rw [h3] at hk;exact hk
   refine bi (fun h1=>?_) (fun h1=>?_)
   ·have hl0:l=[]:=by simpa using h1
    refine bd (fun h2=>blt hlt' ⟨⟨by trivial,by trivial,by trivial,by trivial,by trivial,hm,by omega,by omega⟩,?_⟩) (fun h2=>?_)
    ·rw [if_pos ⟨hl0,fun h=>(hdr.1 h) h2⟩] at hk;exact hk
    ·rw [if_neg (fun h=>h.2 (hdr.2 h2))] at hk
     simpa using full hk
   ·have hl0:l≠[]:=by simpa using h1
    rw [if_neg (fun h=>hl0 h.1)] at hk
    simpa using full hk
  ·rw [List.drop_of_length_le (by omega)] at hk
   exact hk
 ·exact h.elim
theorem CS:bB PR 37 s6:=fun fn us hfn=>by
 have hf:PR.funcs[(37:Nat)]? = some Tryz.f37:=by kernel_rfl
 rw [hf] at hfn;cases hfn
 refine aM (C:=Bk) (aB ao af (.cons xr (.cons yY .nil)) .nil) hf (by kernel_rfl) (dS (by kernel_rfl) AH Ac) fun hok=>?_
 have hp:Tryz.f37.params.toList=[24,3,3]:=by kernel_rfl
 rw [hp] at hok
 obtain ⟨L,n,c,hus⟩:∃ L n c,us=[[L],[n],[c]]:=by
  obtain ⟨u,u2,u3,rfl,h1,h2,h3⟩:=m5 (by kernel_rfl:Cs PR 24=some (true,[.sl false [.sl true EC]])) (by kernel_rfl:Cs PR 3=some (false,[.int .i64])) (by kernel_rfl:Cs PR 3=some (false,[.int .i64])) hok.1
  obtain ⟨L,rfl⟩:=bG h1
  obtain ⟨n,rfl⟩:=bG h2
  obtain ⟨c,rfl⟩:=bG h3
  exact ⟨L,n,c,rfl⟩
 subst hus
 refine .eq (Cr _ _ _ _) ?_
 unfold s6
 simp only [bo,aZ]
 refine bd (fun h=>by rw [bU,if_pos (.inl h)]) (fun h=>bd (fun h2=>by rw [bU,if_pos (.inr (.inl h2))]) (fun h2=>bd (fun h3=>by rw [bU,if_pos (.inr (.inr (.inl h3)))]) (fun h3=>bd (fun h4=>by rw [bU,if_pos (.inr (.inr (.inr h4)))]) (fun h4=>?_))))
 rw [bU,if_neg (by omega)]
 refine ⟨⟨by trivial,by trivial,by trivial,by trivial,by trivial,by trivial,by omega,by omega⟩,?_⟩
 simp only [Int.toNat_zero,List.drop_zero]
 refine bi (fun h=>?_) (fun h=>?_)<;>rw [h]
theorem yf:aE rH 2 (aa Tryz.f50 1):=by
 refine al (F:=kO) (ts:=[9,8,7,1,2,3]) (os:=[384]) rfl (fun svs _=>match svs with | .val _ i :: _=>(8 - i.int).toNat | _=>0) ?_
 intro pan svs os k ho1 ho2 h
 unfold kO at h
 split at h
 ·rename_i kk s rest
  split at h
  ·rename_i i n c pp po ec L
   obtain ⟨⟨rfl,rfl,rfl,hs,h0,hi,hi0,hil,h8⟩,hk⟩:=h
   refine .eq (ui pan _ _ k kk s i n c L) ?_
   simp only [aD,Nat.zero_add,Nat.reduceAdd]
   generalize hl:(nth (U.i 0) L.list i.int.toNat).list=l at hk h8 ⊢
   refine bd (fun hlt=>dt ⟨hi0,hil⟩ (dt ⟨h0,by omega⟩ ?_)) (fun hlt=>?_)
   ·rw [aN (by omega),ft,vY] at hk
    simp only [lA,U.at,e0,e1,e2,e3,e4] at hk
    have hw:IntKind.wrap .i64 (kk.int + 1)=kk.int + 1:=i64_in (by omega) (by omega)
    have hn:(kk.int + 1).toNat=kk.int.toNat + 1:=by omega
    simp only [hw,hn]
    have hlt':(8 - (kk.int + 1)).toNat < (8 - kk.int).toNat:=by omega
    refine bi (fun h1=>?_) (fun h1=>?_)
    ·rw [nt h1] at hk;exact hk
    ·rw [nf h1] at hk
     have hd:∀ {x:Int},decide (x≠0) = !decide (x=0):=fun {x}=>by simp
     rw [hd] at hk
     refine bi (fun h2=>bd (fun h3=>?_) (fun h3=>?_)) (fun h2=>?_)
     ·rw [decide_eq_false (by simpa using h2),decide_eq_false (by omega)] at hk;exact hk
     ·rw [decide_eq_false (by simpa using h2),decide_eq_true (by omega)] at hk
      refine bi (fun h4=>?_) (fun h4=>?_)
      ·rw [h4] at hk
       exact blt hlt' ⟨⟨by trivial,by trivial,by trivial,by trivial,by omega,by omega,hi0,hil,h8⟩,hk⟩
      ·rw [h4] at hk
       refine blt hlt' ⟨⟨by trivial,by trivial,by trivial,by trivial,by omega,by omega,hi0,hil,h8⟩,?_⟩
       simpa [h2] using hk
     ·rw [decide_eq_true (by simpa using h2)] at hk
      refine bi (fun h4=>?_) (fun h4=>?_)
      ·rw [h4] at hk
       exact blt hlt' ⟨⟨by trivial,by trivial,by trivial,by trivial,by omega,by omega,hi0,hil,h8⟩,hk⟩
      ·rw [h4] at hk
       refine blt hlt' ⟨⟨by trivial,by trivial,by trivial,by trivial,by omega,by omega,hi0,hil,h8⟩,?_⟩
       simpa [h2] using hk
   ·rw [List.drop_of_length_le (by omega)] at hk
    rw [hs]
    simpa [ft,gj] using hk
  ·exact h.elim
 ·exact h.elim
theorem yp:aE rH 0 (aa Tryz.f50 0):=by
 refine al (F:=kH) (ts:=[7,1,2,3]) (os:=[384]) rfl (fun svs os=>match svs,os with | .val _ i :: _,[.box [.val _ L]]=>(L.list.length - i.int).toNat | _,_=>0) ?_
 intro pan svs os k ho1 ho2 h
 unfold kH at h
 split at h
 ·rename_i i n c pp po ec L
  obtain ⟨⟨rfl,rfl,rfl,h0,hi⟩,hk⟩:=h
  have hL:L.list.length≤maxLen:=ho2.1.1.1
  refine .eq (wz pan _ _ k i L n c) ?_
  refine bd (fun hlt=>dt ⟨h0,by omega⟩ ?_) (fun hlt=>?_)
  ·rw [aN (by omega),bq] at hk
   simp only [U.at] at hk
   have hw:IntKind.wrap .i64 (i.int + 1)=i.int + 1:=i64_in (by omega) (by unfold maxLen at hL;omega)
   have hn:(i.int + 1).toNat=i.int.toNat + 1:=by omega
   have hlt':(L.list.length - (i.int + 1)).toNat < (L.list.length - i.int).toNat:=by omega
   simp only [hw,hn,Int.toNat_zero,List.drop_zero,Bool.false_or]
   generalize hl:(nth (U.i 0) L.list i.int.toNat).list=l at hk ⊢
   refine bi (fun h1=>blt hlt' ⟨⟨by trivial,by trivial,by trivial,by omega,by omega⟩,?_⟩) (fun h1=>dt ⟨h0,by omega⟩ ?_)
   ·have hl0:l=[]:=by simpa using h1
    rw [if_pos hl0] at hk;exact hk
   ·have hl0:l≠[]:=by simpa using h1
    rw [if_neg hl0] at hk
    unfold ed at hk
    refine bi (fun h2=>?_) (fun h2=>?_)
    ·rw [decide_eq_false (by simp at h2;omega)] at hk;exact hk
    ·have h8:l.length=8:=by simp at h2;omega
     rw [decide_eq_true h8] at hk
     refine ⟨⟨by trivial,by trivial,by trivial,by trivial,by omega,by omega,h0,by omega,h8⟩,bi (fun h3=>bi (fun h4=>?_) (fun h4=>blt hlt' ⟨⟨by trivial,by trivial,by trivial,by omega,by omega⟩,?_⟩)) (fun h3=>?_)⟩
     ·rw [h3,nt h4] at hk;exact hk
     ·rw [h3,nf h4] at hk;exact hk
     ·rw [h3] at hk;exact hk
  ·rw [List.drop_of_length_le (by omega)] at hk
   exact hk
 ·exact h.elim
theorem yN:bB PR 50 oI:=fun fn us hfn=>by
 have hf:PR.funcs[(50:Nat)]? = some Tryz.f50:=by kernel_rfl
 rw [hf] at hfn;cases hfn
 refine aM (C:=rH) (aB ao af (.cons tt .nil) .nil) hf (by kernel_rfl) (dS (by kernel_rfl) yp yf) fun hok=>?_
 have hp:Tryz.f50.params.toList=[24,3,3]:=by kernel_rfl
 rw [hp] at hok
 obtain ⟨L,n,c,hus⟩:∃ L n c,us=[[L],[n],[c]]:=by
  obtain ⟨u,u2,u3,rfl,h1,h2,h3⟩:=m5 (by kernel_rfl:Cs PR 24=some (true,[.sl false [.sl true EC]])) (by kernel_rfl:Cs PR 3=some (false,[.int .i64])) (by kernel_rfl:Cs PR 3=some (false,[.int .i64])) hok.1
  obtain ⟨L,rfl⟩:=bG h1
  obtain ⟨n,rfl⟩:=bG h2
  obtain ⟨c,rfl⟩:=bG h3
  exact ⟨L,n,c,rfl⟩
 subst hus
 refine .eq (BO _ _ _ _) ?_
 unfold oI
 simp only [bo,aZ]
 have hu:aU PR [24,3,3] [[L],[n],[c]]=some [.agg [vl (.sl true EC) L],vi n,vi c]:=by kernel_rfl
 have hL:L.list.length≤maxLen:=(hok.2 _ hu).1.1.1
 have hw1:L.list.length > 0→IntKind.wrap .i64 ((L.list.length:Int) - 1)=(L.list.length:Int) - 1:=fun h=>i64_in (by omega) (by unfold maxLen at hL;omega)
 refine bd (fun h=>by rw [b8,if_pos (.inl h)]) (fun h=>bd (fun h2=>by rw [b8,if_pos (.inr (.inl h2))]) (fun h2=>bd (fun h3=>by rw [b8,if_pos (.inr (.inr (.inl h3)))]) (fun h3=>bd (fun h4=>by rw [b8,if_pos (.inr (.inr (.inr h4)))]) (fun h4=>?_))))
 rw [b8,if_neg (by omega)]
 simp only [Int.toNat_zero,List.drop_zero]
 have tail:c6 L.list=true→(bif decide ((L.list.length:Int) > 512) then [[U.b false]]=[[U.b (c6 L.list && decide (L.list.length≤512) && bq n.int c.int 0 L.list)]] else
   (True∧True∧True∧(0:Int)≤0∧(0:Int)≤(L.list.length:Int))∧bif bq n.int c.int 0 L.list then [[U.b true]]=[[U.b (c6 L.list && decide (L.list.length≤512) && bq n.int c.int 0 L.list)]] else [[U.b false]]=[[U.b (c6 L.list && decide (L.list.length≤512) && bq n.int c.int 0 L.list)]]):=by
  intro hl
  refine bd (fun h5=>?_) (fun h5=>⟨⟨by trivial,by trivial,by trivial,by omega,by omega⟩,bi (fun h6=>?_) (fun h6=>?_)⟩)
  ·rw [decide_eq_false (by omega),Bool.and_false,Bool.false_and]
  ·rw [hl,h6,decide_eq_true (by omega)];rfl
  ·rw [h6,Bool.and_false]
 refine bd (fun h5=>?_) (fun h5=>?_)
 ·rw [hw1 (by omega)]
  have hn:((L.list.length:Int) - 1).toNat=L.list.length - 1:=by omega
  refine dt ⟨by omega,by omega⟩ (bi (fun h6=>?_) (fun h6=>?_))
  ·have:c6 L.list=false:=by
    rw [hn] at h6
    unfold c6
    rw [decide_eq_false (fun h0=>by rw [h0] at h5;simp at h5)]
    simpa using h6
   rw [this,Bool.false_and,Bool.false_and]
  ·refine tail ?_
   rw [hn] at h6
   unfold c6
   simp at h6
   simp [h6]
 ·refine tail ?_
  have:L.list=[]:=List.eq_nil_of_length_eq_zero (by omega)
  simp [c6,this]
end Go.Mat

namespace Go.Mat
open Go Go.Den Go.Proofs
def rq:List (List U)→List (List U):=fun us=>[[.b (dW (nth (.i 0) (nth [] us 0) 0).int (nth (.i 0) (nth [] us 1) 0).int)]]
def nE:List (List U)→Prop:=fun us=>0≤(nth (.i 0) (nth [] us 1) 0).int∧(nth (.i 0) (nth [] us 1) 0).int≤6
def cz:List (U × U)→List U→Bool
 | _,[]=>true
 | es,x :: r=>!gL .str x es && fG x.str && cz (dn .str x (.i 1) es) r
def tv:List (List U)→List (List U):=fun us=>[[.b (cz [] (nth (.i 0) (nth [] us 0) 0).list)]]
noncomputable def ji:aS:=fun _ svs os k=>match svs,os with
 | [.val (.int .i64) i,.val (.int .i64) n,.val (.sl false [.str]) L,.mp id],[.map t es]=>
  (id=768∧t=107∧n.int=(L.list.length:Int)∧0≤i.int∧i.int≤n.int∧(∀ e ∈ es,e.2 = .i 1))∧
  (bif cz es (L.list.drop i.int.toNat) then k (.exit 0) ⟨[(2,.unk)],[]⟩ else k .ret ⟨[(2,vb (.b false))],[]⟩)
 | _,_=>False
noncomputable def oH:Ctx:=mkC PR bM (aH 36 qi aK) aL
 (aw 0 [9,8,7,3] [768] ji aC) (an 0 [2] [] aq) aq
theorem tw (pan:KP) (μ:Mu) (N:Nat) (k:KE) (i n L:U) (es:List (U × U)) {a c d f g} (_:a=(nth (U.i (0:Int)) L.list i.int.toNat):=by rfl) (_:c=(U.i (IntKind.wrap .i64 (U.int (gf Ct.str a (U.i (0:Int)) es) + (1:Int)))):=by rfl) (_:d=(St.mk [(nat_lit 2,.val .bool (U.b false))] []):=by rfl) (_:f=(U.at (dF false (U.at L.list i.int.toNat)) 0):=by rfl) (_:g=(i.int + (1:Int)):=by rfl): (exec (oH.panics pan) (aa Tryz.f39 0) 0 ⟨[(9,vi i),(8,vi n),(7,vl .str L),(3,.mp 768)],[(768,.map 107 es)]⟩ (again PR (some ([2],[])) none pan [9,8,7,3] [768] ji μ N k))=(bif decide (i.int < n.int) then bif decide ((0:Int)≤i.int∧i.int < (L.list.length:Int)) then bif decide (U.int (gf Ct.str a (U.i (0:Int)) (dn Ct.str a c es)) > (1:Int)) then k Ex.ret d else bif !fG (U.str a) then k Ex.ret d else bif Nat.blt (μ [.val (.int IntKind.i64) (U.i (IntKind.wrap .i64 g)),.val (.int IntKind.i64) n,.val (.sl false [.str]) L,.mp (nat_lit 768)] [Den.Obj.map (nat_lit 107) (List.brecOn.go es (dn._f Ct.str f (ofElem false [U.i (IntKind.wrap .i64 (U.int (gf Ct.str f (ofElem false [U.i (0:Int)]) es) + U.int (U.i (1:Int))))]))).1]) N then (768=768∧107=107∧n.int=(L.list.length:Int)∧(0:Int)≤IntKind.wrap .i64 g∧IntKind.wrap .i64 g≤n.int∧∀ (e:U × U),e ∈ dn Ct.str a c es→Prod.snd e=U.i (1:Int))∧bif cz (dn Ct.str a c es) (List.drop (Int.toNat (IntKind.wrap .i64 g)) L.list) then k (Ex.exit (nat_lit 0)) (St.mk [(nat_lit 2,.unk)] []) else k Ex.ret d else False else False else k (Ex.exit (nat_lit 0)) (St.mk [(nat_lit 2,.unk)] [])):=by subst_vars;kernel_rfl
theorem vZ (R:RF) (L:U):(run oH Tryz.f39 [[L]] R)=((nat_lit 768=nat_lit 768∧nat_lit 107=nat_lit 107∧(↑(List.length (U.list L)):Int)=(↑(List.length (U.list L)):Int)∧(0:Int)≤(0:Int)∧(0:Int)≤(↑(List.length (U.list L)):Int)∧
 ∀ (e:U × U),e ∈ []→Prod.snd e=U.i (1:Int))∧bif cz [] (List.drop (Int.toNat (0:Int)) (U.list L)) then R [[U.b true]] else R [[U.b false]]):=by kernel_rfl
end Go.Mat

namespace Go.Mat
open Go Go.Den Go.Proofs
theorem Jx {c:Int} (h:0≤c) (h':c≤6):(2:Int) ^ c.toNat=1∨(2:Int) ^ c.toNat=2∨(2:Int) ^ c.toNat=4∨(2:Int) ^ c.toNat=8∨(2:Int) ^ c.toNat=16∨(2:Int) ^ c.toNat=32∨(2:Int) ^ c.toNat=64:=by
 have:c=0∨c=1∨c=2∨c=3∨c=4∨c=5∨c=6:=by omega
 rcases this with rfl | rfl | rfl | rfl | rfl | rfl | rfl<;>decide
theorem zp {c:Int} (h:0≤c) (h':c≤6):(2:Int) ^ min c.toNat (IntKind.bits .i64)=2 ^ c.toNat:=by
 have:min c.toNat (IntKind.bits .i64)=c.toNat:=by simp only [IntKind.bits];omega
 rw [this]
theorem Gx:cG PR 35 nE rq:=fun fn us hfn hpre=>by
 have hf:PR.funcs[(35:Nat)]? = some Tryz.f35:=by kernel_rfl
 rw [hf] at hfn;cases hfn
 refine aM (C:=K0) (aB ao af .nil .nil) hf (by kernel_rfl) (aI (by kernel_rfl)) fun hok=>?_
 have hp:Tryz.f35.params.toList=[3,3]:=by kernel_rfl
 rw [hp] at hok
 obtain ⟨a,b,hus⟩:∃ a b,us=[[a],[b]]:=by
  obtain ⟨u,u2,rfl,h1,h2⟩:=bR (by kernel_rfl:Cs PR 3=some (false,[.int .i64])) (by kernel_rfl:Cs PR 3=some (false,[.int .i64])) hok.1
  obtain ⟨a,rfl⟩:=bG h1
  obtain ⟨b,rfl⟩:=bG h2
  exact ⟨a,b,rfl⟩
 subst hus
 refine .eq (Bo _ _ _) ?_
 unfold rq
 simp only [bo,aZ]
 have hb:0≤b.int∧b.int≤6:=hpre
 refine bd (fun h=>bd (fun h2=>df (by omega) ?_) (fun h2=>?_)) (fun h=>?_)
 ·rw [tV hb.1 hb.2]
  unfold dW
  rw [decide_eq_true (show 0≤a.int by omega),decide_eq_true h2]
  rcases Jx hb.1 hb.2 with hp | hp | hp | hp | hp | hp | hp<;>
  ·rw [hp]
   refine df (by omega) ?_
   rw [Int.tmod_eq_emod_of_nonneg h]
   refine ubi ?_;simp
 ·refine ubi ?_;simp [dW];omega
 ·refine ubi ?_;simp [dW];omega
theorem Ez:cG PR 48 nE rq:=fun fn us hfn hpre=>by
 have hf:PR.funcs[(48:Nat)]? = some Tryz.f48:=by kernel_rfl
 rw [hf] at hfn;cases hfn
 refine aM (C:=K0) (aB ao af .nil .nil) hf (by kernel_rfl) (aI (by kernel_rfl)) fun hok=>?_
 have hp:Tryz.f48.params.toList=[3,3]:=by kernel_rfl
 rw [hp] at hok
 obtain ⟨a,b,hus⟩:∃ a b,us=[[a],[b]]:=by
  obtain ⟨u,u2,rfl,h1,h2⟩:=bR (by kernel_rfl:Cs PR 3=some (false,[.int .i64])) (by kernel_rfl:Cs PR 3=some (false,[.int .i64])) hok.1
  obtain ⟨a,rfl⟩:=bG h1
  obtain ⟨b,rfl⟩:=bG h2
  exact ⟨a,b,rfl⟩
 subst hus
 refine .eq (xY _ _ _) ?_
 unfold rq
 simp only [bo,aZ]
 have hb:0≤b.int∧b.int≤6:=hpre
 refine bd (fun h=>bd (fun h2=>?_) (fun h2=>?_)) (fun h=>?_)
 ·rw [u64_in hb.1 (by omega)]
  refine df (by omega) (df (by omega) ?_)
  rw [zp hb.1 hb.2]
  unfold dW
  rw [decide_eq_true (show 0≤a.int by omega),decide_eq_true h2]
  rcases Jx hb.1 hb.2 with hp | hp | hp | hp | hp | hp | hp<;>
  ·rw [hp,Int.fdiv_eq_ediv_of_nonneg _ (by omega),i64_in (by omega) (by omega)]
   refine ubi ?_
   simp<;>omega
 ·refine ubi ?_;simp [dW];omega
 ·refine ubi ?_;simp [dW];omega
theorem rJ {x:U}:∀ {es:List (U × U)},(∀ e ∈ es,e.2 = .i 1)→gf .str x (.i 0) es = .i (if gL .str x es=true then 1 else 0)
 | [],_=>rfl
 | (a,y) :: r,h=>by
  have hy:y = .i 1:=h (a,y) (by simp)
  subst hy
  unfold gf gL
  cases hu:ueq .str x a with
  | true=>simp
  | false=>simpa using rJ fun e he=>h e (by simp [he])
theorem wG (x:U):ueq .str x x=true:=by simp [ueq]
theorem rm (x v z:U):∀ es:List (U × U),gf .str x z (dn .str x v es)=v
 | []=>by simp [dn,gf,wG]
 | (a,y) :: r=>by
  unfold dn
  cases hu:ueq .str x a with
  | true=>simp [gf,wG]
  | false=>simp [gf,hu,rm x v z r]
theorem re {x:U}:∀ {es:List (U × U)},(∀ e ∈ es,e.2 = .i 1)→∀ e ∈ dn .str x (.i 1) es,e.2 = .i 1
 | [],_=>by simp [dn]
 | (a,y) :: r,h=>by
  have hr:∀ e ∈ r,e.2=U.i 1:=fun e he=>h e (by simp [he])
  have hy:y = .i 1:=h (a,y) (by simp)
  unfold dn
  cases hu:ueq .str x a with
  | true=>intro e he;simp at he;rcases he with rfl | he;rfl;exact hr e he
  | false=>intro e he;simp at he;rcases he with rfl | he;exact hy;exact re hr e he
theorem vj:aE oH 0 (aa Tryz.f39 0):=by
 refine al (F:=ji) (ts:=[9,8,7,3]) (os:=[768]) rfl (fun svs _=>match svs with | .val _ i :: .val _ m :: _=>(m.int - i.int).toNat | _=>0) ?_
 intro pan svs os k ho1 ho2 h
 unfold ji at h
 split at h
 ·rename_i i n L id t es
  obtain ⟨⟨rfl,rfl,hn,h0,hi,hes⟩,hk⟩:=h
  have hL:L.list.length≤maxLen:=ho1.2.2.1.1
  refine .eq (tw pan _ _ k i n L es) ?_
  refine bd (fun hlt=>dt ⟨h0,by omega⟩ ?_) (fun hlt=>?_)
  ·rw [aN (by omega),cz] at hk
   have hw:IntKind.wrap .i64 (i.int + 1)=i.int + 1:=i64_in (by omega) (by unfold maxLen at hL;omega)
   have hc:(i.int + 1).toNat=i.int.toNat + 1:=by omega
   simp only [U.at] at hk
   simp only [hw,hc,rm,rJ hes,U.int_i]
   have hlt':(n.int - (i.int + 1)).toNat < (n.int - i.int).toNat:=by omega
   generalize (nth (U.i 0) L.list i.int.toNat)=x at hk ⊢
   cases hm:gL .str x es with
   | true=>rw [hm] at hk;exact dt (by decide) hk
   | false=>
    rw [hm] at hk
    refine df (by decide) (bi (fun h1=>?_) (fun h1=>?_))
    ·rw [nt h1] at hk;exact hk
    ·rw [nf h1] at hk
     exact blt hlt' ⟨⟨by trivial,by trivial,hn,by omega,by omega,re hes⟩,hk⟩
  ·rw [List.drop_of_length_le (by omega)] at hk
   exact hk
 ·exact h.elim
theorem Ad:bB PR 39 tv:=fun fn us hfn=>by
 have hf:PR.funcs[(39:Nat)]? = some Tryz.f39:=by kernel_rfl
 rw [hf] at hfn;cases hfn
 refine aM (C:=oH) (aB ao af (.cons yB .nil) .nil) hf (by kernel_rfl) (aW (by kernel_rfl) vj) fun hok=>?_
 have hp:Tryz.f39.params.toList=[84]:=by kernel_rfl
 rw [hp] at hok
 obtain ⟨L,hus⟩:∃ L,us=[[L]]:=by
  obtain ⟨u,rfl,h1⟩:=cT (by kernel_rfl:Cs PR 84=some (false,[.sl false [.str]])) hok.1
  obtain ⟨L,rfl⟩:=bG h1
  exact ⟨L,rfl⟩
 subst hus
 refine .eq (vZ _ _) ?_
 unfold tv
 simp only [bo,aZ]
 refine ⟨⟨by trivial,by trivial,by trivial,by omega,by omega,by simp⟩,?_⟩
 simp only [Int.toNat_zero,List.drop_zero]
 refine bi (fun h=>?_) (fun h=>?_)<;>rw [h]
end Go.Mat

namespace Go.Mat
open Go Go.Den Go.Proofs
abbrev SC:List Ct:=[.str,.int .i64,.sl false [.sl true EC]]
abbrev SpC:List Ct:=[.int .i64,.int .i64]
abbrev BC:List Ct:=[.str,.bool,.sl true SpC]
abbrev jO:TypeId:=9
def dQ (c:Int):List U→Bool
 | []=>true
 | s :: r=>dW (e1 s).int c && bU (e2 s).list ((e1 s).int / 2 ^ c.toNat) c && dQ c r
def mD (l:List U):Bool:=!decide (0 < l.length) || decide ((e1 (U.at l (l.length - 1))).int≤4096)
def i5:List U→Bool
 | []=>true
 | b :: r=>fS (-1) (e2 b).list && mD (e2 b).list && i5 r
def cV:List U→Bool
 | []=>true
 | n :: r=>decide (0≤n.int) && decide (n.int≤65535) && cV r
def jN (s:ByteArray):Bool:=s.data.toList == [] || fG s
def cj (c sz bk T S M Q:U):Bool:=
 decide (0≤c.int) && decide (c.int≤6) && dW sz.int c.int && jN bk.str && bU T.list (sz.int / 2 ^ c.int.toNat) c.int && decide (S.list.length≤8) && decide (M.list.length≤8) && decide (Q.list.length≤65536) &&
 dQ c.int S.list && i5 M.list && cV Q.list && cz [] (S.list.map e0) && cz [] (M.list.map e0)
def yF:List (List U)→List (List U):=fun us=>[[.b (cj (nth (.i 0) (nth [] us 0) 0) (nth (.i 0) (nth [] us 0) 1) (nth (.i 0) (nth [] us 0) 2) (nth (.i 0) (nth [] us 0) 3) (nth (.i 0) (nth [] us 0) 4) (nth (.i 0) (nth [] us 0) 5) (nth (.i 0) (nth [] us 0) 6))]]
abbrev qI:St:=⟨[(2,vb (.b false))],[]⟩
noncomputable def kN:aS:=fun _ svs os k=>match svs,os with
 | [.val (.int .i64) i,.val (.int .i64) n,.val (.sl true ec) L,.own o1,.own o2,.ptr pp po],[.arr t1 xs,.arr t2 ys,.box [.val (.int .i64) c,.val (.int .i64) sz,.val .str bk,.val (.sl false [.sl true x1]) T,.val (.sl true x2) S,.val (.sl true x3) M,.val (.sl false [.int .i64]) Q]]=>
  (x1=EC∧x2=SC∧x3=BC∧ec=SC∧o1=508∧o2=636∧pp=128∧po=0∧t1=jO∧t2=jO∧n.int=(L.list.length:Int)∧n.int≤8∧0≤i.int∧i.int≤n.int∧0≤c.int∧c.int≤6∧(xs.length:Int)≤i.int)∧
  (bif dQ c.int (L.list.drop i.int.toNat) then k (.exit 0) ⟨[(3,.own 508),(4,.own 636),(1,.ptr 128 0)],[(508,.arr jO (xs ++ (L.list.drop i.int.toNat).map e0)),(636,.arr jO ys),(128,.box [vi c,vi sz,vs bk,vl (.sl true EC) T,vt SC S,vt BC M,vl (.int .i64) Q])]⟩ else k .ret qI)
 | _,_=>False
noncomputable def kR:aS:=fun _ svs os k=>match svs,os with
 | [.val (.int .i64) i,.val (.int .i64) n,.val (.sl true ec) L,.own o1,.own o2,.ptr pp po],[.arr t1 xs,.arr t2 ys,.box [.val (.int .i64) c,.val (.int .i64) sz,.val .str bk,.val (.sl false [.sl true x1]) T,.val (.sl true x2) S,.val (.sl true x3) M,.val (.sl false [.int .i64]) Q]]=>
  (x1=EC∧x2=SC∧x3=BC∧ec=BC∧o1=508∧o2=636∧pp=128∧po=0∧t1=jO∧t2=jO∧n.int=(L.list.length:Int)∧n.int≤8∧0≤i.int∧i.int≤n.int∧(ys.length:Int)≤i.int)∧
  (bif i5 (L.list.drop i.int.toNat) then k (.exit 2) ⟨[(3,.own 508),(4,.own 636),(1,.ptr 128 0)],[(508,.arr jO xs),(636,.arr jO (ys ++ (L.list.drop i.int.toNat).map e0)),(128,.box [vi c,vi sz,vs bk,vl (.sl true EC) T,vt SC S,vt BC M,vl (.int .i64) Q])]⟩ else k .ret qI)
 | _,_=>False
noncomputable def kP:aS:=fun _ svs os k=>match svs,os with
 | [.val (.int .i64) i,.val (.int .i64) n,.val (.sl false [.int .i64]) L,.own o1,.own o2],[.arr t1 xs,.arr t2 ys]=>
  (o1=508∧o2=636∧t1=jO∧t2=jO∧n.int=(L.list.length:Int)∧0≤i.int∧i.int≤n.int)∧
  (bif cV (L.list.drop i.int.toNat) then k (.exit 4) ⟨[(3,.own 508),(4,.own 636)],[(508,.arr jO xs),(636,.arr jO ys)]⟩ else k .ret qI)
 | _,_=>False
noncomputable def nH:Ctx:=mkC PR bM (aV 35 nE rq (aH 36 qi (aH 37 s6 (aH 38 nr (aH 39 tv aK))))) aL
 (aw 4 [137,136,135,3,4] [508,636] kP (aw 2 [102,101,100,3,4,1] [508,636,128] kR (aw 0 [70,69,68,3,4,1] [508,636,128] kN aC)))
 (an 4 [3,4] [508,636] (an 2 [3,4,1] [508,636,128] (an 0 [3,4,1] [508,636,128] (an 1048580 [2] [] (an 1048578 [2] [] (an 1048576 [2] [] aq)))))) aq
theorem wg (pan:KP) (μ:Mu) (N:Nat) (k:KE) (i n L c sz bk T S M Q:U) (xs ys:List U) {a d e f g h j} (_:a=(nat_lit 128,.box [.val (.int IntKind.i64) c,.val (.int IntKind.i64) sz,.val .str bk,.val (.sl false [.sl true [.int .i64,.int .i64,.int .i64,.int .i64,.int .u32]]) T,.val (.sl true [.str,.int .i64,Ct.sl false [.sl true [.int .i64,.int .i64,.int .i64,.int .i64,.int .u32]]]) S,.val (.sl true [.str,Ct.bool,Ct.sl true [.int .i64,.int .i64]]) M,.val (.sl false [.int .i64]) Q]):=by rfl) (_:d=(U.list (nth (U.i (0:Int)) L.list i.int.toNat)):=by rfl) (_:e=(St.mk [(nat_lit 2,.val .bool (U.b false))] []):=by rfl) (_:f=(i.int + (1:Int)):=by rfl) (_:g=(List.drop (Int.toNat (IntKind.wrap .i64 f)) L.list):=by rfl) (_:h=(U.int (nth (U.i (0:Int)) (List.tail d) 0)):=by rfl) (_:j=(nat_lit 1,.ptr (nat_lit 128) (nat_lit 0)):=by rfl): (exec (nH.panics pan) (aa Tryz.f17 0) 0 ⟨[(70,vi i),(69,vi n),(68,vt SC L),(3,.own 508),(4,.own 636),(1,.ptr 128 0)],[(508,.arr jO xs),(636,.arr jO ys),(128,.box [vi c,vi sz,vs bk,vl (.sl true EC) T,vt SC S,vt BC M,vl (.int .i64) Q])]⟩ (again PR (some ([3,4,1],[508,636,128])) (some ([2],[])) pan [70,69,68,3,4,1] [508,636,128] kN μ N k))=(bif decide (i.int < n.int) then bif decide ((0:Int)≤i.int∧i.int < (L.list.length:Int)) then bif decide (List.length xs + ((0:Nat) + (1:Nat))≤room) && !lM (508:Nat) then nE [[nth (U.i (0:Int)) (List.tail d) 0],[c]]∧bif !dW h c.int then k Ex.ret e else bif decide (c.int < (0:Int)) then False else bif !bU (U.list (nth (U.i (0:Int)) (List.tail (List.tail d)) 0)) (Int.fdiv h ((2:Int) ^ min c.int.toNat (IntKind.bits IntKind.i64))) c.int then k Ex.ret e else bif Nat.blt (μ [.val (.int IntKind.i64) (U.i (IntKind.wrap .i64 f)),.val (.int IntKind.i64) n,.val (.sl true [Ct.str,Ct.int IntKind.i64,Ct.sl false [Ct.sl true [Ct.int IntKind.i64,Ct.int IntKind.i64,Ct.int IntKind.i64,Ct.int IntKind.i64,Ct.int IntKind.u32]]]) L,SV.own (nat_lit 508),SV.own (nat_lit 636),SV.ptr (nat_lit 128) (nat_lit 0)] [Obj.arr (nat_lit 9) (xs ++ [nth (U.i (0:Int)) d 0]),Obj.arr (nat_lit 9) ys,Obj.box [SV.val (Ct.int IntKind.i64) c,SV.val (Ct.int IntKind.i64) sz,SV.val Ct.str bk,SV.val (Ct.sl false [Ct.sl true [Ct.int IntKind.i64,Ct.int IntKind.i64,Ct.int IntKind.i64,Ct.int IntKind.i64,Ct.int IntKind.u32]]) T,SV.val (Ct.sl true [Ct.str,Ct.int IntKind.i64,Ct.sl false [Ct.sl true [Ct.int IntKind.i64,Ct.int IntKind.i64,Ct.int IntKind.i64,Ct.int IntKind.i64,Ct.int IntKind.u32]]]) S,SV.val (Ct.sl true [Ct.str,Ct.bool,Ct.sl true [Ct.int IntKind.i64,Ct.int IntKind.i64]]) M,SV.val (Ct.sl false [Ct.int IntKind.i64]) Q]]) N then ([Ct.int IntKind.i64,Ct.int IntKind.i64,Ct.int IntKind.i64,Ct.int IntKind.i64,Ct.int IntKind.u32]=[.int .i64,.int .i64,.int .i64,.int .i64,.int .u32]∧[Ct.str,Ct.int IntKind.i64,Ct.sl false [Ct.sl true [Ct.int IntKind.i64,Ct.int IntKind.i64,Ct.int IntKind.i64,Ct.int IntKind.i64,Ct.int IntKind.u32]]]=[.str,.int .i64,Ct.sl false [.sl true [.int .i64,.int .i64,.int .i64,.int .i64,.int .u32]]]∧[Ct.str,Ct.bool,Ct.sl true [Ct.int IntKind.i64,Ct.int IntKind.i64]]=[.str,Ct.bool,Ct.sl true [.int .i64,.int .i64]]∧[Ct.str,Ct.int IntKind.i64,Ct.sl false [Ct.sl true [Ct.int IntKind.i64,Ct.int IntKind.i64,Ct.int IntKind.i64,Ct.int IntKind.i64,Ct.int IntKind.u32]]]=[.str,.int .i64,Ct.sl false [.sl true [.int .i64,.int .i64,.int .i64,.int .i64,.int .u32]]]∧508=508∧636=636∧128=128∧0=0∧9=9∧9=9∧n.int=(L.list.length:Int)∧n.int≤(8:Int)∧(0:Int)≤IntKind.wrap .i64 f∧IntKind.wrap .i64 f≤n.int∧(0:Int)≤c.int∧c.int≤(6:Int)∧(↑(List.length (xs ++ [nth (U.i (0:Int)) d 0])):Int)≤IntKind.wrap .i64 f)∧bif dQ c.int g then k (Ex.exit (nat_lit 0)) (St.mk [(nat_lit 3,.own (nat_lit 508)),(nat_lit 4,.own (nat_lit 636)),j] [(nat_lit 508,.arr (nat_lit 9) (xs ++ [nth (U.i (0:Int)) d 0] ++ List.map e0 g)),(nat_lit 636,.arr (nat_lit 9) ys),a]) else k Ex.ret e else False else False else False else k (Ex.exit (nat_lit 0)) (St.mk [(nat_lit 3,.own (nat_lit 508)),(nat_lit 4,.own (nat_lit 636)),j] [(nat_lit 508,.arr (nat_lit 9) xs),(nat_lit 636,.arr (nat_lit 9) ys),a])):=by subst_vars;kernel_rfl
theorem wS (pan:KP) (μ:Mu) (N:Nat) (k:KE) (i n L c sz bk T S M Q:U) (xs ys:List U) {r h v a d e f g y j l m o p q s t u w x z} (_:r=(i.int + (1:Int)):=by rfl) (_:h=(U.list (nth (U.i (0:Int)) L.list i.int.toNat)):=by rfl) (_:v=(ys ++ [nth (U.i (0:Int)) h 0]):=by rfl) (_:a=([Ct.int IntKind.i64,Ct.int IntKind.i64,Ct.int IntKind.i64,Ct.int IntKind.i64,Ct.int IntKind.u32]=[.int .i64,.int .i64,.int .i64,.int .i64,.int .u32]∧[Ct.str,Ct.int IntKind.i64,Ct.sl false [Ct.sl true [Ct.int IntKind.i64,Ct.int IntKind.i64,Ct.int IntKind.i64,Ct.int IntKind.i64,Ct.int IntKind.u32]]]=[.str,.int .i64,Ct.sl false [.sl true [.int .i64,.int .i64,.int .i64,.int .i64,.int .u32]]]∧[Ct.str,Ct.bool,Ct.sl true [Ct.int IntKind.i64,Ct.int IntKind.i64]]=[.str,Ct.bool,Ct.sl true [.int .i64,.int .i64]]∧[Ct.str,Ct.bool,Ct.sl true [Ct.int IntKind.i64,Ct.int IntKind.i64]]=[.str,Ct.bool,Ct.sl true [.int .i64,.int .i64]]∧508=508∧636=636∧128=128∧0=0∧9=9∧9=9∧n.int=(L.list.length:Int)∧n.int≤(8:Int)∧(0:Int)≤IntKind.wrap .i64 r∧IntKind.wrap .i64 r≤n.int∧(↑(List.length v):Int)≤IntKind.wrap .i64 r):=by rfl) (_:d=(U.list (nth (U.i (0:Int)) (List.tail (List.tail h)) 0)):=by rfl) (_:e=(nat_lit 128,.box [.val (.int IntKind.i64) c,.val (.int IntKind.i64) sz,.val .str bk,.val (.sl false [.sl true [.int .i64,.int .i64,.int .i64,.int .i64,.int .u32]]) T,.val (.sl true [.str,.int .i64,Ct.sl false [.sl true [.int .i64,.int .i64,.int .i64,.int .i64,.int .u32]]]) S,.val (.sl true [.str,Ct.bool,Ct.sl true [.int .i64,.int .i64]]) M,.val (.sl false [.int .i64]) Q]):=by rfl) (_:f=(Ct.sl true [Ct.str,Ct.int IntKind.i64,Ct.sl false [Ct.sl true [Ct.int IntKind.i64,Ct.int IntKind.i64,Ct.int IntKind.i64,Ct.int IntKind.i64,Ct.int IntKind.u32]]]):=by rfl) (_:g=(Ct.sl true [Ct.str,Ct.bool,Ct.sl true [Ct.int IntKind.i64,Ct.int IntKind.i64]]):=by rfl) (_:y=(IntKind.wrap .i64 r):=by rfl) (_:j=(List.drop (Int.toNat y) L.list):=by rfl) (_:l=(Ct.sl false [Ct.sl true [Ct.int IntKind.i64,Ct.int IntKind.i64,Ct.int IntKind.i64,Ct.int IntKind.i64,Ct.int IntKind.u32]]):=by rfl) (_:m=(St.mk [(nat_lit 2,.val .bool (U.b false))] []):=by rfl) (_:o=(Ct.int IntKind.i64):=by rfl) (_:p=(nat_lit 1,.ptr (nat_lit 128) (nat_lit 0)):=by rfl) (_:q=(nat_lit 636,.arr (nat_lit 9) (ys ++ [nth (U.i (0:Int)) h 0] ++ List.map e0 j)):=by rfl) (_:s=((↑(List.length d):Int) - (1:Int)):=by rfl) (_:t=(Ct.sl false [Ct.int IntKind.i64]):=by rfl) (_:u=(nat_lit 508,.arr (nat_lit 9) xs):=by rfl) (_:w=(nat_lit 3,.own (nat_lit 508)):=by rfl) (_:x=(nat_lit 4,.own (nat_lit 636)):=by rfl) (_:z=(Ex.exit (nat_lit 2)):=by rfl): (exec (nH.panics pan) (aa Tryz.f17 1) 2 ⟨[(102,vi i),(101,vi n),(100,vt BC L),(3,.own 508),(4,.own 636),(1,.ptr 128 0)],[(508,.arr jO xs),(636,.arr jO ys),(128,.box [vi c,vi sz,vs bk,vl (.sl true EC) T,vt SC S,vt BC M,vl (.int .i64) Q])]⟩ (again PR (some ([3,4,1],[508,636,128])) (some ([2],[])) pan [102,101,100,3,4,1] [508,636,128] kR μ N k))=(bif decide (i.int < n.int) then bif decide ((0:Int)≤i.int∧i.int < (L.list.length:Int)) then bif decide (List.length ys + ((0:Nat) + (1:Nat))≤room) && !lM (636:Nat) then bif !fS (-1:Int) d then k Ex.ret m else bif decide ((↑(List.length d):Int) > (0:Int)) then bif decide ((0:Int)≤IntKind.wrap .i64 s∧IntKind.wrap .i64 s < (↑(List.length d):Int)) then bif decide (U.int (nth (U.i (0:Int)) (List.drop (1:Nat) (U.list (nth (U.i (0:Int)) d (Int.toNat (IntKind.wrap .i64 s))))) 0) > (4096:Int)) then k Ex.ret m else bif Nat.blt (μ [.val (.int IntKind.i64) (U.i y),.val (.int IntKind.i64) n,.val (.sl true [Ct.str,Ct.bool,Ct.sl true [Ct.int IntKind.i64,Ct.int IntKind.i64]]) L,SV.own (nat_lit 508),SV.own (nat_lit 636),SV.ptr (nat_lit 128) (nat_lit 0)] [Obj.arr (nat_lit 9) xs,Obj.arr (nat_lit 9) v,Obj.box [SV.val o c,SV.val o sz,SV.val Ct.str bk,SV.val l T,SV.val f S,SV.val g M,SV.val t Q]]) N then a∧bif i5 j then k z (St.mk [w,x,p] [u,q,(nat_lit 128,.box [.val (.int IntKind.i64) c,.val (.int IntKind.i64) sz,.val .str bk,.val (.sl false [Ct.sl true [Ct.int IntKind.i64,Ct.int IntKind.i64,Ct.int IntKind.i64,Ct.int IntKind.i64,Ct.int IntKind.u32]]) T,SV.val f S,SV.val g M,SV.val t Q])]) else k Ex.ret (St.mk [(nat_lit 2,SV.val Ct.bool (U.b false))] []) else False else False else bif Nat.blt (μ [SV.val o (U.i y),SV.val o n,SV.val g L,SV.own (nat_lit 508),SV.own (nat_lit 636),SV.ptr (nat_lit 128) (nat_lit 0)] [Obj.arr (nat_lit 9) xs,Obj.arr (nat_lit 9) v,Obj.box [SV.val o c,SV.val o sz,SV.val Ct.str bk,SV.val l T,SV.val f S,SV.val g M,SV.val t Q]]) N then a∧bif i5 j then k z (St.mk [w,x,p] [u,q,e]) else k Ex.ret m else False else False else False else k z (St.mk [w,x,p] [u,(nat_lit 636,.arr (nat_lit 9) ys),e])):=by subst_vars;kernel_rfl
theorem tQ (pan:KP) (μ:Mu) (N:Nat) (k:KE) (i n L:U) (xs ys:List U) {a c d e} (_:a=(St.mk [(nat_lit 3,.own (nat_lit 508)),(nat_lit 4,.own (nat_lit 636))] [(nat_lit 508,.arr (nat_lit 9) xs),(nat_lit 636,.arr (nat_lit 9) ys)]):=by rfl) (_:c=(St.mk [(nat_lit 2,.val .bool (U.b false))] []):=by rfl) (_:d=(i.int + (1:Int)):=by rfl) (_:e=(nth (U.i (0:Int)) L.list i.int.toNat):=by rfl): (exec (nH.panics pan) (aa Tryz.f17 2) 4 ⟨[(137,vi i),(136,vi n),(135,vl (.int .i64) L),(3,.own 508),(4,.own 636)],[(508,.arr jO xs),(636,.arr jO ys)]⟩ (again PR (some ([3,4],[508,636])) (some ([2],[])) pan [137,136,135,3,4] [508,636] kP μ N k))=(bif decide (i.int < n.int) then bif decide ((0:Int)≤i.int∧i.int < (L.list.length:Int)) then bif decide (U.int e < (0:Int)) then k Ex.ret c else bif decide (U.int e > (65535:Int)) then k Ex.ret c else bif Nat.blt (μ [.val (.int IntKind.i64) (U.i (IntKind.wrap .i64 d)),.val (.int IntKind.i64) n,.val (.sl false [.int .i64]) L,.own (nat_lit 508),.own (nat_lit 636)] [.arr (nat_lit 9) xs,.arr (nat_lit 9) ys]) N then (508=508∧636=636∧9=9∧9=9∧n.int=(L.list.length:Int)∧(0:Int)≤IntKind.wrap .i64 d∧IntKind.wrap .i64 d≤n.int)∧bif cV (List.drop (Int.toNat (IntKind.wrap .i64 d)) L.list) then k (Ex.exit (nat_lit 4)) a else k Ex.ret c else False else False else k (Ex.exit (nat_lit 4)) a):=by subst_vars;kernel_rfl
theorem Au (R:RF) (c sz bk T S M Q:U) {g a h d e j f i k l} (_:g=(S.list.length:Int):=by rfl) (_:a=([Ct.int IntKind.i64,Ct.int IntKind.i64,Ct.int IntKind.i64,Ct.int IntKind.i64,Ct.int IntKind.u32]=[.int .i64,.int .i64,.int .i64,.int .i64,.int .u32]∧[Ct.str,Ct.int IntKind.i64,Ct.sl false [Ct.sl true [Ct.int IntKind.i64,Ct.int IntKind.i64,Ct.int IntKind.i64,Ct.int IntKind.i64,Ct.int IntKind.u32]]]=[.str,.int .i64,Ct.sl false [.sl true [.int .i64,.int .i64,.int .i64,.int .i64,.int .u32]]]∧[Ct.str,Ct.bool,Ct.sl true [Ct.int IntKind.i64,Ct.int IntKind.i64]]=[.str,Ct.bool,Ct.sl true [.int .i64,.int .i64]]∧[Ct.str,Ct.int IntKind.i64,Ct.sl false [Ct.sl true [Ct.int IntKind.i64,Ct.int IntKind.i64,Ct.int IntKind.i64,Ct.int IntKind.i64,Ct.int IntKind.u32]]]=[.str,.int .i64,Ct.sl false [.sl true [.int .i64,.int .i64,.int .i64,.int .i64,.int .u32]]]∧508=508∧636=636∧128=128∧0=0∧9=9∧9=9∧g=g∧g≤(8:Int)∧(0:Int)≤(0:Int)∧(0:Int)≤g∧(0:Int)≤c.int∧c.int≤(6:Int)∧(↑(0:Nat):Int)≤(0:Int)):=by rfl) (_:h=(M.list.length:Int):=by rfl) (_:d=([Ct.int IntKind.i64,Ct.int IntKind.i64,Ct.int IntKind.i64,Ct.int IntKind.i64,Ct.int IntKind.u32]=[.int .i64,.int .i64,.int .i64,.int .i64,.int .u32]∧[Ct.str,Ct.int IntKind.i64,Ct.sl false [Ct.sl true [Ct.int IntKind.i64,Ct.int IntKind.i64,Ct.int IntKind.i64,Ct.int IntKind.i64,Ct.int IntKind.u32]]]=[.str,.int .i64,Ct.sl false [.sl true [.int .i64,.int .i64,.int .i64,.int .i64,.int .u32]]]∧[Ct.str,Ct.bool,Ct.sl true [Ct.int IntKind.i64,Ct.int IntKind.i64]]=[.str,Ct.bool,Ct.sl true [.int .i64,.int .i64]]∧[Ct.str,Ct.bool,Ct.sl true [Ct.int IntKind.i64,Ct.int IntKind.i64]]=[.str,Ct.bool,Ct.sl true [.int .i64,.int .i64]]∧508=508∧636=636∧128=128∧0=0∧9=9∧9=9∧h=h∧h≤(8:Int)∧(0:Int)≤(0:Int)∧(0:Int)≤h∧(↑(0:Nat):Int)≤(0:Int)):=by rfl) (_:e=(Int.toNat (0:Int)):=by rfl) (_:j=(Q.list.length:Int):=by rfl) (_:f=(508=508∧636=636∧9=9∧9=9∧j=j∧(0:Int)≤(0:Int)∧(0:Int)≤j):=by rfl) (_:i=(Int.fdiv sz.int ((2:Int) ^ min c.int.toNat (IntKind.bits IntKind.i64))):=by rfl) (_:k=(List.drop e S.list):=by rfl) (_:l=(List.drop e M.list):=by rfl): (run nH Tryz.f17 [[c,sz,bk,T,S,M,Q]] R)=(bif decide (c.int < (0:Int)) then R [[U.b false]] else bif decide (c.int > (6:Int)) then R [[U.b false]] else nE [[sz],[c]]∧bif !dW sz.int c.int then R [[U.b false]] else bif !ByteArray.toList bk.str == ByteArray.toList (ByteArray.mk #[]) then bif !fG bk.str then R [[U.b false]] else bif decide (c.int < (0:Int)) then False else bif !bU T.list i c.int then R [[U.b false]] else bif decide (g > (8:Int)) then R [[U.b false]] else bif decide (h > (8:Int)) then R [[U.b false]] else bif decide (j > (65536:Int)) then R [[U.b false]] else a∧bif dQ c.int k then d∧bif i5 l then f∧bif cV (List.drop e Q.list) then bif cz [] ([] ++ List.map e0 k) then R [[U.b (cz [] ([] ++ List.map e0 l))]] else R [[U.b false]] else R [[U.b false]] else R [[U.b false]] else R [[U.b false]] else bif decide (c.int < (0:Int)) then False else bif !bU T.list i c.int then R [[U.b false]] else bif decide (g > (8:Int)) then R [[U.b false]] else bif decide (h > (8:Int)) then R [[U.b false]] else bif decide (j > (65536:Int)) then R [[U.b false]] else a∧bif dQ c.int k then d∧bif i5 l then f∧bif cV (List.drop e Q.list) then bif cz [] ([] ++ List.map e0 k) then R [[U.b (cz [] ([] ++ List.map e0 l))]] else R [[U.b false]] else R [[U.b false]] else R [[U.b false]] else R [[U.b false]]):=by subst_vars;kernel_rfl
end Go.Mat

namespace Go.Mat
open Go Go.Den Go.Proofs
theorem xi {n c:Int} (h:0≤c) (h':c≤6):Int.fdiv n (2 ^ min c.toNat (IntKind.bits .i64))=n / 2 ^ c.toNat:=by
 rw [zp h h',Int.fdiv_eq_ediv_of_nonneg _ (by have:=(xG h h').1;omega)]
theorem u6 (xs:List U) (s:U) (r:List U):xs ++ [nth (.i 0) s.list 0] ++ r.map e0=xs ++ (s :: r).map e0:=by simp
theorem xI:aE nH 0 (aa Tryz.f17 0):=by
 refine al (F:=kN) (ts:=[70,69,68,3,4,1]) (os:=[508,636,128]) rfl (fun svs _=>match svs with | .val _ i :: .val _ m :: _=>(m.int - i.int).toNat | _=>0) ?_
 intro pan svs os k ho1 ho2 h
 unfold kN at h
 split at h
 ·rename_i i n ec L o1 o2 pp po t1 xs t2 ys c sz bk x1 T x2 S x3 M Q
  obtain ⟨⟨rfl,rfl,rfl,rfl,rfl,rfl,rfl,rfl,rfl,rfl,hn,hn8,h0,hi,hc0,hc6,hx⟩,hk⟩:=h
  refine .eq (wg pan _ _ k i n L c sz bk T S M Q xs ys) ?_
  refine bd (fun hlt=>dt ⟨h0,by omega⟩ ?_) (fun hlt=>?_)
  ·rw [aN (by omega),dQ,← u6] at hk
   simp only [U.at,e1,e2] at hk
   have hw:IntKind.wrap .i64 (i.int + 1)=i.int + 1:=i64_in (by omega) (by omega)
   have hc:(i.int + 1).toNat=i.int.toNat + 1:=by omega
   have hlt':(n.int - (i.int + 1)).toNat < (n.int - i.int).toNat:=by omega
   simp only [aD,Nat.zero_add,Nat.reduceAdd,hw,hc,xi hc0 hc6]
   generalize nth (U.i 0) L.list i.int.toNat=s at hk ⊢
   refine cu (by simp [room];omega) rfl ⟨⟨by simpa using hc0,by simpa using hc6⟩,bi (fun h1=>?_) (fun h1=>df (by omega) (bi (fun h2=>?_) (fun h2=>?_)))⟩
   ·rw [nt h1] at hk;exact hk
   ·rw [nf h1,nt h2] at hk;exact hk
   ·rw [nf h1,nf h2] at hk
    exact blt hlt' ⟨⟨by trivial,by trivial,by trivial,by trivial,by trivial,by trivial,by trivial,by trivial,by trivial,by trivial,hn,hn8,by omega,by omega,hc0,hc6,by simp;omega⟩,hk⟩
  ·rw [List.drop_of_length_le (by omega)] at hk
   simpa [dQ] using hk
 ·exact h.elim
theorem BF:aE nH 2 (aa Tryz.f17 1):=by
 refine al (F:=kR) (ts:=[102,101,100,3,4,1]) (os:=[508,636,128]) rfl (fun svs _=>match svs with | .val _ i :: .val _ m :: _=>(m.int - i.int).toNat | _=>0) ?_
 intro pan svs os k ho1 ho2 h
 unfold kR at h
 split at h
 ·rename_i i n ec L o1 o2 pp po t1 xs t2 ys c sz bk x1 T x2 S x3 M Q
  obtain ⟨⟨rfl,rfl,rfl,rfl,rfl,rfl,rfl,rfl,rfl,rfl,hn,hn8,h0,hi,hx⟩,hk⟩:=h
  have hlen:∀ j,j < L.list.length→(nth (.i 0) (nth (.i 0) L.list j).list 2).list.length≤maxLen:=fun j hj=>by
   have h2:=(ho1.2.2.1.2 j hj).2.2.1.1
   simpa [U.at,dF] using h2
  refine .eq (wS pan _ _ k i n L c sz bk T S M Q xs ys) ?_
  refine bd (fun hlt=>dt ⟨h0,by omega⟩ ?_) (fun hlt=>?_)
  ·have hl:=hlen i.int.toNat (by omega)
   rw [aN (by omega),i5,← u6] at hk
   simp only [U.at,e1,e2] at hk
   have hw:IntKind.wrap .i64 (i.int + 1)=i.int + 1:=i64_in (by omega) (by omega)
   have hc:(i.int + 1).toNat=i.int.toNat + 1:=by omega
   have hlt':(n.int - (i.int + 1)).toNat < (n.int - i.int).toNat:=by omega
   simp only [aD,bW,Nat.zero_add,Nat.add_zero,Nat.reduceAdd,hw,hc]
   generalize nth (U.i 0) L.list i.int.toNat=s at hk hl ⊢
   generalize (nth (U.i 0) s.list 2).list=l at hk hl ⊢
   have hw1:0 < l.length→IntKind.wrap .i64 ((l.length:Int) - 1)=(l.length:Int) - 1:=fun h=>i64_in (by omega) (by unfold maxLen at hl;omega)
   refine cu (by simp [room];omega) rfl (bi (fun h1=>?_) (fun h1=>bd (fun h2=>?_) (fun h2=>?_)))
   ·rw [nt h1] at hk;exact hk
   ·rw [hw1 (by omega)]
    have hj:((l.length:Int) - 1).toNat=l.length - 1:=by omega
    refine dt (by omega) (bd (fun h3=>?_) (fun h3=>?_))
    ·rw [hj] at h3
     rw [nf h1,mD,decide_eq_true (show 0 < l.length by omega)] at hk
     simp only [U.at,e1] at hk
     rw [decide_eq_false (by omega)] at hk
     exact hk
    ·rw [hj] at h3
     rw [nf h1,mD,decide_eq_true (show 0 < l.length by omega)] at hk
     simp only [U.at,e1] at hk
     rw [decide_eq_true (by omega)] at hk
     exact blt hlt' ⟨⟨by trivial,by trivial,by trivial,by trivial,by trivial,by trivial,by trivial,by trivial,by trivial,by trivial,hn,hn8,by omega,by omega,by simp;omega⟩,hk⟩
   ·rw [nf h1,mD,decide_eq_false (show ¬ 0 < l.length by omega)] at hk
    exact blt hlt' ⟨⟨by trivial,by trivial,by trivial,by trivial,by trivial,by trivial,by trivial,by trivial,by trivial,by trivial,hn,hn8,by omega,by omega,by simp;omega⟩,hk⟩
  ·rw [List.drop_of_length_le (by omega)] at hk
   simpa [i5] using hk
 ·exact h.elim
theorem vd:aE nH 4 (aa Tryz.f17 2):=by
 refine al (F:=kP) (ts:=[137,136,135,3,4]) (os:=[508,636]) rfl (fun svs _=>match svs with | .val _ i :: .val _ m :: _=>(m.int - i.int).toNat | _=>0) ?_
 intro pan svs os k ho1 ho2 h
 unfold kP at h
 split at h
 ·rename_i i n L o1 o2 t1 xs t2 ys
  obtain ⟨⟨rfl,rfl,rfl,rfl,hn,h0,hi⟩,hk⟩:=h
  have hL:L.list.length≤maxLen:=ho1.2.2.1.1
  refine .eq (tQ pan _ _ k i n L xs ys) ?_
  refine bd (fun hlt=>dt ⟨h0,by omega⟩ ?_) (fun hlt=>?_)
  ·rw [aN (by omega),cV] at hk
   simp only [U.at] at hk
   have hw:IntKind.wrap .i64 (i.int + 1)=i.int + 1:=i64_in (by omega) (by unfold maxLen at hL;omega)
   have hc:(i.int + 1).toNat=i.int.toNat + 1:=by omega
   have hlt':(n.int - (i.int + 1)).toNat < (n.int - i.int).toNat:=by omega
   simp only [hw,hc]
   refine bd (fun h1=>?_) (fun h1=>bd (fun h2=>?_) (fun h2=>?_))
   ·rw [decide_eq_false (by omega)] at hk;exact hk
   ·rw [decide_eq_true (show 0≤(nth (U.i 0) L.list i.int.toNat).int by omega),decide_eq_false (by omega)] at hk;exact hk
   ·rw [decide_eq_true (show 0≤(nth (U.i 0) L.list i.int.toNat).int by omega),decide_eq_true (by omega)] at hk
    exact blt hlt' ⟨⟨by trivial,by trivial,by trivial,by trivial,hn,by omega,by omega⟩,hk⟩
  ·rw [List.drop_of_length_le (by omega)] at hk
   exact hk
 ·exact h.elim
theorem qH (c sz bk T S M Q:U):cj c sz bk T S M Q=true↔0≤c.int∧c.int≤6∧dW sz.int c.int=true∧jN bk.str=true∧bU T.list (sz.int / 2 ^ c.int.toNat) c.int=true∧S.list.length≤8∧M.list.length≤8∧Q.list.length≤65536∧
  dQ c.int S.list=true∧i5 M.list=true∧cV Q.list=true∧cz [] (S.list.map e0)=true∧cz [] (M.list.map e0)=true:=by
 simp only [cj,Bool.and_eq_true,decide_eq_true_eq,and_assoc]
theorem dq {c sz bk T S M Q:U} (h:(0≤c.int∧c.int≤6∧dW sz.int c.int=true∧jN bk.str=true∧bU T.list (sz.int / 2 ^ c.int.toNat) c.int=true∧S.list.length≤8∧M.list.length≤8∧Q.list.length≤65536∧
  dQ c.int S.list=true∧i5 M.list=true∧cV Q.list=true∧cz [] (S.list.map e0)=true∧cz [] (M.list.map e0)=true)→False):([[U.b false]]:List (List U))=[[.b (cj c sz bk T S M Q)]]:=by
 rw [show cj c sz bk T S M Q=false from Bool.eq_false_iff.2 fun h'=>h ((qH ..).1 h')]
theorem fls {b:Bool} (h:(!b)=true) (h':b=true):False:=by rw [h'] at h;cases h
theorem flf {b:Bool} (h:b=false) (h':b=true):False:=by rw [h'] at h;cases h
theorem yZ:bB PR 17 yF:=fun fn us hfn=>by
 have hf:PR.funcs[(17:Nat)]? = some Tryz.f17:=by kernel_rfl
 rw [hf] at hfn;cases hfn
 refine aM (C:=nH) (aB ao af (.consP Gx (.cons yB (.cons CS (.cons EE (.cons Ad .nil))))) .nil) hf (by kernel_rfl) (dP (by kernel_rfl) xI BF vd) fun hok=>?_
 have hp:Tryz.f17.params.toList=[29]:=by kernel_rfl
 rw [hp] at hok
 obtain ⟨c,sz,bk,T,S,M,Q,hus⟩:∃ c sz bk T S M Q,us=[[c,sz,bk,T,S,M,Q]]:=by
  obtain ⟨u,rfl,h1⟩:=cT (by kernel_rfl:Cs PR 29=some (true,[.int .i64,.int .i64,.str,.sl false [.sl true EC],.sl true SC,.sl true BC,.sl false [.int .i64]])) hok.1
  obtain ⟨c,sz,bk,T,S,M,Q,rfl⟩:=oc h1
  exact ⟨c,sz,bk,T,S,M,Q,rfl⟩
 subst hus
 refine .eq (Au _ _ _ _ _ _ _ _) ?_
 unfold yF
 simp only [bo,aZ]
 have eb:(ByteArray.toList bk.str == ByteArray.toList { data:=#[] })=(bk.str.data.toList == []):=by rw [ByteArray.toList_eq,ByteArray.toList_eq]
 rw [eb]
 refine bd (fun h=>dq fun h'=>by omega) (fun hc0=>bd (fun h=>dq fun h'=>by omega) (fun hc6=>⟨⟨by simpa using hc0,by simpa using hc6⟩,bi (fun h=>dq fun h'=>fls h h'.2.2.1) (fun hs=>?_)⟩))
 replace hc0:0≤c.int:=by omega
 replace hc6:c.int≤6:=by omega
 simp only [xi hc0 hc6,Int.toNat_zero,List.drop_zero,List.nil_append]
 refine bi (fun hb=>bi (fun hb2=>dq fun h'=>?_) (fun hb2=>?_)) (fun hb=>?_)
 ·have:=h'.2.2.2.1
  rw [jN,nt hb,nt hb2] at this;cases this
 all_goals
  have hbk:jN bk.str=true:=by
   rw [jN]
   first | rw [nf hb2,Bool.or_true] | rw [nf hb,Bool.true_or]
  refine df (by omega) (bi (fun h=>dq fun h'=>fls h h'.2.2.2.2.1) (fun ht=>?_))
  refine bd (fun h=>dq fun h'=>by omega) (fun h8=>bd (fun h=>dq fun h'=>by omega) (fun h9=>bd (fun h=>dq fun h'=>by omega) (fun h10=>?_)))
  refine ⟨⟨by trivial,by trivial,by trivial,by trivial,by trivial,by trivial,by trivial,by trivial,by trivial,by trivial,by trivial,by omega,by omega,by omega,hc0,hc6,by simp⟩,bi (fun h11=>?_) (fun h=>dq fun h'=>flf h h'.2.2.2.2.2.2.2.2.1)⟩
  refine ⟨⟨by trivial,by trivial,by trivial,by trivial,by trivial,by trivial,by trivial,by trivial,by trivial,by trivial,by trivial,by omega,by omega,by omega,by simp⟩,bi (fun h12=>?_) (fun h=>dq fun h'=>flf h h'.2.2.2.2.2.2.2.2.2.1)⟩
  refine ⟨⟨by trivial,by trivial,by trivial,by trivial,by trivial,by omega,by omega⟩,bi (fun h13=>?_) (fun h=>dq fun h'=>flf h h'.2.2.2.2.2.2.2.2.2.2.1)⟩
  refine bi (fun h14=>?_) (fun h=>dq fun h'=>flf h h'.2.2.2.2.2.2.2.2.2.2.2.1)
  refine ubi ?_
  rw [qH]
  exact ⟨fun h=>⟨hc0,hc6,nf hs,hbk,nf ht,by omega,by omega,by omega,h11,h12,h13,h14,h⟩,fun h=>h.2.2.2.2.2.2.2.2.2.2.2.2⟩
end Go.Mat

namespace Go.Mat
open Go Go.Den Go.Proofs
def eS (x:U):List U→Bool
 | []=>false
 | s :: r=>((e0 s).str.data.toList == x.str.data.toList) || eS x r
def dg (x:U):Int→List U→Int
 | _,[]=>-1
 | i,s :: r=>bif (e0 s).str.data.toList == x.str.data.toList then i else dg x (i + 1) r
def Cn:List (List U)→List (List U):=fun us=>[[.i (dg (nth (.i 0) (nth [] us 1) 0) 0 (nth (.i 0) (nth [] us 0) 4).list)]]
def tq:List (List U)→List (List U):=fun us=>[[.i (dg (nth (.i 0) (nth [] us 1) 0) 0 (nth (.i 0) (nth [] us 0) 0).list)]]
noncomputable def mR:aS:=fun _ svs os k=>match svs,os with
 | [.val (.int .i64) i,.ptr pp po,.val .str x],[.box [.val (.int .i64) c,.val (.int .i64) sz,.val .str bk,.val (.sl false [.sl true x1]) T,.val (.sl true x2) S,.val (.sl true x3) M,.val (.sl false [.int .i64]) Q]]=>
  (x1=EC∧x2=SC∧x3=BC∧pp=256∧po=0∧i = .i i.int∧0≤i.int∧i.int≤(S.list.length:Int))∧
  (bif eS x (S.list.drop i.int.toNat) then k .ret ⟨[(4,vi (.i (dg x i.int (S.list.drop i.int.toNat))))],[]⟩ else k (.exit 0) ⟨[(4,.unk)],[]⟩)
 | _,_=>False
noncomputable def zk:Ctx:=mkC PR bM aK aL (aw 0 [5,2,1] [256] mR aC) (an 0 [4] [] aq) aq
noncomputable def i7:aS:=fun _ svs _ k=>match svs with
 | [.val (.int .i64) i,.val (.sl true ec) L,.val .str x]=>
  (ec=BC∧i = .i i.int∧0≤i.int∧i.int≤(L.list.length:Int))∧
  (bif eS x (L.list.drop i.int.toNat) then k .ret ⟨[(4,vi (.i (dg x i.int (L.list.drop i.int.toNat))))],[]⟩ else k (.exit 0) ⟨[(4,.unk)],[]⟩)
 | _=>False
noncomputable def oX:Ctx:=mkC PR bM aK aL (aw 0 [5,0,1] [] i7 aC) (an 0 [4] [] aq) aq
theorem xO (pan:KP) (μ:Mu) (N:Nat) (k:KE) (i x c sz bk T S M Q:U) {a b} (_:a=(IntKind.wrap .i64 (i.int + (1:Int))):=by rfl) (_:b=(S.list.length:Int):=by rfl): (exec (zk.panics pan) (aa Tryz.f51 0) 0 ⟨[(5,vi i),(2,.ptr 256 0),(1,vs x)],[(256,.box [vi c,vi sz,vs bk,vl (.sl true EC) T,vt SC S,vt BC M,vl (.int .i64) Q])]⟩ (again PR (some ([4],[])) none pan [5,2,1] [256] mR μ N k))=(bif decide (i.int < b) then bif decide ((0:Int)≤i.int∧i.int < b) then bif ByteArray.toList (U.str (nth (U.i (0:Int)) (List.drop (0:Nat) (U.list (nth (U.i (0:Int)) S.list i.int.toNat))) 0)) == ByteArray.toList x.str then k Ex.ret (St.mk [(nat_lit 4,.val (.int IntKind.i64) i)] []) else bif Nat.blt (μ [.val (.int IntKind.i64) (U.i a),.ptr (nat_lit 256) (nat_lit 0),.val .str x] [.box [.val (.int IntKind.i64) c,.val (.int IntKind.i64) sz,.val .str bk,.val (.sl false [Ct.sl true [Ct.int IntKind.i64,Ct.int IntKind.i64,Ct.int IntKind.i64,Ct.int IntKind.i64,Ct.int IntKind.u32]]) T,SV.val (Ct.sl true [Ct.str,Ct.int IntKind.i64,Ct.sl false [Ct.sl true [Ct.int IntKind.i64,Ct.int IntKind.i64,Ct.int IntKind.i64,Ct.int IntKind.i64,Ct.int IntKind.u32]]]) S,SV.val (Ct.sl true [Ct.str,Ct.bool,Ct.sl true [Ct.int IntKind.i64,Ct.int IntKind.i64]]) M,SV.val (Ct.sl false [Ct.int IntKind.i64]) Q]]) N then ([Ct.int IntKind.i64,Ct.int IntKind.i64,Ct.int IntKind.i64,Ct.int IntKind.i64,Ct.int IntKind.u32]=[.int .i64,.int .i64,.int .i64,.int .i64,.int .u32]∧[Ct.str,Ct.int IntKind.i64,Ct.sl false [Ct.sl true [Ct.int IntKind.i64,Ct.int IntKind.i64,Ct.int IntKind.i64,Ct.int IntKind.i64,Ct.int IntKind.u32]]]=[.str,.int .i64,Ct.sl false [.sl true [.int .i64,.int .i64,.int .i64,.int .i64,.int .u32]]]∧[Ct.str,Ct.bool,Ct.sl true [Ct.int IntKind.i64,Ct.int IntKind.i64]]=[.str,Ct.bool,Ct.sl true [.int .i64,.int .i64]]∧256=256∧0=0∧U.i a=U.i a∧(0:Int)≤IntKind.wrap .i64 (i.int + (1:Int))∧IntKind.wrap .i64 (i.int + (1:Int))≤b)∧bif eS x (List.drop (Int.toNat a) S.list) then k Ex.ret (St.mk [(nat_lit 4,.val (.int IntKind.i64) (U.i (dg x a (List.drop (Int.toNat a) S.list))))] []) else k (Ex.exit (nat_lit 0)) (St.mk [(nat_lit 4,.unk)] []) else False else False else k (Ex.exit (nat_lit 0)) (St.mk [(nat_lit 4,.unk)] [])):=by subst_vars;kernel_rfl
theorem zV (R:RF) (c sz bk T S M Q x:U) {a} (_:a=(List.drop (Int.toNat (0:Int)) (U.list S)):=by rfl): (run zk Tryz.f51 [[c,sz,bk,T,S,M,Q],[x]] R)=(([Ct.int IntKind.i64,Ct.int IntKind.i64,Ct.int IntKind.i64,Ct.int IntKind.i64,Ct.int IntKind.u32]=[Ct.int IntKind.i64,Ct.int IntKind.i64,Ct.int IntKind.i64,Ct.int IntKind.i64,Ct.int IntKind.u32]∧[Ct.str,Ct.int IntKind.i64,Ct.sl false [Ct.sl true [Ct.int IntKind.i64,Ct.int IntKind.i64,Ct.int IntKind.i64,Ct.int IntKind.i64,Ct.int IntKind.u32]]]=[Ct.str,Ct.int IntKind.i64,Ct.sl false [Ct.sl true [Ct.int IntKind.i64,Ct.int IntKind.i64,Ct.int IntKind.i64,Ct.int IntKind.i64,Ct.int IntKind.u32]]]∧[Ct.str,Ct.bool,Ct.sl true [Ct.int IntKind.i64,Ct.int IntKind.i64]]=[Ct.str,Ct.bool,Ct.sl true [Ct.int IntKind.i64,Ct.int IntKind.i64]]∧nat_lit 256=nat_lit 256∧nat_lit 0=nat_lit 0∧U.i (0:Int)=U.i (0:Int)∧(0:Int)≤(0:Int)∧(0:Int)≤(↑(List.length (U.list S)):Int))∧bif eS x a then R [[U.i (dg x (0:Int) a)]] else R [[U.i (-1:Int)]]):=by subst_vars;kernel_rfl
theorem sg (pan:KP) (μ:Mu) (N:Nat) (k:KE) (i x L:U) {a b} (_:a=(IntKind.wrap .i64 (i.int + (1:Int))):=by rfl) (_:b=(L.list.length:Int):=by rfl): (exec (oX.panics pan) (aa Tryz.f52 0) 0 ⟨[(5,vi i),(0,vt BC L),(1,vs x)],[]⟩ (again PR (some ([4],[])) none pan [5,0,1] [] i7 μ N k))=(bif decide (i.int < b) then bif decide ((0:Int)≤i.int∧i.int < b) then bif ByteArray.toList (U.str (nth (U.i (0:Int)) (List.drop (0:Nat) (U.list (nth (U.i (0:Int)) L.list i.int.toNat))) 0)) == ByteArray.toList x.str then k Ex.ret (St.mk [(nat_lit 4,.val (.int IntKind.i64) i)] []) else bif Nat.blt (μ [.val (.int IntKind.i64) (U.i a),.val (.sl true [Ct.str,Ct.bool,Ct.sl true [Ct.int IntKind.i64,Ct.int IntKind.i64]]) L,SV.val Ct.str x] []) N then ([Ct.str,Ct.bool,Ct.sl true [Ct.int IntKind.i64,Ct.int IntKind.i64]]=[.str,Ct.bool,Ct.sl true [.int .i64,.int .i64]]∧U.i a=U.i a∧(0:Int)≤IntKind.wrap .i64 (i.int + (1:Int))∧IntKind.wrap .i64 (i.int + (1:Int))≤b)∧bif eS x (List.drop (Int.toNat a) L.list) then k Ex.ret (St.mk [(nat_lit 4,.val (.int IntKind.i64) (U.i (dg x a (List.drop (Int.toNat a) L.list))))] []) else k (Ex.exit (nat_lit 0)) (St.mk [(nat_lit 4,.unk)] []) else False else False else k (Ex.exit (nat_lit 0)) (St.mk [(nat_lit 4,.unk)] [])):=by subst_vars;kernel_rfl
theorem vU (R:RF) (L x:U):(run oX Tryz.f52 [[L],[x]] R)=(([Ct.str,Ct.bool,Ct.sl true [Ct.int IntKind.i64,Ct.int IntKind.i64]]=[Ct.str,Ct.bool,Ct.sl true [Ct.int IntKind.i64,Ct.int IntKind.i64]]∧U.i (0:Int)=U.i (0:Int)∧(0:Int)≤(0:Int)
 ∧ (0:Int)≤(↑(List.length (U.list L)):Int))∧bif eS x (List.drop (Int.toNat (0:Int)) (U.list L)) then R [[U.i (dg x (0:Int) (List.drop (Int.toNat (0:Int)) (U.list L)))]] else R [[U.i (-1
 : Int)]]):=by kernel_rfl
def ew (c:Int) (S:List U):Int→List U→Bool
 | _,[]=>true
 | i,s :: r=>fG (e0 s).str && (dg (e0 s) 0 S == i) && dW (e1 s).int c && b8 (e2 s).list ((e1 s).int / 2 ^ c.toNat) c && ew c S (i + 1) r
def fL (M:List U):Int→List U→Bool
 | _,[]=>true
 | i,b :: r=>fG (e0 b).str && (dg (e0 b) 0 M == i) && fS (-1) (e2 b).list && mD (e2 b).list && fL M (i + 1) r
def cq (c sz bk T S M Q:U):Bool:=
 decide (0≤c.int) && decide (c.int≤6) && dW sz.int c.int && jN bk.str && decide (S.list.length≤8) && decide (M.list.length≤8) && decide (Q.list.length≤65536) && b8 T.list (sz.int / 2 ^ c.int.toNat) c.int &&
 ew c.int S.list 0 S.list && fL M.list 0 M.list && cV Q.list
def xh:List (List U)→List (List U):=fun us=>[[.b (cq (nth (.i 0) (nth [] us 0) 0) (nth (.i 0) (nth [] us 0) 1) (nth (.i 0) (nth [] us 0) 2) (nth (.i 0) (nth [] us 0) 3) (nth (.i 0) (nth [] us 0) 4) (nth (.i 0) (nth [] us 0) 5) (nth (.i 0) (nth [] us 0) 6))]]
noncomputable def jc:aS:=fun _ svs os k=>match svs,os with
 | [.val (.int .i64) i,.ptr pp po],[.box [.val (.int .i64) c,.val (.int .i64) sz,.val .str bk,.val (.sl false [.sl true x1]) T,.val (.sl true x2) S,.val (.sl true x3) M,.val (.sl false [.int .i64]) Q]]=>
  (x1=EC∧x2=SC∧x3=BC∧pp=128∧po=0∧S.list.length≤8∧0≤i.int∧i.int≤(S.list.length:Int)∧0≤c.int∧c.int≤6)∧
  (bif ew c.int S.list i.int (S.list.drop i.int.toNat) then k (.exit 0) ⟨[(1,.ptr 128 0)],[(128,.box [vi c,vi sz,vs bk,vl (.sl true EC) T,vt SC S,vt BC M,vl (.int .i64) Q])]⟩ else k .ret qI)
 | _,_=>False
noncomputable def jC:aS:=fun _ svs os k=>match svs,os with
 | [.val (.int .i64) i,.ptr pp po],[.box [.val (.int .i64) c,.val (.int .i64) sz,.val .str bk,.val (.sl false [.sl true x1]) T,.val (.sl true x2) S,.val (.sl true x3) M,.val (.sl false [.int .i64]) Q]]=>
  (x1=EC∧x2=SC∧x3=BC∧pp=128∧po=0∧M.list.length≤8∧0≤i.int∧i.int≤(M.list.length:Int))∧
  (bif fL M.list i.int (M.list.drop i.int.toNat) then k (.exit 2) ⟨[(1,.ptr 128 0)],[(128,.box [vi c,vi sz,vs bk,vl (.sl true EC) T,vt SC S,vt BC M,vl (.int .i64) Q])]⟩ else k .ret qI)
 | _,_=>False
noncomputable def je:aS:=fun _ svs os k=>match svs,os with
 | [.val (.int .i64) i,.ptr pp po],[.box [.val (.int .i64) c,.val (.int .i64) sz,.val .str bk,.val (.sl false [.sl true x1]) T,.val (.sl true x2) S,.val (.sl true x3) M,.val (.sl false [.int .i64]) Q]]=>
  (x1=EC∧x2=SC∧x3=BC∧pp=128∧po=0∧Q.list.length≤65536∧0≤i.int∧i.int≤(Q.list.length:Int))∧
  (bif cV (Q.list.drop i.int.toNat) then k (.exit 4) ⟨[(2,.unk)],[]⟩ else k .ret qI)
 | _,_=>False
noncomputable def kx:Ctx:=mkC PR bM (aV 48 nE rq (aH 49 qi (aH 50 oI (aH 53 nr (aH 51 Cn (aH 52 tq aK)))))) aL
 (aw 4 [7,1] [128] je (aw 2 [5,1] [128] jC (aw 0 [3,1] [128] jc aC)))
 (an 4 [2] [] (an 2 [1] [128] (an 0 [1] [128] (an 1048578 [2] [] (an 1048576 [2] [] aq))))) aq
theorem s7 (pan:KP) (μ:Mu) (N:Nat) (k:KE) (i c sz bk T S M Q:U) {a d e f g h} (_:a=(St.mk [(nat_lit 1,.ptr (nat_lit 128) (nat_lit 0))] [(nat_lit 128,.box [.val (.int IntKind.i64) c,.val (.int IntKind.i64) sz,.val .str bk,.val (.sl false [.sl true [.int .i64,.int .i64,.int .i64,.int .i64,.int .u32]]) T,.val (.sl true [.str,.int .i64,Ct.sl false [.sl true [.int .i64,.int .i64,.int .i64,.int .i64,.int .u32]]]) S,.val (.sl true [.str,Ct.bool,Ct.sl true [.int .i64,.int .i64]]) M,.val (.sl false [.int .i64]) Q])]):=by rfl) (_:d=(U.list (nth (U.i (0:Int)) S.list i.int.toNat)):=by rfl) (_:e=(St.mk [(nat_lit 2,.val .bool (U.b false))] []):=by rfl) (_:f=(IntKind.wrap .i64 (i.int + (1:Int))):=by rfl) (_:g=(U.int (nth (U.i (0:Int)) (List.tail d) 0)):=by rfl) (_:h=(S.list.length:Int):=by rfl): (exec (kx.panics pan) (aa Tryz.f25 0) 0 ⟨[(3,vi i),(1,.ptr 128 0)],[(128,.box [vi c,vi sz,vs bk,vl (.sl true EC) T,vt SC S,vt BC M,vl (.int .i64) Q])]⟩ (again PR (some ([1],[128])) (some ([2],[])) pan [3,1] [128] jc μ N k))=(bif decide (i.int < h) then bif decide ((0:Int)≤i.int∧i.int < h) then bif !fG (U.str (nth (U.i (0:Int)) d 0)) then k Ex.ret e else bif dg (nth (U.i (0:Int)) d 0) (0:Int) S.list != i.int then k Ex.ret e else nE [[nth (U.i (0:Int)) (List.tail d) 0],[c]]∧bif !dW g c.int then k Ex.ret e else bif decide (IntKind.wrap .u64 c.int < (0:Int)) then False else bif !b8 (U.list (nth (U.i (0:Int)) (List.tail (List.tail d)) 0)) (Int.fdiv g ((2:Int) ^ min (Int.toNat (IntKind.wrap .u64 c.int)) (IntKind.bits IntKind.i64))) c.int then k Ex.ret e else bif Nat.blt (μ [.val (.int IntKind.i64) (U.i f),.ptr (nat_lit 128) (nat_lit 0)] [.box [.val (.int IntKind.i64) c,.val (.int IntKind.i64) sz,.val .str bk,.val (.sl false [Ct.sl true [Ct.int IntKind.i64,Ct.int IntKind.i64,Ct.int IntKind.i64,Ct.int IntKind.i64,Ct.int IntKind.u32]]) T,SV.val (Ct.sl true [Ct.str,Ct.int IntKind.i64,Ct.sl false [Ct.sl true [Ct.int IntKind.i64,Ct.int IntKind.i64,Ct.int IntKind.i64,Ct.int IntKind.i64,Ct.int IntKind.u32]]]) S,SV.val (Ct.sl true [Ct.str,Ct.bool,Ct.sl true [Ct.int IntKind.i64,Ct.int IntKind.i64]]) M,SV.val (Ct.sl false [Ct.int IntKind.i64]) Q]]) N then ([Ct.int IntKind.i64,Ct.int IntKind.i64,Ct.int IntKind.i64,Ct.int IntKind.i64,Ct.int IntKind.u32]=[.int .i64,.int .i64,.int .i64,.int .i64,.int .u32]∧[Ct.str,Ct.int IntKind.i64,Ct.sl false [Ct.sl true [Ct.int IntKind.i64,Ct.int IntKind.i64,Ct.int IntKind.i64,Ct.int IntKind.i64,Ct.int IntKind.u32]]]=[.str,.int .i64,Ct.sl false [.sl true [.int .i64,.int .i64,.int .i64,.int .i64,.int .u32]]]∧[Ct.str,Ct.bool,Ct.sl true [Ct.int IntKind.i64,Ct.int IntKind.i64]]=[.str,Ct.bool,Ct.sl true [.int .i64,.int .i64]]∧128=128∧0=0∧S.list.length≤(8:Nat)∧(0:Int)≤IntKind.wrap .i64 (i.int + (1:Int))∧IntKind.wrap .i64 (i.int + (1:Int))≤h∧(0:Int)≤c.int∧c.int≤(6:Int))∧bif ew c.int S.list f (List.drop (Int.toNat f) S.list) then k (Ex.exit (nat_lit 0)) a else k Ex.ret e else False else False else k (Ex.exit (nat_lit 0)) a):=by subst_vars;kernel_rfl
theorem wO (pan:KP) (μ:Mu) (N:Nat) (k:KE) (i c sz bk T S M Q:U) {r a l d o e f g h j m n p q} (_:r=(M.list.length:Int):=by rfl) (_:a=([Ct.int IntKind.i64,Ct.int IntKind.i64,Ct.int IntKind.i64,Ct.int IntKind.i64,Ct.int IntKind.u32]=[.int .i64,.int .i64,.int .i64,.int .i64,.int .u32]∧[Ct.str,Ct.int IntKind.i64,Ct.sl false [Ct.sl true [Ct.int IntKind.i64,Ct.int IntKind.i64,Ct.int IntKind.i64,Ct.int IntKind.i64,Ct.int IntKind.u32]]]=[.str,.int .i64,Ct.sl false [.sl true [.int .i64,.int .i64,.int .i64,.int .i64,.int .u32]]]∧[Ct.str,Ct.bool,Ct.sl true [Ct.int IntKind.i64,Ct.int IntKind.i64]]=[.str,Ct.bool,Ct.sl true [.int .i64,.int .i64]]∧128=128∧0=0∧M.list.length≤(8:Nat)∧(0:Int)≤IntKind.wrap .i64 (i.int + (1:Int))∧IntKind.wrap .i64 (i.int + (1:Int))≤r):=by rfl) (_:l=(U.list (nth (U.i (0:Int)) M.list i.int.toNat)):=by rfl) (_:d=(U.list (nth (U.i (0:Int)) (List.tail (List.tail l)) 0)):=by rfl) (_:o=(nat_lit 1,.ptr (nat_lit 128) (nat_lit 0)):=by rfl) (_:e=(St.mk [o] [(nat_lit 128,.box [.val (.int IntKind.i64) c,.val (.int IntKind.i64) sz,.val .str bk,.val (.sl false [.sl true [.int .i64,.int .i64,.int .i64,.int .i64,.int .u32]]) T,.val (.sl true [.str,.int .i64,Ct.sl false [.sl true [.int .i64,.int .i64,.int .i64,.int .i64,.int .u32]]]) S,.val (.sl true [.str,Ct.bool,Ct.sl true [.int .i64,.int .i64]]) M,.val (.sl false [.int .i64]) Q])]):=by rfl) (_:f=(Ct.sl true [Ct.str,Ct.int IntKind.i64,Ct.sl false [Ct.sl true [Ct.int IntKind.i64,Ct.int IntKind.i64,Ct.int IntKind.i64,Ct.int IntKind.i64,Ct.int IntKind.u32]]]):=by rfl) (_:g=(St.mk [(nat_lit 2,.val .bool (U.b false))] []):=by rfl) (_:h=(IntKind.wrap .i64 (i.int + (1:Int))):=by rfl) (_:j=(Ct.sl true [Ct.str,Ct.bool,Ct.sl true [Ct.int IntKind.i64,Ct.int IntKind.i64]]):=by rfl) (_:m=((↑(List.length d):Int) - (1:Int)):=by rfl) (_:n=(Ct.sl false [Ct.int IntKind.i64]):=by rfl) (_:p=(Ex.exit (nat_lit 2)):=by rfl) (_:q=(Ct.int IntKind.i64):=by rfl): (exec (kx.panics pan) (aa Tryz.f25 1) 2 ⟨[(5,vi i),(1,.ptr 128 0)],[(128,.box [vi c,vi sz,vs bk,vl (.sl true EC) T,vt SC S,vt BC M,vl (.int .i64) Q])]⟩ (again PR (some ([1],[128])) (some ([2],[])) pan [5,1] [128] jC μ N k))=(bif decide (i.int < r) then bif decide ((0:Int)≤i.int∧i.int < r) then bif !fG (U.str (nth (U.i (0:Int)) l 0)) then k Ex.ret g else bif dg (nth (U.i (0:Int)) l 0) (0:Int) M.list != i.int then k Ex.ret g else bif !fS (-1:Int) d then k Ex.ret g else bif decide ((↑(List.length d):Int) > (0:Int)) then bif decide ((0:Int)≤IntKind.wrap .i64 m∧IntKind.wrap .i64 m < (↑(List.length d):Int)) then bif decide (U.int (nth (U.i (0:Int)) (List.drop (1:Nat) (U.list (nth (U.i (0:Int)) d (Int.toNat (IntKind.wrap .i64 m))))) 0) > (4096:Int)) then k Ex.ret g else bif Nat.blt (μ [.val (.int IntKind.i64) (U.i h),.ptr (nat_lit 128) (nat_lit 0)] [.box [.val (.int IntKind.i64) c,.val (.int IntKind.i64) sz,.val .str bk,.val (.sl false [Ct.sl true [Ct.int IntKind.i64,Ct.int IntKind.i64,Ct.int IntKind.i64,Ct.int IntKind.i64,Ct.int IntKind.u32]]) T,SV.val f S,SV.val j M,SV.val n Q]]) N then a∧bif fL M.list h (List.drop (Int.toNat h) M.list) then k p (St.mk [o] [(nat_lit 128,.box [.val (.int IntKind.i64) c,.val (.int IntKind.i64) sz,.val .str bk,.val (.sl false [Ct.sl true [Ct.int IntKind.i64,Ct.int IntKind.i64,Ct.int IntKind.i64,Ct.int IntKind.i64,Ct.int IntKind.u32]]) T,SV.val f S,SV.val j M,SV.val n Q])]) else k Ex.ret (St.mk [(nat_lit 2,SV.val Ct.bool (U.b false))] []) else False else False else bif Nat.blt (μ [SV.val q (U.i h),SV.ptr (nat_lit 128) (nat_lit 0)] [Obj.box [SV.val q c,SV.val q sz,SV.val Ct.str bk,SV.val (Ct.sl false [Ct.sl true [Ct.int IntKind.i64,Ct.int IntKind.i64,Ct.int IntKind.i64,Ct.int IntKind.i64,Ct.int IntKind.u32]]) T,SV.val f S,SV.val j M,SV.val n Q]]) N then a∧bif fL M.list h (List.drop (Int.toNat h) M.list) then k p e else k Ex.ret g else False else False else k p e):=by subst_vars;kernel_rfl
theorem qC (pan:KP) (μ:Mu) (N:Nat) (k:KE) (i c sz bk T S M Q:U) {a d e f} (_:a=(St.mk [(nat_lit 2,.val .bool (U.b false))] []):=by rfl) (_:d=(Q.list.length:Int):=by rfl) (_:e=(i.int + (1:Int)):=by rfl) (_:f=(nth (U.i (0:Int)) Q.list i.int.toNat):=by rfl): (exec (kx.panics pan) (aa Tryz.f25 2) 4 ⟨[(7,vi i),(1,.ptr 128 0)],[(128,.box [vi c,vi sz,vs bk,vl (.sl true EC) T,vt SC S,vt BC M,vl (.int .i64) Q])]⟩ (again PR (some ([2],[])) none pan [7,1] [128] je μ N k))=(bif decide (i.int < d) then bif decide ((0:Int)≤i.int∧i.int < d) then bif decide (U.int f < (0:Int)) then k Ex.ret a else bif decide ((0:Int)≤i.int∧i.int < d) then bif decide (U.int f > (65535:Int)) then k Ex.ret a else bif Nat.blt (μ [.val (.int IntKind.i64) (U.i (IntKind.wrap .i64 e)),.ptr (nat_lit 128) (nat_lit 0)] [.box [.val (.int IntKind.i64) c,.val (.int IntKind.i64) sz,.val .str bk,.val (.sl false [Ct.sl true [Ct.int IntKind.i64,Ct.int IntKind.i64,Ct.int IntKind.i64,Ct.int IntKind.i64,Ct.int IntKind.u32]]) T,SV.val (Ct.sl true [Ct.str,Ct.int IntKind.i64,Ct.sl false [Ct.sl true [Ct.int IntKind.i64,Ct.int IntKind.i64,Ct.int IntKind.i64,Ct.int IntKind.i64,Ct.int IntKind.u32]]]) S,SV.val (Ct.sl true [Ct.str,Ct.bool,Ct.sl true [Ct.int IntKind.i64,Ct.int IntKind.i64]]) M,SV.val (Ct.sl false [Ct.int IntKind.i64]) Q]]) N then ([Ct.int IntKind.i64,Ct.int IntKind.i64,Ct.int IntKind.i64,Ct.int IntKind.i64,Ct.int IntKind.u32]=[.int .i64,.int .i64,.int .i64,.int .i64,.int .u32]∧[Ct.str,Ct.int IntKind.i64,Ct.sl false [Ct.sl true [Ct.int IntKind.i64,Ct.int IntKind.i64,Ct.int IntKind.i64,Ct.int IntKind.i64,Ct.int IntKind.u32]]]=[.str,.int .i64,Ct.sl false [.sl true [.int .i64,.int .i64,.int .i64,.int .i64,.int .u32]]]∧[Ct.str,Ct.bool,Ct.sl true [Ct.int IntKind.i64,Ct.int IntKind.i64]]=[.str,Ct.bool,Ct.sl true [.int .i64,.int .i64]]∧128=128∧0=0∧Q.list.length≤(65536:Nat)∧(0:Int)≤IntKind.wrap .i64 e∧IntKind.wrap .i64 e≤d)∧bif cV (List.drop (Int.toNat (IntKind.wrap .i64 e)) Q.list) then k (Ex.exit (nat_lit 4)) (St.mk [(nat_lit 2,.unk)] []) else k Ex.ret a else False else False else False else k (Ex.exit (nat_lit 4)) (St.mk [(nat_lit 2,.unk)] [])):=by subst_vars;kernel_rfl
theorem yj (R:RF) (c sz bk T S M Q:U) {h a j d i e f g} (_:h=(S.list.length:Int):=by rfl) (_:a=([Ct.int IntKind.i64,Ct.int IntKind.i64,Ct.int IntKind.i64,Ct.int IntKind.i64,Ct.int IntKind.u32]=[.int .i64,.int .i64,.int .i64,.int .i64,.int .u32]∧[Ct.str,Ct.int IntKind.i64,Ct.sl false [Ct.sl true [Ct.int IntKind.i64,Ct.int IntKind.i64,Ct.int IntKind.i64,Ct.int IntKind.i64,Ct.int IntKind.u32]]]=[.str,.int .i64,Ct.sl false [.sl true [.int .i64,.int .i64,.int .i64,.int .i64,.int .u32]]]∧[Ct.str,Ct.bool,Ct.sl true [Ct.int IntKind.i64,Ct.int IntKind.i64]]=[.str,Ct.bool,Ct.sl true [.int .i64,.int .i64]]∧128=128∧0=0∧S.list.length≤(8:Nat)∧(0:Int)≤(0:Int)∧(0:Int)≤h∧(0:Int)≤c.int∧c.int≤(6:Int)):=by rfl) (_:j=(Q.list.length:Int):=by rfl) (_:d=([Ct.int IntKind.i64,Ct.int IntKind.i64,Ct.int IntKind.i64,Ct.int IntKind.i64,Ct.int IntKind.u32]=[.int .i64,.int .i64,.int .i64,.int .i64,.int .u32]∧[Ct.str,Ct.int IntKind.i64,Ct.sl false [Ct.sl true [Ct.int IntKind.i64,Ct.int IntKind.i64,Ct.int IntKind.i64,Ct.int IntKind.i64,Ct.int IntKind.u32]]]=[.str,.int .i64,Ct.sl false [.sl true [.int .i64,.int .i64,.int .i64,.int .i64,.int .u32]]]∧[Ct.str,Ct.bool,Ct.sl true [Ct.int IntKind.i64,Ct.int IntKind.i64]]=[.str,Ct.bool,Ct.sl true [.int .i64,.int .i64]]∧128=128∧0=0∧Q.list.length≤(65536:Nat)∧(0:Int)≤(0:Int)∧(0:Int)≤j):=by rfl) (_:i=(M.list.length:Int):=by rfl) (_:e=([Ct.int IntKind.i64,Ct.int IntKind.i64,Ct.int IntKind.i64,Ct.int IntKind.i64,Ct.int IntKind.u32]=[.int .i64,.int .i64,.int .i64,.int .i64,.int .u32]∧[Ct.str,Ct.int IntKind.i64,Ct.sl false [Ct.sl true [Ct.int IntKind.i64,Ct.int IntKind.i64,Ct.int IntKind.i64,Ct.int IntKind.i64,Ct.int IntKind.u32]]]=[.str,.int .i64,Ct.sl false [.sl true [.int .i64,.int .i64,.int .i64,.int .i64,.int .u32]]]∧[Ct.str,Ct.bool,Ct.sl true [Ct.int IntKind.i64,Ct.int IntKind.i64]]=[.str,Ct.bool,Ct.sl true [.int .i64,.int .i64]]∧128=128∧0=0∧M.list.length≤(8:Nat)∧(0:Int)≤(0:Int)∧(0:Int)≤i):=by rfl) (_:f=(Int.fdiv sz.int ((2:Int) ^ min (Int.toNat (IntKind.wrap .u64 c.int)) (IntKind.bits IntKind.i64))):=by rfl) (_:g=(Int.toNat (0:Int)):=by rfl): (run kx Tryz.f25 [[c,sz,bk,T,S,M,Q]] R)=(bif decide (c.int < (0:Int)) then R [[U.b false]] else bif decide (c.int > (6:Int)) then R [[U.b false]] else nE [[sz],[c]]∧bif !dW sz.int c.int then R [[U.b false]] else bif !ByteArray.toList bk.str == ByteArray.toList (ByteArray.mk #[]) then bif !fG bk.str then R [[U.b false]] else bif decide (h > (8:Int)) then R [[U.b false]] else bif decide (i > (8:Int)) then R [[U.b false]] else bif decide (j > (65536:Int)) then R [[U.b false]] else bif decide (IntKind.wrap .u64 c.int < (0:Int)) then False else bif !b8 T.list f c.int then R [[U.b false]] else a∧bif ew c.int S.list (0:Int) (List.drop g S.list) then e∧bif fL M.list (0:Int) (List.drop g M.list) then d∧bif cV (List.drop g Q.list) then R [[U.b true]] else R [[U.b false]] else R [[U.b false]] else R [[U.b false]] else bif decide (h > (8:Int)) then R [[U.b false]] else bif decide (i > (8:Int)) then R [[U.b false]] else bif decide (j > (65536:Int)) then R [[U.b false]] else bif decide (IntKind.wrap .u64 c.int < (0:Int)) then False else bif !b8 T.list f c.int then R [[U.b false]] else a∧bif ew c.int S.list (0:Int) (List.drop g S.list) then e∧bif fL M.list (0:Int) (List.drop g M.list) then d∧bif cV (List.drop g Q.list) then R [[U.b true]] else R [[U.b false]] else R [[U.b false]] else R [[U.b false]]):=by subst_vars;kernel_rfl
end Go.Mat

namespace Go.Mat
open Go Go.Den Go.Proofs
theorem nq {x:U}:∀ {L:List U} {i:Int},eS x L=false→dg x i L = -1
 | [],_,_=>rfl
 | s :: r,i,h=>by
  rw [eS,Bool.or_eq_false_iff] at h
  rw [dg,h.1]
  exact nq h.2
theorem Ao:aE zk 0 (aa Tryz.f51 0):=by
 refine al (F:=mR) (ts:=[5,2,1]) (os:=[256]) rfl (fun svs os=>match svs,os with | .val _ i :: _,[.box (_ :: _ :: _ :: _ :: .val _ S :: _)]=>((S.list.length:Int) - i.int).toNat | _,_=>0) ?_
 intro pan svs os k ho1 ho2 h
 unfold mR at h
 split at h
 ·rename_i i pp po x c sz bk x1 T x2 S x3 M Q
  obtain ⟨⟨rfl,rfl,rfl,rfl,rfl,hs,h0,hi⟩,hk⟩:=h
  have hS:S.list.length≤maxLen:=ho2.1.2.2.2.2.1.1
  refine .eq (xO pan _ _ k i x c sz bk T S M Q) ?_
  refine bd (fun hlt=>dt ⟨h0,by omega⟩ ?_) (fun hlt=>?_)
  ·rw [aN (by omega),eS,dg] at hk
   have hw:IntKind.wrap .i64 (i.int + 1)=i.int + 1:=i64_in (by omega) (by unfold maxLen at hS;omega)
   have hc:(i.int + 1).toNat=i.int.toNat + 1:=by omega
   have hlt':((S.list.length:Int) - (i.int + 1)).toNat < ((S.list.length:Int) - i.int).toNat:=by omega
   simp only [U.at,e0] at hk
   simp only [aD,bW,Nat.zero_add,Nat.add_zero,hw,hc,ByteArray.toList_eq]
   refine bi (fun h1=>?_) (fun h1=>?_)
   ·rw [h1] at hk
    simp only [Bool.true_or,cond_true,← hs] at hk
    exact hk
   ·rw [h1] at hk
    exact blt hlt' ⟨⟨by trivial,by trivial,by trivial,by trivial,by trivial,by trivial,by omega,by omega⟩,hk⟩
  ·rw [List.drop_of_length_le (by omega)] at hk
   exact hk
 ·exact h.elim
theorem vT:aE oX 0 (aa Tryz.f52 0):=by
 refine al (F:=i7) (ts:=[5,0,1]) (os:=[]) rfl (fun svs _=>match svs with | .val _ i :: .val _ S :: _=>((S.list.length:Int) - i.int).toNat | _=>0) ?_
 intro pan svs os k ho1 ho2 h
 unfold i7 at h
 split at h
 ·rename_i i ec L x
  obtain ⟨⟨rfl,hs,h0,hi⟩,hk⟩:=h
  have hS:L.list.length≤maxLen:=ho1.2.1.1
  refine .eq (sg pan _ _ k i x L) ?_
  refine bd (fun hlt=>dt ⟨h0,by omega⟩ ?_) (fun hlt=>?_)
  ·rw [aN (by omega),eS,dg] at hk
   have hw:IntKind.wrap .i64 (i.int + 1)=i.int + 1:=i64_in (by omega) (by unfold maxLen at hS;omega)
   have hc:(i.int + 1).toNat=i.int.toNat + 1:=by omega
   have hlt':((L.list.length:Int) - (i.int + 1)).toNat < ((L.list.length:Int) - i.int).toNat:=by omega
   simp only [U.at,e0] at hk
   simp only [aD,bW,Nat.zero_add,Nat.add_zero,hw,hc,ByteArray.toList_eq]
   refine bi (fun h1=>?_) (fun h1=>?_)
   ·rw [h1] at hk
    simp only [Bool.true_or,cond_true,← hs] at hk
    exact hk
   ·rw [h1] at hk
    exact blt hlt' ⟨⟨by trivial,by trivial,by omega,by omega⟩,hk⟩
  ·rw [List.drop_of_length_le (by omega)] at hk
   exact hk
 ·exact h.elim
theorem Gw:bB PR 51 Cn:=fun fn us hfn=>by
 have hf:PR.funcs[(51:Nat)]? = some Tryz.f51:=by kernel_rfl
 rw [hf] at hfn;cases hfn
 refine aM (C:=zk) (aB ao af .nil .nil) hf (by kernel_rfl) (aW (by kernel_rfl) Ao) fun hok=>?_
 have hp:Tryz.f51.params.toList=[29,9]:=by kernel_rfl
 rw [hp] at hok
 obtain ⟨c,sz,bk,T,S,M,Q,x,hus⟩:∃ c sz bk T S M Q x,us=[[c,sz,bk,T,S,M,Q],[x]]:=by
  obtain ⟨u,u2,rfl,h1,h2⟩:=bR (by kernel_rfl:Cs PR 29=some (true,[.int .i64,.int .i64,.str,.sl false [.sl true EC],.sl true SC,.sl true BC,.sl false [.int .i64]])) (by kernel_rfl:Cs PR 9=some (false,[.str])) hok.1
  obtain ⟨c,sz,bk,T,S,M,Q,rfl⟩:=oc h1
  obtain ⟨x,rfl⟩:=bG h2
  exact ⟨c,sz,bk,T,S,M,Q,x,rfl⟩
 subst hus
 refine .eq (zV _ _ _ _ _ _ _ _ _) ?_
 unfold Cn
 simp only [bo,aZ]
 simp only [Int.toNat_zero,List.drop_zero]
 refine ⟨⟨by trivial,by trivial,by trivial,by trivial,by trivial,by trivial,by omega,by omega⟩,bi (fun _=>?_) (fun h=>?_)⟩
 ·trivial
 ·rw [nq h]
theorem Bx:bB PR 52 tq:=fun fn us hfn=>by
 have hf:PR.funcs[(52:Nat)]? = some Tryz.f52:=by kernel_rfl
 rw [hf] at hfn;cases hfn
 refine aM (C:=oX) (aB ao af .nil .nil) hf (by kernel_rfl) (aW (by kernel_rfl) vT) fun hok=>?_
 have hp:Tryz.f52.params.toList=[26,9]:=by kernel_rfl
 rw [hp] at hok
 obtain ⟨L,x,hus⟩:∃ L x,us=[[L],[x]]:=by
  obtain ⟨u,u2,rfl,h1,h2⟩:=bR (by kernel_rfl:Cs PR 26=some (false,[.sl true BC])) (by kernel_rfl:Cs PR 9=some (false,[.str])) hok.1
  obtain ⟨L,rfl⟩:=bG h1
  obtain ⟨x,rfl⟩:=bG h2
  exact ⟨L,x,rfl⟩
 subst hus
 refine .eq (vU _ _ _) ?_
 unfold tq
 simp only [bo,aZ]
 simp only [Int.toNat_zero,List.drop_zero]
 refine ⟨⟨by trivial,by trivial,by omega,by omega⟩,bi (fun _=>?_) (fun h=>?_)⟩
 ·trivial
 ·rw [nq h]
theorem yL {n c:Int} (h:0≤c) (h':c≤6):Int.fdiv n (2 ^ min (IntKind.wrap .u64 c).toNat (IntKind.bits .i64))=n / 2 ^ c.toNat:=by
 rw [u64_in h (by omega),xi h h']
theorem bnf {a b:Int} (h:(a != b)=true):(a == b)=false:=nt h
theorem bnt {a b:Int} (h:(a != b)=false):(a == b)=true:=nf h
theorem vW:aE kx 0 (aa Tryz.f25 0):=by
 refine al (F:=jc) (ts:=[3,1]) (os:=[128]) rfl (fun svs os=>match svs,os with | .val _ i :: _,[.box (_ :: _ :: _ :: _ :: .val _ S :: _)]=>((S.list.length:Int) - i.int).toNat | _,_=>0) ?_
 intro pan svs os k ho1 ho2 h
 unfold jc at h
 split at h
 ·rename_i i pp po c sz bk x1 T x2 S x3 M Q
  obtain ⟨⟨rfl,rfl,rfl,rfl,rfl,hS,h0,hi,hc0,hc6⟩,hk⟩:=h
  refine .eq (s7 pan _ _ k i c sz bk T S M Q) ?_
  refine bd (fun hlt=>dt ⟨h0,by omega⟩ ?_) (fun hlt=>?_)
  ·rw [aN (by omega),ew] at hk
   simp only [U.at,e0,e1,e2] at hk
   have hw:IntKind.wrap .i64 (i.int + 1)=i.int + 1:=i64_in (by omega) (by omega)
   have hc:(i.int + 1).toNat=i.int.toNat + 1:=by omega
   have hlt':((S.list.length:Int) - (i.int + 1)).toNat < ((S.list.length:Int) - i.int).toNat:=by omega
   simp only [aD,Nat.zero_add,Nat.reduceAdd,hw,hc,yL hc0 hc6]
   generalize nth (U.i 0) S.list i.int.toNat=s at hk ⊢
   refine bi (fun h1=>?_) (fun h1=>bi (fun h2=>?_) (fun h2=>⟨⟨by simpa using hc0,by simpa using hc6⟩,bi (fun h3=>?_) (fun h3=>df (by rw [u64_in hc0 (by omega)];omega) (bi (fun h4=>?_) (fun h4=>?_)))⟩))
   ·rw [nt h1] at hk;exact hk
   ·rw [nf h1,bnf h2] at hk;exact hk
   ·rw [nf h1,bnt h2,nt h3] at hk;exact hk
   ·rw [nf h1,bnt h2,nf h3,nt h4] at hk;exact hk
   ·rw [nf h1,bnt h2,nf h3,nf h4] at hk
    exact blt hlt' ⟨⟨by trivial,by trivial,by trivial,by trivial,by trivial,hS,by omega,by omega,hc0,hc6⟩,hk⟩
  ·rw [List.drop_of_length_le (by omega)] at hk
   exact hk
 ·exact h.elim
theorem xH:aE kx 2 (aa Tryz.f25 1):=by
 refine al (F:=jC) (ts:=[5,1]) (os:=[128]) rfl (fun svs os=>match svs,os with | .val _ i :: _,[.box (_ :: _ :: _ :: _ :: _ :: .val _ M :: _)]=>((M.list.length:Int) - i.int).toNat | _,_=>0) ?_
 intro pan svs os k ho1 ho2 h
 unfold jC at h
 split at h
 ·rename_i i pp po c sz bk x1 T x2 S x3 M Q
  obtain ⟨⟨rfl,rfl,rfl,rfl,rfl,hM,h0,hi⟩,hk⟩:=h
  have hlen:∀ j,j < M.list.length→(nth (.i 0) (nth (.i 0) M.list j).list 2).list.length≤maxLen:=fun j hj=>by
   have h2:=(ho2.1.2.2.2.2.2.1.2 j hj).2.2.1.1
   simpa [U.at,dF] using h2
  refine .eq (wO pan _ _ k i c sz bk T S M Q) ?_
  refine bd (fun hlt=>dt ⟨h0,by omega⟩ ?_) (fun hlt=>?_)
  ·have hl:=hlen i.int.toNat (by omega)
   rw [aN (by omega),fL] at hk
   simp only [U.at,e0,e1,e2] at hk
   have hw:IntKind.wrap .i64 (i.int + 1)=i.int + 1:=i64_in (by omega) (by omega)
   have hc:(i.int + 1).toNat=i.int.toNat + 1:=by omega
   have hlt':((M.list.length:Int) - (i.int + 1)).toNat < ((M.list.length:Int) - i.int).toNat:=by omega
   simp only [aD,bW,Nat.zero_add,Nat.add_zero,Nat.reduceAdd,hw,hc]
   generalize nth (U.i 0) M.list i.int.toNat=s at hk hl ⊢
   generalize (nth (U.i 0) s.list 2).list=l at hk hl ⊢
   have hw1:0 < l.length→IntKind.wrap .i64 ((l.length:Int) - 1)=(l.length:Int) - 1:=fun h=>i64_in (by omega) (by unfold maxLen at hl;omega)
   refine bi (fun h1=>?_) (fun h1=>bi (fun h2=>?_) (fun h2=>bi (fun h3=>?_) (fun h3=>bd (fun h4=>?_) (fun h4=>?_))))
   ·rw [nt h1] at hk;exact hk
   ·rw [nf h1,bnf h2] at hk;exact hk
   ·rw [nf h1,bnt h2,nt h3] at hk;exact hk
   ·rw [hw1 (by omega)]
    have hj:((l.length:Int) - 1).toNat=l.length - 1:=by omega
    refine dt (by omega) (bd (fun h5=>?_) (fun h5=>?_))
    ·rw [hj] at h5
     rw [nf h1,bnt h2,nf h3,mD,decide_eq_true (show 0 < l.length by omega)] at hk
     simp only [U.at,e1] at hk
     rw [decide_eq_false (by omega)] at hk
     exact hk
    ·rw [hj] at h5
     rw [nf h1,bnt h2,nf h3,mD,decide_eq_true (show 0 < l.length by omega)] at hk
     simp only [U.at,e1] at hk
     rw [decide_eq_true (by omega)] at hk
     exact blt hlt' ⟨⟨by trivial,by trivial,by trivial,by trivial,by trivial,hM,by omega,by omega⟩,hk⟩
   ·rw [nf h1,bnt h2,nf h3,mD,decide_eq_false (show ¬ 0 < l.length by omega)] at hk
    exact blt hlt' ⟨⟨by trivial,by trivial,by trivial,by trivial,by trivial,hM,by omega,by omega⟩,hk⟩
  ·rw [List.drop_of_length_le (by omega)] at hk
   exact hk
 ·exact h.elim
theorem se:aE kx 4 (aa Tryz.f25 2):=by
 refine al (F:=je) (ts:=[7,1]) (os:=[128]) rfl (fun svs os=>match svs,os with | .val _ i :: _,[.box (_ :: _ :: _ :: _ :: _ :: _ :: .val _ Q :: _)]=>((Q.list.length:Int) - i.int).toNat | _,_=>0) ?_
 intro pan svs os k ho1 ho2 h
 unfold je at h
 split at h
 ·rename_i i pp po c sz bk x1 T x2 S x3 M Q
  obtain ⟨⟨rfl,rfl,rfl,rfl,rfl,hQ,h0,hi⟩,hk⟩:=h
  refine .eq (qC pan _ _ k i c sz bk T S M Q) ?_
  refine bd (fun hlt=>dt ⟨h0,by omega⟩ ?_) (fun hlt=>?_)
  ·rw [aN (by omega),cV] at hk
   simp only [U.at] at hk
   have hw:IntKind.wrap .i64 (i.int + 1)=i.int + 1:=i64_in (by omega) (by omega)
   have hc:(i.int + 1).toNat=i.int.toNat + 1:=by omega
   have hlt':((Q.list.length:Int) - (i.int + 1)).toNat < ((Q.list.length:Int) - i.int).toNat:=by omega
   simp only [hw,hc]
   refine bd (fun h1=>?_) (fun h1=>dt ⟨h0,by omega⟩ (bd (fun h2=>?_) (fun h2=>?_)))
   ·rw [decide_eq_false (by omega)] at hk;exact hk
   ·rw [decide_eq_true (show 0≤(nth (U.i 0) Q.list i.int.toNat).int by omega),decide_eq_false (by omega)] at hk;exact hk
   ·rw [decide_eq_true (show 0≤(nth (U.i 0) Q.list i.int.toNat).int by omega),decide_eq_true (by omega)] at hk
    exact blt hlt' ⟨⟨by trivial,by trivial,by trivial,by trivial,by trivial,hQ,by omega,by omega⟩,hk⟩
  ·rw [List.drop_of_length_le (by omega)] at hk
   exact hk
 ·exact h.elim
theorem qo (c sz bk T S M Q:U):cq c sz bk T S M Q=true↔0≤c.int∧c.int≤6∧dW sz.int c.int=true∧jN bk.str=true∧S.list.length≤8∧M.list.length≤8∧Q.list.length≤65536∧b8 T.list (sz.int / 2 ^ c.int.toNat) c.int=true∧ew c.int S.list 0 S.list=true∧fL M.list 0 M.list=true∧cV Q.list=true:=by
 simp only [cq,Bool.and_eq_true,decide_eq_true_eq,and_assoc]
theorem da {c sz bk T S M Q:U} (h:(0≤c.int∧c.int≤6∧dW sz.int c.int=true∧jN bk.str=true∧S.list.length≤8∧M.list.length≤8∧Q.list.length≤65536∧b8 T.list (sz.int / 2 ^ c.int.toNat) c.int=true∧ew c.int S.list 0 S.list=true∧fL M.list 0 M.list=true∧cV Q.list=true)→False):([[U.b false]]:List (List U))=[[.b (cq c sz bk T S M Q)]]:=by
 rw [show cq c sz bk T S M Q=false from Bool.eq_false_iff.2 fun h'=>h ((qo ..).1 h')]
theorem CW:bB PR 25 xh:=fun fn us hfn=>by
 have hf:PR.funcs[(25:Nat)]? = some Tryz.f25:=by kernel_rfl
 rw [hf] at hfn;cases hfn
 refine aM (C:=kx) (aB ao af (.consP Ez (.cons Es (.cons yN (.cons BV (.cons Gw (.cons Bx .nil)))))) .nil) hf (by kernel_rfl) (dP (by kernel_rfl) vW xH se) fun hok=>?_
 have hp:Tryz.f25.params.toList=[29]:=by kernel_rfl
 rw [hp] at hok
 obtain ⟨c,sz,bk,T,S,M,Q,hus⟩:∃ c sz bk T S M Q,us=[[c,sz,bk,T,S,M,Q]]:=by
  obtain ⟨u,rfl,h1⟩:=cT (by kernel_rfl:Cs PR 29=some (true,[.int .i64,.int .i64,.str,.sl false [.sl true EC],.sl true SC,.sl true BC,.sl false [.int .i64]])) hok.1
  obtain ⟨c,sz,bk,T,S,M,Q,rfl⟩:=oc h1
  exact ⟨c,sz,bk,T,S,M,Q,rfl⟩
 subst hus
 refine .eq (yj _ _ _ _ _ _ _ _) ?_
 unfold xh
 simp only [bo,aZ]
 have eb:(ByteArray.toList bk.str == ByteArray.toList { data:=#[] })=(bk.str.data.toList == []):=by rw [ByteArray.toList_eq,ByteArray.toList_eq]
 rw [eb]
 refine bd (fun h=>da fun h'=>by omega) (fun hc0=>bd (fun h=>da fun h'=>by omega) (fun hc6=>⟨⟨by simpa using hc0,by simpa using hc6⟩,bi (fun h=>da fun h'=>fls h h'.2.2.1) (fun hs=>?_)⟩))
 replace hc0:0≤c.int:=by omega
 replace hc6:c.int≤6:=by omega
 simp only [yL hc0 hc6,Int.toNat_zero,List.drop_zero]
 refine bi (fun hb=>bi (fun hb2=>da fun h'=>?_) (fun hb2=>?_)) (fun hb=>?_)
 ·have:=h'.2.2.2.1
  rw [jN,nt hb,nt hb2] at this;cases this
 all_goals
  have hbk:jN bk.str=true:=by
   rw [jN]
   first | rw [nf hb2,Bool.or_true] | rw [nf hb,Bool.true_or]
  refine bd (fun h=>da fun h'=>by omega) (fun h8=>bd (fun h=>da fun h'=>by omega) (fun h9=>bd (fun h=>da fun h'=>by omega) (fun h10=>?_)))
  refine df (by rw [u64_in hc0 (by omega)];omega) (bi (fun h=>da fun h'=>fls h h'.2.2.2.2.2.2.2.1) (fun ht=>?_))
  refine ⟨⟨by trivial,by trivial,by trivial,by trivial,by trivial,by omega,by omega,by omega,hc0,hc6⟩,bi (fun h11=>?_) (fun h=>da fun h'=>flf h h'.2.2.2.2.2.2.2.2.1)⟩
  refine ⟨⟨by trivial,by trivial,by trivial,by trivial,by trivial,by omega,by omega,by omega⟩,bi (fun h12=>?_) (fun h=>da fun h'=>flf h h'.2.2.2.2.2.2.2.2.2.1)⟩
  refine ⟨⟨by trivial,by trivial,by trivial,by trivial,by trivial,by omega,by omega,by omega⟩,bi (fun h13=>?_) (fun h=>da fun h'=>flf h h'.2.2.2.2.2.2.2.2.2.2)⟩
  refine ubi ?_
  rw [qo]
  exact ⟨fun _=>⟨hc0,hc6,nf hs,hbk,by omega,by omega,by omega,nf ht,h11,h12,h13⟩,fun _=>rfl⟩
end Go.Mat

namespace Go.Mat
open Go Go.Den Go.Proofs
theorem ve (x:U):∀ p q:List U,eS x (p ++ q)=(eS x p || eS x q)
 | [],q=>rfl
 | s :: r,q=>by rw [List.cons_append,eS,eS,ve x r q,Bool.or_assoc]
theorem qO (x:U):∀ (p q:List U) (i:Int),eS x p=false→dg x i (p ++ q)=dg x (i + p.length) q
 | [],q,i,_=>by simp
 | s :: r,q,i,h=>by
  rw [eS,Bool.or_eq_false_iff] at h
  rw [List.cons_append,dg,h.1,cond_false,qO x r q _ h.2]
  congr 1;simp;omega
theorem wJ (x:U):∀ (p q:List U) (i:Int),eS x p=true→dg x i (p ++ q) < i + p.length
 | s :: r,q,i,h=>by
  rw [List.cons_append,dg]
  cases hc:(e0 s).str.data.toList == x.str.data.toList with
  | true=>simp;omega
  | false=>
   rw [eS,hc,Bool.false_or] at h
   have:=wJ x r q (i + 1) h
   simp only [cond_false,List.length_cons];omega
theorem vk (s:U) (p q:List U):(dg (e0 s) 0 (p ++ s :: q) == (p.length:Int)) = !eS (e0 s) p:=by
 cases h:eS (e0 s) p with
 | true=>have:=wJ (e0 s) p (s :: q) 0 h;simp;omega
 | false=>rw [qO _ _ _ _ h,dg];simp
theorem oN (a b:U):ueq .str a b=true↔a.str.data.toList=b.str.data.toList:=by simp [ueq]
theorem qT (y x v:U):∀ es:List (U × U),gL .str y (dn .str x v es)=(gL .str y es || ueq .str y x)
 | []=>by simp [dn,gL]
 | (a,z) :: r=>by
  unfold dn
  cases hu:ueq .str x a with
  | true=>
   have h1:=(oN _ _).1 hu
   have h2:ueq .str y a=ueq .str y x:=by rw [Bool.eq_iff_iff,oN,oN,h1]
   simp only [cond_true,gL,h2]
   cases ueq .str y x<;>simp
  | false=>simp only [cond_false,gL,qT y x v r,Bool.or_assoc]
theorem Gq (y s:U):ueq .str y (e0 s)=((e0 s).str.data.toList == y.str.data.toList):=by
 rw [Bool.eq_iff_iff,oN,beq_iff_eq];exact eq_comm
theorem rl {es:List (U × U)} {p:List U} {s:U} (h:∀ x,gL .str x es=eS x p):∀ x,gL .str x (dn .str (e0 s) (.i 1) es)=eS x (p ++ [s]):=fun x=>by
 rw [qT,ve,h x,Gq];simp [eS]
theorem pP {c:Int} {S:List U}:∀ (r p:List U) (es:List (U × U)),S=p ++ r→(∀ x,gL .str x es=eS x p)→
  (∀ s ∈ r,b8 (e2 s).list ((e1 s).int / 2 ^ c.toNat) c=bU (e2 s).list ((e1 s).int / 2 ^ c.toNat) c)→ew c S p.length r=(dQ c r && cz es (r.map e0))
 | [],_,_,_,_,_=>rfl
 | s :: r,p,es,hS,hk,ht=>by
  have hr:=pP (c:=c) (S:=S) r (p ++ [s]) _ (by rw [hS];simp) (rl (s:=s) hk) fun s hs=>ht s (by simp [hs])
  have hl:(((p ++ [s]).length:Nat):Int)=(p.length:Int) + 1:=by simp
  rw [hl] at hr
  rw [ew,hr,dQ,List.map_cons,cz,ht s (by simp),hk (e0 s)]
  have hf:(dg (e0 s) 0 S == (p.length:Int)) = !eS (e0 s) p:=by rw [hS];exact vk s p r
  rw [hf]
  cases fG (e0 s).str<;>cases eS (e0 s) p<;>cases dW (e1 s).int c<;>cases bU (e2 s).list ((e1 s).int / 2 ^ c.toNat) c<;>simp
theorem rk {M:List U}:∀ (r p:List U) (es:List (U × U)),M=p ++ r→(∀ x,gL .str x es=eS x p)→fL M p.length r=(i5 r && cz es (r.map e0))
 | [],_,_,_,_=>rfl
 | s :: r,p,es,hS,hk=>by
  have hr:=rk (M:=M) r (p ++ [s]) _ (by rw [hS];simp) (rl (s:=s) hk)
  have hl:(((p ++ [s]).length:Nat):Int)=(p.length:Int) + 1:=by simp
  rw [hl] at hr
  rw [fL,hr,i5,List.map_cons,cz,hk (e0 s)]
  have hf:(dg (e0 s) 0 M == (p.length:Int)) = !eS (e0 s) p:=by rw [hS];exact vk s p r
  rw [hf]
  cases fG (e0 s).str<;>cases eS (e0 s) p<;>cases fS (-1) (e2 s).list<;>cases mD (e2 s).list<;>simp
theorem AB {c sz bk T S M Q:U} (hT:T.list.length≤1099511627776) (hS:∀ s ∈ S.list,(e2 s).list.length≤1099511627776):cq c sz bk T S M Q=cj c sz bk T S M Q:=by
 have h1:=pP (c:=c.int) (S:=S.list) S.list [] [] (by simp) (fun _=>rfl) fun s hs=>(lp (hS s hs)).symm
 have h2:=rk (M:=M.list) M.list [] [] (by simp) (fun _=>rfl)
 simp only [List.length_nil,Int.natCast_zero] at h1 h2
 rw [cq,cj,show ew c.int S.list 0 S.list=_ from h1,show fL M.list 0 M.list=_ from h2,← lp hT]
 ac_rfl
end Go.Mat

namespace Go.Mat
def GD:BitVec 32:=0x82f63b78#32
def dj (c:BitVec 32):BitVec 32:=if c.getLsbD 0 then (c >>> 1) ^^^ GD else c >>> 1
theorem wN (x y:BitVec 32):dj (x ^^^ y)=dj x ^^^ dj y:=by
 unfold dj
 rw [BitVec.getLsbD_xor,BitVec.ushiftRight_xor_distrib]
 cases x.getLsbD 0<;>cases y.getLsbD 0<;>simp
 ·rw [BitVec.xor_assoc]
 ·rw [BitVec.xor_assoc (x >>> 1) GD,BitVec.xor_comm GD,BitVec.xor_assoc]
 ·rw [BitVec.xor_assoc,BitVec.xor_comm GD,BitVec.xor_assoc (y >>> 1),BitVec.xor_self,BitVec.xor_zero]
def qD (c:BitVec 32):BitVec 32:=dj (dj (dj (dj c)))
theorem CV (x y:BitVec 32):qD (x ^^^ y)=qD x ^^^ qD y:=by
 unfold qD
 simp only [wN]
theorem Jw:∀ i,i < 32→(15#32).getLsbD i=decide (i < 4):=by decide
theorem AG (c:BitVec 32):c=(c &&& 15#32) ^^^ ((c >>> 4) <<< 4):=by
 refine BitVec.eq_of_getLsbD_eq fun i hi=>?_
 rw [BitVec.getLsbD_xor,BitVec.getLsbD_and,Jw i hi,BitVec.getLsbD_shiftLeft,BitVec.getLsbD_ushiftRight]
 by_cases h:i < 4
 ·simp [h,hi]
 ·simp [h,hi,show 4 + (i - 4)=i by omega]
theorem gz {c:BitVec 32} (h:c.getLsbD 0=false):dj c=c >>> 1:=by
 unfold dj
 rw [h]
 rfl
theorem Ah (z:BitVec 32):qD (z <<< 4)=(z <<< 4) >>> 4:=by
 unfold qD
 rw [gz (c:=z <<< 4) (by simp),gz (c:=(z <<< 4) >>> 1) (by simp),gz (c:=((z <<< 4) >>> 1) >>> 1) (by simp),gz (c:=(((z <<< 4) >>> 1) >>> 1) >>> 1) (by simp)]
 simp only [← BitVec.shiftRight_add]
theorem DP (c:BitVec 32):qD c=qD (c &&& 15#32) ^^^ (c >>> 4):=by
 conv=>lhs;rw [AG c,CV,Ah]
 congr 1
 refine BitVec.eq_of_getLsbD_eq fun i hi=>?_
 rw [BitVec.getLsbD_ushiftRight,BitVec.getLsbD_shiftLeft,BitVec.getLsbD_ushiftRight,BitVec.getLsbD_ushiftRight]
 simp
 intro h
 refine Decidable.byContradiction fun hn=>?_
 rw [BitVec.getLsbD_of_ge _ _ (by omega)] at h
 cases h
end Go.Mat

namespace Go.Mat
open Go Go.Den
theorem so (c:BitVec 32):IntKind.wrap .u32 (c.toNat:Int)=(c.toNat:Int):=by
 have:=c.isLt
 simp only [IntKind.wrap,IntKind.bits,IntKind.signed]
 simp
 omega
theorem CX {h:Int} (h0:0≤h) (h1:h < 4294967296):((BitVec.ofInt 32 h).toNat:Int)=h:=by
 rw [BitVec.toNat_ofInt]
 have:h % ((2 ^ 32:Nat):Int)=h:=Int.emod_eq_of_lt h0 (by simpa using h1)
 rw [this]
 omega
theorem xf {h:Int} (h0:0≤h) (h1:h < 4294967296) (n:Nat):Int.fdiv h (2 ^ n)=((BitVec.ofInt 32 h >>> n).toNat:Int):=by
 rw [BitVec.toNat_ushiftRight,Nat.shiftRight_eq_div_pow,Int.fdiv_eq_ediv_of_nonneg _ (Int.pow_nonneg (by decide)),Int.natCast_ediv,CX h0 h1]
 norm_cast
theorem Cj (c:BitVec 32):((((c &&& BitVec.ofInt 32 1).toNat:Nat):Int) == 1)=c.getLsbD 0:=by
 have:(c &&& BitVec.ofInt 32 1).toNat=if c.getLsbD 0 then 1 else 0:=by
  rw [BitVec.toNat_and,show (BitVec.ofInt 32 1).toNat=1 from rfl,Nat.and_one_is_mod]
  simp only [BitVec.getLsbD,Nat.testBit_zero]
  rcases Nat.mod_two_eq_zero_or_one c.toNat with e | e<;>simp [e]
 rw [this]
 cases c.getLsbD 0<;>rfl
def gW (h:Int):Int:=((dj (BitVec.ofInt 32 h)).toNat:Int)
theorem vp (h:Int):0≤gW h∧gW h < 4294967296:=by
 have:=(dj (BitVec.ofInt 32 h)).isLt
 unfold gW
 omega
theorem Ai {h:Int} (h0:0≤h) (h1:h < 4294967296) (hl:(BitVec.ofInt 32 h).getLsbD 0=true) :
  IntKind.wrap .u32 ((BitVec.ofInt 32 (Int.fdiv h (2 ^ 1)) ^^^ BitVec.ofInt 32 2197175160).toNat:Int)=gW h:=by
 rw [so,xf h0 h1]
 unfold gW dj
 rw [hl,if_pos rfl]
 congr 2
 rw [BitVec.ofInt_natCast,BitVec.ofNat_toNat,BitVec.setWidth_eq]
 rfl
theorem yu {h:Int} (h0:0≤h) (h1:h < 4294967296) (hl:(BitVec.ofInt 32 h).getLsbD 0=false):Int.fdiv h (2 ^ 1)=gW h:=by
 rw [xf h0 h1]
 unfold gW dj
 rw [hl]
 rfl
end Go.Mat

namespace Go.Mat
open Go Go.Den Go.Proofs
abbrev vw (n:U):SV:=.val (.int .u32) n
def c8:Nat→Int→Int
 | 0,h=>h
 | n + 1,h=>c8 n (gW h)
def zB (h x:Int):Int:=c8 8 (IntKind.wrap .u32 (BitVec.toNat (BitVec.ofInt 32 h ^^^ BitVec.ofInt 32 (IntKind.wrap .u32 x)):Int))
def fy (h:Int):List U→Int
 | []=>h
 | x :: r=>fy (zB h x.int) r
noncomputable def jK:aS:=fun _ svs os k=>match svs,os with
 | [.val (.int .i64) j,.val (.int .u32) h,.val (.int .i64) i,.val (.sl false [.int .u8]) b],[]=>(h = .i h.int∧0≤j.int∧j.int≤8∧0≤h.int∧h.int < 4294967296)∧k (.exit 2) ⟨[(5,vw (.i (c8 (8 - j.int).toNat h.int))),(6,vi i),(1,vl (.int .u8) b)],[]⟩
 | _,_=>False
noncomputable def jG:aS:=fun _ svs os k=>match svs,os with
 | [.val (.int .i64) i,.val (.int .u32) h,.val (.sl false [.int .u8]) b],[]=>(h = .i h.int∧0≤i.int∧i.int≤b.list.length∧0≤h.int∧h.int < 4294967296)∧k (.exit 0) ⟨[(5,vw (.i (fy h.int (b.list.drop i.int.toNat))))],[]⟩
 | _,_=>False
noncomputable def nh:Ctx:=mkC PR bM aK aL (aw 2 [7,5,6,1] [] jK (aw 0 [6,5,1] [] jG aC)) (an 2 [5,6,1] [] (an 0 [5] [] aq)) aq
theorem tp (pan:KP) (μ:Mu) (N:Nat) (k:KE) (j h i b:U) {d c f a e g l m} (_:d=(IntKind.bits IntKind.u32):=by rfl) (_:c=((2:Int) ^ min (Int.toNat 1) d):=by rfl) (_:f=(Int.fdiv h.int c):=by rfl) (_:a=(BitVec.toNat (BitVec.ofInt d f ^^^ BitVec.ofInt d 2197175160)):=by rfl) (_:e=(IntKind.wrap .u32 (↑a:Int)):=by rfl) (_:g=(1,.val (.sl false [.int .u8]) b):=by rfl) (_:l=(Int.toNat ((8:Int) - IntKind.wrap .i64 (j.int + 1))):=by rfl) (_:m=(U.i (IntKind.wrap .i64 (j.int + 1))):=by rfl): (exec (nh.panics pan) (aa Tryz.f81 1) 2 ⟨[(7,vi j),(5,vw h),(6,vi i),(1,vl (.int .u8) b)],[]⟩ (again PR (some ([5,6,1],[])) none pan [7,5,6,1] [] jK μ N k))=(bif decide (j.int < 8) then bif IntKind.wrap .u32 (↑(BitVec.toNat (BitVec.ofInt d h.int &&& BitVec.ofInt d 1)):Int) == 1 then bif Nat.blt (μ [vi m,.val (.int .u32) (U.i e),vi i,.val (.sl false [.int .u8]) b] []) N then (U.i e=U.i e∧(0:Int)≤IntKind.wrap .i64 (j.int + 1)∧IntKind.wrap .i64 (j.int + 1)≤8∧(0:Int)≤IntKind.wrap .u32 (↑a:Int)∧IntKind.wrap .u32 (↑a:Int) < 4294967296)∧k (Ex.exit 2) (St.mk [(5,.val (.int .u32) (U.i (c8 l e))),(6,vi i),g] []) else False else bif Nat.blt (μ [vi m,.val (.int .u32) (U.i f),vi i,.val (.sl false [.int .u8]) b] []) N then (U.i f=U.i f∧(0:Int)≤IntKind.wrap .i64 (j.int + 1)∧IntKind.wrap .i64 (j.int + 1)≤8∧(0:Int)≤Int.fdiv h.int c∧Int.fdiv h.int c < 4294967296)∧k (Ex.exit 2) (St.mk [(5,.val (.int .u32) (U.i (c8 l f))),(6,vi i),g] []) else False else k (Ex.exit 2) (St.mk [(5,.val (.int .u32) h),(6,vi i),g] [])):=by subst_vars;kernel_rfl
theorem sd (pan:KP) (μ:Mu) (N:Nat) (k:KE) (i h b:U) {a c d e} (_:a=(BitVec.toNat (BitVec.ofInt (IntKind.bits IntKind.u32) h.int ^^^ BitVec.ofInt (IntKind.bits IntKind.u32) (IntKind.wrap .u32 (U.int (nth (.i 0) b.list i.int.toNat))))):=by rfl) (_:c=(IntKind.wrap .u32 (↑a:Int)):=by rfl) (_:d=(Int.toNat ((8:Int) - 0)):=by rfl) (_:e=(b.list.length:Int):=by rfl): (exec (nh.panics pan) (aa Tryz.f81 0) 0 ⟨[(6,vi i),(5,vw h),(1,vl (.int .u8) b)],[]⟩ (again PR (some ([5],[])) none pan [6,5,1] [] jG μ N k))=(bif decide (i.int < e) then bif decide ((0:Int)≤i.int∧i.int < e) then (U.i c=U.i c∧(0:Int)≤0∧(0:Int)≤8∧(0:Int)≤IntKind.wrap .u32 (↑a:Int)∧IntKind.wrap .u32 (↑a:Int) < 4294967296)∧bif Nat.blt (μ [vi (U.i (IntKind.wrap .i64 (i.int + 1))),.val (.int .u32) (U.i (c8 d c)),.val (.sl false [.int .u8]) b] []) N then (U.i (c8 d c)=U.i (c8 d c)∧(0:Int)≤IntKind.wrap .i64 (i.int + 1)∧IntKind.wrap .i64 (i.int + 1)≤e∧(0:Int)≤c8 d c∧c8 d c < 4294967296)∧k (Ex.exit 0) (St.mk [(5,.val (.int .u32) (U.i (fy (c8 d c) (List.drop (Int.toNat (IntKind.wrap .i64 (i.int + 1))) b.list))))] []) else False else False else k (Ex.exit 0) (St.mk [(5,.val (.int .u32) h)] [])):=by subst_vars;kernel_rfl
theorem xn (R:RF) (s b:U):(run nh Tryz.f81 [[s],[b]] R)=((U.i (ei IntKind.u32 s.int)=U.i (ei IntKind.u32 s.int)∧(0:Int)≤0∧(0:Int)≤(↑(List.length b.list):Int)∧(0:Int)≤ei IntKind.u32 s.int∧ei IntKind.u32 s.int < 4294967296)
 ∧ R [[U.i (ei IntKind.u32 (fy (ei IntKind.u32 s.int) (List.drop (Int.toNat 0) b.list)))]]):=by kernel_rfl
def n7 (s:Int) (b:List U):Int:=ei .u32 (fy (ei .u32 s) b)
def yK:List (List U)→List (List U):=fun us=>[[.i (n7 (nth (.i 0) (nth [] us 0) 0).int (nth (.i 0) (nth [] us 1) 0).list)]]
def Fe:List (List U)→List (List U):=fun us=>[[.i (n7 0 (nth (.i 0) (nth [] us 0) 0).list)]]
noncomputable def Hk:Ctx:=mkC PR bM (aH 81 yK aK) aL aC aq aq
theorem AE (R:RF) (b:U):(run Hk Tryz.f73 [[b]] R)=(R [[U.i (n7 0 b.list)]]):=by kernel_rfl
end Go.Mat

namespace Go.Mat
open Go Go.Den Go.Proofs
set_option maxRecDepth 100000
theorem qL:∀ (n:Nat) {h:Int},0≤h∧h < 4294967296→0≤c8 n h∧c8 n h < 4294967296
 | 0,_,hh=>hh
 | n + 1,h,_=>qL n (vp h)
theorem gm (x:Int):0≤IntKind.wrap .u32 x∧IntKind.wrap .u32 x < 4294967296:=by
 simp only [IntKind.wrap,IntKind.bits,IntKind.signed]
 simp
 omega
theorem vM:aE nh 2 (aa Tryz.f81 1):=by
 refine al (F:=jK) (ts:=[7,5,6,1]) (os:=[]) rfl (fun svs _=>match svs with | .val _ j :: _=>(8 - j.int).toNat | _=>0) ?_
 intro pan svs os k ho1 ho2 h
 unfold jK at h
 split at h
 ·rename_i j hh i b
  obtain ⟨⟨hh',h0,h8,hh0,hh1⟩,hk⟩:=h
  refine .eq (tp pan _ _ k j hh i b) ?_
  refine bd (fun hlt=>?_) (fun hlt=>?_)
  ·have hw:IntKind.wrap .i64 (j.int + 1)=j.int + 1:=i64_in (by omega) (by omega)
   rw [show (8 - j.int).toNat=(8 - (j.int + 1)).toNat + 1 by omega,c8] at hk
   have hm:(8 - (j.int + 1)).toNat < (8 - j.int).toNat:=by omega
   have hs:=vp hh.int
   refine bi (fun hc=>?_) (fun hc=>?_)
   ·have hl:(BitVec.ofInt 32 hh.int).getLsbD 0=true:=by rw [← Cj,← so];exact hc
    have e:=Ai hh0 hh1 hl
    rw [hw]
    exact blt hm ⟨⟨by trivial,by omega,by omega,by rw [← e] at hs;exact hs.1,by rw [← e] at hs;exact hs.2⟩,by rw [← e] at hk;exact hk⟩
   ·have hl:(BitVec.ofInt 32 hh.int).getLsbD 0=false:=by rw [← Cj,← so];exact hc
    have e:=yu hh0 hh1 hl
    rw [hw]
    exact blt hm ⟨⟨by trivial,by omega,by omega,by rw [← e] at hs;exact hs.1,by rw [← e] at hs;exact hs.2⟩,by rw [← e] at hk;exact hk⟩
  ·rw [show (8 - j.int).toNat=0 by omega,c8,← hh'] at hk
   exact hk
 ·exact h.elim
theorem mG (x:Int):0≤ei .u32 x∧ei .u32 x < 4294967296:=gm _
theorem vS (h x:Int):0≤zB h x∧zB h x < 4294967296:=qL 8 (gm _)
theorem uj:aE nh 0 (aa Tryz.f81 0):=by
 refine al (F:=jG) (ts:=[6,5,1]) (os:=[]) rfl (fun svs _=>match svs with | .val _ i :: _ :: .val _ b :: _=>((b.list.length:Int) - i.int).toNat | _=>0) ?_
 intro pan svs os k ho1 ho2 h
 unfold jG at h
 split at h
 ·rename_i i hh b
  obtain ⟨⟨hh',h0,hi,hh0,hh1⟩,hk⟩:=h
  refine .eq (sd pan _ _ k i hh b) ?_
  refine bd (fun hlt=>dt ⟨h0,hlt⟩ ?_) (fun hlt=>?_)
  ·have hb:b.list.length≤maxLen:=ho1.2.2.1.1
   have hw:IntKind.wrap .i64 (i.int + 1)=i.int + 1:=i64_in (by omega) (by unfold maxLen at hb;omega)
   have hc:(i.int + 1).toNat=i.int.toNat + 1:=by omega
   rw [aN (by omega),fy] at hk
   have hy:=vS hh.int (U.at b.list i.int.toNat).int
   refine ⟨⟨by trivial,by omega,by omega,(gm _).1,(gm _).2⟩,?_⟩
   rw [hw,hc]
   exact blt (by simp only [U.int_i];omega) ⟨⟨by trivial,by omega,by omega,hy.1,hy.2⟩,hk⟩
  ·rw [List.drop_of_length_le (by omega),fy,← hh'] at hk
   exact hk
 ·exact h.elim
theorem rZ {us:List (List U)} (h:ez PR [44,30] us):∃ s b,us=[[s],[b]]:=by
 obtain ⟨u,u2,rfl,h1,h2⟩:=bR (by kernel_rfl:Cs PR 44=some (false,[.int .u32])) (by kernel_rfl:Cs PR 30=some (false,[.sl false [.int .u8]])) h
 obtain ⟨a,rfl⟩:=bG h1
 obtain ⟨b,rfl⟩:=bG h2
 exact ⟨a,b,rfl⟩
theorem gN {us:List (List U)} (h:ez PR [30] us):∃ b,us=[[b]]:=by
 obtain ⟨u,rfl,h1⟩:=cT (by kernel_rfl:Cs PR 30=some (false,[.sl false [.int .u8]])) h
 obtain ⟨a,rfl⟩:=bG h1
 exact ⟨a,rfl⟩
theorem Cy:bB PR 81 yK:=fun fn us hfn=>by
 have hf:PR.funcs[(81:Nat)]? = some Tryz.f81:=by kernel_rfl
 rw [hf] at hfn;cases hfn
 refine aM (C:=nh) (aB ao af .nil .nil) hf (by kernel_rfl) (dS (by kernel_rfl) uj vM) fun hok=>?_
 have hp:Tryz.f81.params.toList=[44,30]:=by kernel_rfl
 rw [hp] at hok
 obtain ⟨s,b,hus⟩:=rZ hok.1
 subst hus
 refine .eq (xn _ s b) ?_
 exact ⟨⟨by trivial,by omega,by omega,(mG _).1,(mG _).2⟩,rfl⟩
theorem Fb:bB PR 73 Fe:=fun fn us hfn=>by
 have hf:PR.funcs[(73:Nat)]? = some Tryz.f73:=by kernel_rfl
 rw [hf] at hfn;cases hfn
 refine aM (C:=Hk) (aB ao af (.cons Cy .nil) .nil) hf (by kernel_rfl) (aI (by kernel_rfl)) fun hok=>?_
 have hp:Tryz.f73.params.toList=[30]:=by kernel_rfl
 rw [hp] at hok
 obtain ⟨b,hus⟩:=gN hok.1
 subst hus
 exact .eq (AE _ b) rfl
end Go.Mat

namespace Go.Mat
open Go Go.Proofs
set_option maxRecDepth 100000
set_option maxHeartbeats 1600000
theorem qq (w:World):(callFunc 95 #[]).run Tryz.prog w = .ok (.value (.tuple #[])) w:=run_call_mark0 Tryz.func95 (by kernel_rfl) (by kernel_rfl) (by kernel_rfl) .disable (by kernel_rfl) w
theorem qM (w:World):(callFunc 97 #[]).run Tryz.prog w = .ok (.value (.tuple #[])) w:=run_call_mark0 Tryz.func97 (by kernel_rfl) (by kernel_rfl) (by kernel_rfl) .enable (by kernel_rfl) w
theorem yr (a:Addr) (w:World):(callFunc 98 #[.pointer (some a)]).run Tryz.prog w = .ok (.value (.tuple #[])) w:=run_call_marked Tryz.func98 (by kernel_rfl) (by kernel_rfl) (by kernel_rfl) .acquire (by kernel_rfl) a w
theorem B4 (a:Addr) (w:World):(callFunc 100 #[.pointer (some a)]).run Tryz.prog w = .ok (.value (.tuple #[])) w:=run_call_marked Tryz.func100 (by kernel_rfl) (by kernel_rfl) (by kernel_rfl) .releaseMerge (by kernel_rfl) a w
theorem C7 (a:Addr) (x:Value) (u:FrameMode) (w:World) (hc:w.cell? a=some x) (hz:w.frozen? a=false) :
  CallsD Tryz.prog 90 #[.pointer (some a),.bool true] u w fun e u' w'=>u' = u∧(e = .returned (.tuple #[])∧w' = w.drew.setCell a (.int .u32 1)):=by
 have hc':w.drew.cell? a=some x:=by go_simp
 have hz':w.drew.frozen? a=false:=by go_simp
 have hst:=run_call_store (P:=Tryz.prog) Tryz.func93 (by kernel_rfl) (by kernel_rfl) (by kernel_rfl) (by kernel_rfl) (k:=.u32) (y:=1) hc' hz'
 go_enter_d Tryz.func90,Tryz.ntmps90
 go_wp2
 go_region_calls
 all_goals (go_end0;exact ⟨rfl,rfl⟩)
theorem AZ (a:Addr) (u:FrameMode) (w:World) (hc:w.cell? a=some (.int .i32 1)) (hz:w.frozen? a=false) :
  CallsD Tryz.prog 89 #[.pointer (some a)] u w fun e u' w'=>u' = u∧(e = .returned (.tuple #[])∧w' = w.setCell a (.int .i32 0)):=by
 have hd:=qq
 have he:=qM
 have hr:=B4
 have hadd:=run_call_add (P:=Tryz.prog) Tryz.func101 (by kernel_rfl) (by kernel_rfl) (by kernel_rfl) .i32 (by kernel_rfl) (y:=-1) (s:=0) hc hz (by simp [go_sem];rfl)
 have hcv:=run_convert_to_unsafe (P:=Tryz.prog) (src:=152) (dst:=156) Tryz.underlying152 Tryz.underlying156 (by kernel_rfl) hc
 go_enter_d Tryz.func89,Tryz.ntmps89
 go_wp2
 go_end0
 go_wp2
 go_end0
 exact ⟨rfl,rfl⟩
theorem GA (a:Addr) (w:World) (hc:w.cell? a=some (.int .i32 0)) (hz:w.frozen? a=false) :
  Calls Tryz.prog 88 #[.pointer (some a)] w fun e w'=>e = .returned (.tuple #[])∧w' = w.setCell a (.int .i32 1):=by
 have hd:=qq
 have he:=qM
 have ha:=yr
 have hcas:=run_call_cas_hit (P:=Tryz.prog) Tryz.func96 (by kernel_rfl) (by kernel_rfl) (by kernel_rfl) .i32 (by kernel_rfl) (y:=1) hc hz
 have hc':(w.setCell a (.int .i32 1)).cell? a=some (.int .i32 1):=World.cell?_setCell_same w a _ hc
 have hcv:=run_convert_to_unsafe (P:=Tryz.prog) (src:=152) (dst:=156) Tryz.underlying152 Tryz.underlying156 (by kernel_rfl) hc'
 go_enter Tryz.func88,Tryz.ntmps88
 go_wp2
 first | go_end0 | (simp only [Exit.inBlock,Exit.then];refine bodyPost_ret (results_none rfl _ _ _) rfl ?_) | refine bodyPost_ret (results_none rfl _ _ _) rfl ?_
 go_wp2
 go_end0
 exact ⟨rfl,rfl⟩
end Go.Mat

namespace Go.Mat
open Go Go.Proofs Go.RowKit
set_option maxRecDepth 100000
set_option maxHeartbeats 1600000
def fZ (b off:Nat) (v:Nat→Value):Nat→World→World
 | 0,w=>w
 | k + 1,w=>(fZ b off v k w).setCell ⟨b,off + 3 + k,none⟩ (v k)
def dr:Nat→Nat→Int
 | 0,k=>k
 | n + 1,k=>gW (dr n k)
theorem Iq:∀ n,n < 4→∀ k,k < 16→(bits .and .u32 (dr n k) 1 == 1)=true→bits .xor .u32 (dr n k / 2) 2197175160=dr (n + 1) k:=by decide
theorem Gv:∀ n,n < 4→∀ k,k < 16→(bits .and .u32 (dr n k) 1 == 1)=false→dr n k / 2=dr (n + 1) k:=by decide
theorem fR {b off:Nat} {v:Nat→Value} {w:World} {a:Addr}:∀ {k:Nat},(∀ j,j < k→(⟨b,off + 3 + j,none⟩:Addr)≠a)→(fZ b off v k w).cell? a=w.cell? a
 | 0,_=>rfl
 | k + 1,h=>by
  rw [fZ,World.cell?_setCell_other _ _ _ _ (h k (by omega)),fR fun j hj=>h j (by omega)]
theorem jH {b off:Nat} {v:Nat→Value} {w:World} {a:Addr}:∀ {k:Nat},(fZ b off v k w).frozen? a=w.frozen? a
 | 0=>rfl
 | k + 1=>by rw [fZ];simp [jH (k:=k)]
theorem Ie (b off:Nat) (pl:Addr) (hpb:¬ b=pl.block) (w:World) (hp:w.cell? pl=some (.pointer (some ⟨b,off,none⟩)))
  (hc:∀ k,k < 16→∃ x,w.cell? ⟨b,off + 3 + k,none⟩=some x) (hz:∀ k,k < 16→w.frozen? ⟨b,off + 3 + k,none⟩=false) :
  Calls Tryz.prog 84 #[.pointer (some pl)] w fun e w'=>e = .returned (.tuple #[])∧w' = fZ b off (fun k=>.int .u32 (dr 4 k)) 16 w:=by
 go_enter Tryz.func84,Tryz.ntmps84
 go_wp2
 go_loopw [4] (fun i wr=>∃ k:Nat,k≤16∧i = .int .i64 k∧wr=fZ b off (fun k=>.int .u32 (dr 4 k)) k w) (fun i _=>16 - (intOf i).toNat)
 case atStart=>exact ⟨0,Nat.zero_le _,rfl,rfl⟩
 case round=>
  obtain ⟨k,hk,rfl,rfl⟩:=hrel
  have hp':(fZ b off (fun k=>.int .u32 (dr 4 k)) k w).cell? pl=some (.pointer (some ⟨b,off,none⟩)):=(fR fun j _ h=>hpb (by rw [← h])).trans hp
  have hx:k < 16→∃ x,(fZ b off (fun k=>.int .u32 (dr 4 k)) k w).cell? ⟨b,off + 3 + k,none⟩=some x:=fun h=>by
   obtain ⟨x,hx⟩:=hc k h
   exact ⟨x,(fR fun j hj e=>by have:=congrArg Addr.off e;simp at this;omega).trans hx⟩
  have hz':k < 16→(fZ b off (fun k=>.int .u32 (dr 4 k)) k w).frozen? ⟨b,off + 3 + k,none⟩=false:=fun h=>jH.trans (hz k h)
  by_cases hlt:(k:Int) < 16
  ·obtain ⟨x,hx⟩:=hx (by omega)
   have hz':=hz' (by omega)
   have hk16:k < 16:=by omega
   go_wp2
   go_loop [2,9] (fun c j=>∃ n:Nat,n≤4∧j = .int .i64 n∧c = .int .u32 (dr n k)) (fun _ j=>4 - (intOf j).toNat)
   case atStart=>exact ⟨0,by omega,rfl,rfl⟩
   case round=>
    obtain ⟨n,hn,rfl,rfl⟩:=hrel
    go_wp2
    ·have h4:(n:Int) < 4:=by assumption
     have hb:(bits BinOp.and IntKind.u32 (dr n k) 1 == 1)=true:=by assumption
     refine ⟨⟨n + 1,by omega,by go_num,by rw [Iq n (by omega) k hk16 hb]⟩,by simp [intOf];omega⟩
    ·have h4:(n:Int) < 4:=by assumption
     have hb:(bits BinOp.and IntKind.u32 (dr n k) 1 == 1)=false:=by assumption
     refine ⟨⟨n + 1,by omega,by go_num,by rw [Gv n (by omega) k hk16 hb]⟩,by simp [intOf];omega⟩
    ·have h4:¬ (n:Int) < 4:=by first | assumption | (intro h;omega)
     have hn4:n=4:=by omega
     subst hn4
     refine ⟨⟨k + 1,by omega,by go_num,rfl⟩,by simp [intOf];omega⟩
  ·have hk16:k=16:=by omega
   subst hk16
   go_wp2
   go_end0
   exact ⟨rfl,rfl⟩
theorem FT (a:Addr) (d:Int) (hd:¬ d=0) (fv:Value) (w:World) (h0:w.cell? a=some (.int .u32 d)) :
  Calls Tryz.prog 83 #[.pointer (some a),fv] w fun e w'=>e = .returned (.tuple #[])∧w' = w:=by
 have hl:=run_call_load (P:=Tryz.prog) Tryz.func87 (by kernel_rfl) (by kernel_rfl) (by kernel_rfl) .u32 (by kernel_rfl) h0
 have hnot:∀ (x:Bool) (w:World),(Op.unary .not (.bool x)).run Tryz.prog w = .ok (.bool (!x)) w:=fun _ _=>rfl
 have hd':(d != 0)=true:=by simp [hd]
 go_enter Tryz.func83,Tryz.ntmps83
 go_wp2
 go_end0
 exact ⟨rfl,rfl⟩
abbrev cS (k:Nat):Value:=.int .u32 (dr 4 k)
abbrev gb (b off:Nat) (w:World):World:=((fZ b off cS 16 (w.setCell ⟨b,off + 1,none⟩ (.int .i32 1))).drew.setCell ⟨b,off,none⟩ (.int .u32 1)).setCell ⟨b,off + 1,none⟩ (.int .i32 0)
theorem GO (b off:Nat) (pl:Addr) (hpb:¬ b=pl.block) (w:World) (hp:w.cell? pl=some (.pointer (some ⟨b,off,none⟩)))
  (h0:w.cell? ⟨b,off,none⟩=some (.int .u32 0)) (h1:w.cell? ⟨b,off + 1,none⟩=some (.int .i32 0)) (hc:∀ k,k < 16→∃ x,w.cell? ⟨b,off + 3 + k,none⟩=some x)
  (f0:w.frozen? ⟨b,off,none⟩=false) (f1:w.frozen? ⟨b,off + 1,none⟩=false) (fz:∀ k,k < 16→w.frozen? ⟨b,off + 3 + k,none⟩=false) :
  Calls Tryz.prog 86 #[.pointer (some ⟨b,off,none⟩),.func (.func 84) #[] #[.pointer (some pl)]] w fun e w'=>e = .returned (.tuple #[])∧w' = gb b off w:=by
 have hl:=run_call_load (P:=Tryz.prog) Tryz.func87 (by kernel_rfl) (by kernel_rfl) (by kernel_rfl) .u32 (by kernel_rfl) (w:=w.setCell ⟨b,off + 1,none⟩ (.int .i32 1)) (a:=⟨b,off,none⟩) (x:=0) ((World.cell?_setCell_other _ ⟨b,off + 1,none⟩ ⟨b,off,none⟩ _ (by simp)).trans h0)
 have hp1:(w.setCell ⟨b,off + 1,none⟩ (.int .i32 1)).cell? pl=some (.pointer (some ⟨b,off,none⟩)):=(World.cell?_setCell_other _ ⟨b,off + 1,none⟩ pl _ (fun h=>hpb (by rw [← h]))).trans hp
 have hc1:∀ k,k < 16→∃ x,(w.setCell ⟨b,off + 1,none⟩ (.int .i32 1)).cell? ⟨b,off + 3 + k,none⟩=some x:=fun k hk=>by
  obtain ⟨x,hx⟩:=hc k hk
  exact ⟨x,(World.cell?_setCell_other _ ⟨b,off + 1,none⟩ ⟨b,off + 3 + k,none⟩ _ (by intro e;have:=congrArg Addr.off e;simp at this;omega)).trans hx⟩
 have hz1:∀ k,k < 16→(w.setCell ⟨b,off + 1,none⟩ (.int .i32 1)).frozen? ⟨b,off + 3 + k,none⟩=false:=fun k hk=>by simp [fz k hk]
 have hnot:∀ (x:Bool) (w:World),(Op.unary .not (.bool x)).run Tryz.prog w = .ok (.bool (!x)) w:=fun _ _=>rfl
 go_enter_defers Tryz.func86,Tryz.ntmps86
 go_wp2_with (go_at_call 88;refine (GA ⟨b,off + 1,none⟩ _ (by go_simp) (by go_simp)).mono ?_;rintro e w' ⟨rfl,rfl⟩)
 go_wp2_with (first | (go_at_call 84;refine (Ie b off pl hpb _ hp1 hc1 hz1).mono ?_;rintro e w' ⟨rfl,rfl⟩) | (go_at_call 85;go_in))
 refine leaves_cons (f:=90) (args:=#[.pointer (some ⟨b,off,none⟩),.bool true]) (by simp) (by simp [go_sem]) ?_
 refine (C7 ⟨b,off,none⟩ (.int .u32 0) .returning _ ?_ (by simp [jH,f0])).mono ?_
 ·exact (fR fun j _ e=>by have:=congrArg Addr.off e;simp at this;omega).trans ((World.cell?_setCell_other _ ⟨b,off + 1,none⟩ ⟨b,off,none⟩ _ (by simp)).trans h0)
 rintro e u' w'' ⟨rfl,rfl,rfl⟩
 refine leaves_cons (f:=89) (args:=#[.pointer (some ⟨b,off + 1,none⟩)]) (by simp [settle]) (by simp [go_sem]) ?_
 refine (AZ ⟨b,off + 1,none⟩ _ _ ?_ (by simp [jH,f1])).mono ?_
 ·refine (World.cell?_setCell_other _ ⟨b,off,none⟩ ⟨b,off + 1,none⟩ _ (by simp)).trans ?_
  rw [World.cell?_drew]
  exact (fR fun j _ e=>by have:=congrArg Addr.off e;simp at this;omega).trans (World.cell?_setCell_same w _ _ h1)
 rintro e u' w'' ⟨rfl,rfl,rfl⟩
 simp [Leaves,settle,results,Tryz.results86]
theorem De (b off:Nat) (pl:Addr) (hpb:¬ b=pl.block) (w:World) (hp:w.cell? pl=some (.pointer (some ⟨b,off,none⟩)))
  (h0:w.cell? ⟨b,off,none⟩=some (.int .u32 0)) (h1:w.cell? ⟨b,off + 1,none⟩=some (.int .i32 0)) (hc:∀ k,k < 16→∃ x,w.cell? ⟨b,off + 3 + k,none⟩=some x)
  (f0:w.frozen? ⟨b,off,none⟩=false) (f1:w.frozen? ⟨b,off + 1,none⟩=false) (fz:∀ k,k < 16→w.frozen? ⟨b,off + 3 + k,none⟩=false) :
  Calls Tryz.prog 83 #[.pointer (some ⟨b,off,none⟩),.func (.func 84) #[] #[.pointer (some pl)]] w fun e w'=>e = .returned (.tuple #[])∧w' = gb b off w:=by
 have hl:=run_call_load (P:=Tryz.prog) Tryz.func87 (by kernel_rfl) (by kernel_rfl) (by kernel_rfl) .u32 (by kernel_rfl) h0
 have hnot:∀ (x:Bool) (w:World),(Op.unary .not (.bool x)).run Tryz.prog w = .ok (.bool (!x)) w:=fun _ _=>rfl
 go_enter Tryz.func83,Tryz.ntmps83
 go_wp2_with (first | (go_at_call 86;refine (GO b off pl hpb _ hp h0 h1 hc f0 f1 fz).mono ?_;rintro e w' ⟨rfl,rfl⟩) | (go_at_call 85;go_in))
 go_end0
 exact ⟨rfl,rfl⟩
theorem u7 {b off:Nat} {v:Nat→Value} {w:World} (hc:∀ k,k < 16→∃ x,w.cell? ⟨b,off + 3 + k,none⟩=some x):∀ {n k:Nat},n≤16→k < n→(fZ b off v n w).cell? ⟨b,off + 3 + k,none⟩=some (v k)
 | 0,k,_,h=>by omega
 | n + 1,k,hn,h=>by
  rw [fZ]
  by_cases e:k=n
  ·subst e
   obtain ⟨x,hx⟩:=hc k (by omega)
   exact World.cell?_setCell_same _ _ _ ((fR fun j hj e=>by have:=congrArg Addr.off e;simp at this;omega).trans hx)
  ·rw [World.cell?_setCell_other _ _ _ _ (by intro h;have:=congrArg Addr.off h;simp at this;omega)]
   exact u7 hc (by omega) (by omega)
theorem Dd (b:Nat) (m:Nat) (w:World) (hb:b < w.heap.size)
  (h0:w.cell? ⟨b,0,none⟩=some (.int .u32 0)) (h1:w.cell? ⟨b,1,none⟩=some (.int .i32 0)) (hc:∀ k,k < 16→∃ x,w.cell? ⟨b,3 + k,none⟩=some x)
  (f0:w.frozen? ⟨b,0,none⟩=false) (f1:w.frozen? ⟨b,1,none⟩=false) (fz:∀ k,k < 16→w.frozen? ⟨b,3 + k,none⟩=false) :
  Calls Tryz.prog 82 #[.pointer (some ⟨b,0,none⟩),.int .u32 m] w fun e w'=>e = .returned (cS (m % 16))∧w' = gb b 0 (w.alloc (.cells #[.pointer (some ⟨b,0,none⟩)] 142)):=by
 have hmf:∀ (fn:Fn) (first cap:Array Value) (w:World),(Instr.makeFunc fn first cap).run Tryz.prog w = .ok (.func fn first cap) w:=fun _ _ _ _=>rfl
 have nb:∀ j:Nat,(⟨b,j,none⟩:Addr)≠⟨w.heap.size,0,none⟩:=fun j h=>by
  have:=congrArg Addr.block h
  simp at this
  omega
 have p0:(w.alloc (.cells #[.pointer (some ⟨b,0,none⟩)] 142)).cell? ⟨w.heap.size,0,none⟩=some (.pointer (some ⟨b,0,none⟩)):=by simp
 have a0:(w.alloc (.cells #[.pointer (some ⟨b,0,none⟩)] 142)).cell? ⟨b,0,none⟩=some (.int .u32 0):=by rw [World.cell?_alloc_past _ _ _ hb];exact h0
 have a1:(w.alloc (.cells #[.pointer (some ⟨b,0,none⟩)] 142)).cell? ⟨b,0 + 1,none⟩=some (.int .i32 0):=by rw [World.cell?_alloc_past _ _ _ hb];exact h1
 have ac:∀ k,k < 16→∃ x,(w.alloc (.cells #[.pointer (some ⟨b,0,none⟩)] 142)).cell? ⟨b,0 + 3 + k,none⟩=some x:=fun k hk=>by
  rw [World.cell?_alloc_past _ _ _ hb,Nat.zero_add];exact hc k hk
 have z0:(w.alloc (.cells #[.pointer (some ⟨b,0,none⟩)] 142)).frozen? ⟨b,0,none⟩=false:=by rw [World.frozen?_alloc_past _ _ _ hb];exact f0
 have z1:(w.alloc (.cells #[.pointer (some ⟨b,0,none⟩)] 142)).frozen? ⟨b,0 + 1,none⟩=false:=by rw [World.frozen?_alloc_past _ _ _ hb];exact f1
 have zc:∀ k,k < 16→(w.alloc (.cells #[.pointer (some ⟨b,0,none⟩)] 142)).frozen? ⟨b,0 + 3 + k,none⟩=false:=fun k hk=>by
  rw [World.frozen?_alloc_past _ _ _ hb,Nat.zero_add];exact fz k hk
 generalize hw1:w.alloc (.cells #[.pointer (some ⟨b,0,none⟩)] 142)=w1 at *
 have pE:(gb b 0 w1).cell? ⟨w.heap.size,0,none⟩=some (.pointer (some ⟨b,0,none⟩)):=by
  unfold gb
  rw [World.cell?_setCell_other _ _ _ _ (nb _),World.cell?_setCell_other _ _ _ _ (nb _),World.cell?_drew,fR fun j _=>nb _,World.cell?_setCell_other _ _ _ _ (nb _)]
  exact p0
 have vE:∀ k,k < 16→(gb b 0 w1).cell? ⟨b,3 + k,none⟩=some (cS k):=fun k hk=>by
  unfold gb
  rw [World.cell?_setCell_other _ _ _ _ (by intro h;have:=congrArg Addr.off h;simp at this;omega),World.cell?_setCell_other _ _ _ _ (by intro h;have:0=3 + k:=congrArg Addr.off h;omega),World.cell?_drew,show 3 + k=0 + 3 + k by omega]
  refine u7 (fun k hk=>?_) (Nat.le_refl _) hk
  obtain ⟨x,hx⟩:=ac k hk
  exact ⟨x,(World.cell?_setCell_other _ _ _ _ (by intro h;have:=congrArg Addr.off h;simp at this;omega)).trans hx⟩
 have hk:=vE (m % 16) (Nat.mod_lt _ (by decide))
 go_enter Tryz.func82,Tryz.ntmps82
 go_wp2_with (go_at_call 83;refine (De b 0 ⟨w.heap.size,0,none⟩ (by simp;omega) _ p0 a0 a1 ac z0 z1 zc).mono ?_;rintro e w' ⟨rfl,rfl⟩)
 go_ret
 exact ⟨rfl,rfl⟩
theorem Ep (b:Nat) (m:Nat) (w:World) (hb:b < w.heap.size) (h0:w.cell? ⟨b,0,none⟩=some (.int .u32 1)) (hc:∀ k,k < 16→w.cell? ⟨b,3 + k,none⟩=some (cS k)) :
  Calls Tryz.prog 82 #[.pointer (some ⟨b,0,none⟩),.int .u32 m] w fun e w'=>e = .returned (cS (m % 16))∧w' = w.alloc (.cells #[.pointer (some ⟨b,0,none⟩)] 142):=by
 have hmf:∀ (fn:Fn) (first cap:Array Value) (w:World),(Instr.makeFunc fn first cap).run Tryz.prog w = .ok (.func fn first cap) w:=fun _ _ _ _=>rfl
 have p0:(w.alloc (.cells #[.pointer (some ⟨b,0,none⟩)] 142)).cell? ⟨w.heap.size,0,none⟩=some (.pointer (some ⟨b,0,none⟩)):=by simp
 have a0:(w.alloc (.cells #[.pointer (some ⟨b,0,none⟩)] 142)).cell? ⟨b,0,none⟩=some (.int .u32 1):=by rw [World.cell?_alloc_past _ _ _ hb];exact h0
 have hk:(w.alloc (.cells #[.pointer (some ⟨b,0,none⟩)] 142)).cell? ⟨b,3 + m % 16,none⟩=some (cS (m % 16)):=by
  rw [World.cell?_alloc_past _ _ _ hb];exact hc _ (Nat.mod_lt _ (by decide))
 generalize hw1:w.alloc (.cells #[.pointer (some ⟨b,0,none⟩)] 142)=w1 at *
 go_enter Tryz.func82,Tryz.ntmps82
 go_wp2_with (go_at_call 83;refine (FT ⟨b,0,none⟩ 1 (by decide) _ _ a0).mono ?_;rintro e w' ⟨rfl,rfl⟩)
 go_ret
 exact ⟨rfl,rfl⟩
theorem oS {w:World} {b j:Nat} {v:Value} {C:Array Value} {t:TypeId} {z:Nat × Nat} (h:w.heap[b]? = some (.cells C t z)):(w.setCell ⟨b,j,none⟩ v).heap[b]? = some (.cells (C.setIfInBounds j v) t z):=by
 unfold World.setCell
 simp only [Array.getElem?_modify,if_true,h]
 rfl
theorem lV {w:World} {b j k:Nat} {v:Value} (h:k≠b):(w.setCell ⟨b,j,none⟩ v).heap[k]? = w.heap[k]?:=by
 unfold World.setCell
 simp only [Array.getElem?_modify]
 rw [if_neg (fun e=>h e.symm)]
def C5 (C:Array Value):Nat→Array Value
 | 0=>C
 | n + 1=>(C5 C n).setIfInBounds (0 + 3 + n) (cS n)
theorem Em {w:World} {b:Nat} {C:Array Value} {t:TypeId} {z:Nat × Nat} (h:w.heap[b]? = some (.cells C t z)):∀ n,(fZ b 0 cS n w).heap[b]? = some (.cells (C5 C n) t z)
 | 0=>h
 | n + 1=>by rw [fZ,C5];exact oS (Em h n)
theorem mK {w:World} {b k:Nat} (h:k≠b):∀ n,(fZ b 0 cS n w).heap[k]? = w.heap[k]?
 | 0=>rfl
 | n + 1=>by rw [fZ,lV h,mK h n]
theorem rf {w:World} {b:Nat}:∀ n,(fZ b 0 cS n w).heap.size=w.heap.size
 | 0=>rfl
 | n + 1=>by rw [fZ,World.size_setCell,rf n]
end Go.Mat

namespace Go.Mat
open Go Go.Den Go.Proofs
def Ed:List SV:=[vw (.i 0),.val (.int .i32) (.i 0),vw (.i 0),vw (.i 0),vw (.i 0),vw (.i 0),vw (.i 0),vw (.i 0),vw (.i 0),vw (.i 0),vw (.i 0),vw (.i 0),vw (.i 0),vw (.i 0),vw (.i 0),vw (.i 0),vw (.i 0),vw (.i 0),vw (.i 0)]
def AQ:List SV:=[vw (.i 1),.val (.int .i32) (.i 0),vw (.i 0),vw (.i 0),vw (.i 274646895),vw (.i 549293790),vw (.i 820201905),vw (.i 1098587580),vw (.i 1361435347),vw (.i 1640403810),vw (.i 1905808397),vw (.i 2197175160),vw (.i 2460548119),vw (.i 2722870694),vw (.i 2987750089),vw (.i 3280807620),vw (.i 3553878443),vw (.i 3811616794),vw (.i 4084100981)]
def DN:SV→SV→Bool
 | .val (.int k) (.i n),.val (.int j) (.i m)=>IntKind.same k j && decide (n=m)
 | _,_=>false
def vC:List SV→List SV→Bool
 | [],[]=>true
 | a :: r,b :: s=>DN a b && vC r s
 | _,_=>false
def wdB (l:List SV):Bool:=vC l Ed || vC l AQ
noncomputable def CP:Tr:=fun vs objs R=>match vs,objs with
 | [.ptr i off,.val (.int .u32) u],[(j,.box cells)]=>(i=j∧off=0)∧bif wdB cells then R (.ret [vw (.i (dr 4 (u.int.toNat % 16)))]) [(j,.box AQ)] else False
 | _,_=>False
noncomputable def jU:aS:=fun _ svs os k=>match svs,os with
 | [.val (.int .i64) i,.val (.int .i64) n,.val (.sl false [.int .u8]) b,.val (.int .u32) c,.ptr p o],[.box cells]=>
  (p=640∧o=0∧n = .i b.list.length∧c = .i c.int∧0≤i.int∧i.int≤b.list.length∧0≤c.int∧c.int < 4294967296)∧bif wdB cells then k (.exit 0) ⟨[(6,vw (.i (fy c.int (b.list.drop i.int.toNat))))],[]⟩ else False
 | _,_=>False
noncomputable def uK:Ctx:=mkC PR bM aK (cw 82 [] CP aL) (aw 0 [13,12,11,6,5] [640] jU aC) (an 0 [6] [] aq) aq
theorem va (pan:KP) (μ:Mu) (N:Nat) (k:KE) (i b c:U) {e f d a g h} (_:e=(IntKind.bits IntKind.u32):=by rfl) (_:f=(IntKind.wrap .u32 (↑(BitVec.toNat (BitVec.ofInt e c.int ^^^ BitVec.ofInt e (IntKind.wrap .u32 (U.int (nth (.i 0) b.list i.int.toNat))))):Int)):=by rfl) (_:d=(IntKind.wrap .u32 (↑(BitVec.toNat (BitVec.ofInt e (dr (4:Nat) (Int.toNat f % (16:Nat))) ^^^ BitVec.ofInt e (Int.fdiv f ((2:Int) ^ min (Int.toNat 4) e)))):Int)):=by rfl) (_:a=(BitVec.toNat (BitVec.ofInt e (dr (4:Nat) (Int.toNat d % (16:Nat))) ^^^ BitVec.ofInt e (Int.fdiv d ((2:Int) ^ min (Int.toNat 4) e)))):=by rfl) (_:g=(b.list.length:Int):=by rfl) (_:h=(IntKind.wrap .u32 (↑a:Int)):=by rfl): (exec (uK.panics pan) (aa Tryz.f79 0) 0 ⟨[(13,vi i),(12,vi (.i b.list.length)),(11,vl (.int .u8) b),(6,vw c),(5,.ptr 640 0)],[(640,.box Ed)]⟩ (again PR (some ([6],[])) none pan [13,12,11,6,5] [640] jU μ N k))=(bif decide (i.int < g) then bif decide ((0:Int)≤i.int∧i.int < g) then (2097153=2097153∧0=0)∧(2097153=2097153∧0=0)∧bif Nat.blt (μ [vi (U.i (IntKind.wrap .i64 (i.int + 1))),vi (U.i g),.val (.sl false [.int .u8]) b,.val (.int .u32) (U.i h),.ptr 640 0] [.box [.val (.int .u32) (U.i 1),.val (.int .i32) (U.i 0),.val (.int .u32) (U.i 0),.val (.int .u32) (U.i 0),.val (.int .u32) (U.i 274646895),.val (.int .u32) (U.i 549293790),.val (.int .u32) (U.i 820201905),.val (.int .u32) (U.i 1098587580),.val (.int .u32) (U.i 1361435347),.val (.int .u32) (U.i 1640403810),.val (.int .u32) (U.i 1905808397),.val (.int .u32) (U.i 2197175160),.val (.int .u32) (U.i 2460548119),.val (.int .u32) (U.i 2722870694),.val (.int .u32) (U.i 2987750089),.val (.int .u32) (U.i 3280807620),.val (.int .u32) (U.i 3553878443),.val (.int .u32) (U.i 3811616794),.val (.int .u32) (U.i 4084100981)]]) N then (640=640∧0=0∧U.i g=U.i g∧U.i h=U.i h∧(0:Int)≤IntKind.wrap .i64 (i.int + 1)∧IntKind.wrap .i64 (i.int + 1)≤g∧(0:Int)≤IntKind.wrap .u32 (↑a:Int)∧IntKind.wrap .u32 (↑a:Int) < 4294967296)∧k (Ex.exit 0) (St.mk [(6,.val (.int .u32) (U.i (fy h (List.drop (Int.toNat (IntKind.wrap .i64 (i.int + 1))) b.list))))] []) else False else False else k (Ex.exit 0) (St.mk [(6,.val (.int .u32) c)] [])):=by subst_vars;kernel_rfl
theorem uk (pan:KP) (μ:Mu) (N:Nat) (k:KE) (i b c:U) {e f d a g h} (_:e=(IntKind.bits IntKind.u32):=by rfl) (_:f=(IntKind.wrap .u32 (↑(BitVec.toNat (BitVec.ofInt e c.int ^^^ BitVec.ofInt e (IntKind.wrap .u32 (U.int (nth (.i 0) b.list i.int.toNat))))):Int)):=by rfl) (_:d=(IntKind.wrap .u32 (↑(BitVec.toNat (BitVec.ofInt e (dr (4:Nat) (Int.toNat f % (16:Nat))) ^^^ BitVec.ofInt e (Int.fdiv f ((2:Int) ^ min (Int.toNat 4) e)))):Int)):=by rfl) (_:a=(BitVec.toNat (BitVec.ofInt e (dr (4:Nat) (Int.toNat d % (16:Nat))) ^^^ BitVec.ofInt e (Int.fdiv d ((2:Int) ^ min (Int.toNat 4) e)))):=by rfl) (_:g=(b.list.length:Int):=by rfl) (_:h=(IntKind.wrap .u32 (↑a:Int)):=by rfl): (exec (uK.panics pan) (aa Tryz.f79 0) 0 ⟨[(13,vi i),(12,vi (.i b.list.length)),(11,vl (.int .u8) b),(6,vw c),(5,.ptr 640 0)],[(640,.box AQ)]⟩ (again PR (some ([6],[])) none pan [13,12,11,6,5] [640] jU μ N k))=(bif decide (i.int < g) then bif decide ((0:Int)≤i.int∧i.int < g) then (2097153=2097153∧0=0)∧(2097153=2097153∧0=0)∧bif Nat.blt (μ [vi (U.i (IntKind.wrap .i64 (i.int + 1))),vi (U.i g),.val (.sl false [.int .u8]) b,.val (.int .u32) (U.i h),.ptr 640 0] [.box [.val (.int .u32) (U.i 1),.val (.int .i32) (U.i 0),.val (.int .u32) (U.i 0),.val (.int .u32) (U.i 0),.val (.int .u32) (U.i 274646895),.val (.int .u32) (U.i 549293790),.val (.int .u32) (U.i 820201905),.val (.int .u32) (U.i 1098587580),.val (.int .u32) (U.i 1361435347),.val (.int .u32) (U.i 1640403810),.val (.int .u32) (U.i 1905808397),.val (.int .u32) (U.i 2197175160),.val (.int .u32) (U.i 2460548119),.val (.int .u32) (U.i 2722870694),.val (.int .u32) (U.i 2987750089),.val (.int .u32) (U.i 3280807620),.val (.int .u32) (U.i 3553878443),.val (.int .u32) (U.i 3811616794),.val (.int .u32) (U.i 4084100981)]]) N then (640=640∧0=0∧U.i g=U.i g∧U.i h=U.i h∧(0:Int)≤IntKind.wrap .i64 (i.int + 1)∧IntKind.wrap .i64 (i.int + 1)≤g∧(0:Int)≤IntKind.wrap .u32 (↑a:Int)∧IntKind.wrap .u32 (↑a:Int) < 4294967296)∧k (Ex.exit 0) (St.mk [(6,.val (.int .u32) (U.i (fy h (List.drop (Int.toNat (IntKind.wrap .i64 (i.int + 1))) b.list))))] []) else False else False else k (Ex.exit 0) (St.mk [(6,.val (.int .u32) c)] [])):=by subst_vars;kernel_rfl
theorem A0 (R:RF) (s b:U):(run uK Tryz.f79 [[s],[b]] R)=((640=nat_lit 640∧nat_lit 0=nat_lit 0∧U.i (↑(List.length b.list):Int)=U.i (↑(List.length b.list):Int)∧U.i (ei IntKind.u32 s.int)=U.i (ei IntKind.u32 s.int)∧(0:Int)≤0∧(0 :
 Int)≤(↑(List.length b.list):Int)∧(0:Int)≤ei IntKind.u32 s.int∧ei IntKind.u32 s.int < 4294967296)∧R [[U.i (ei IntKind.u32 (fy (ei IntKind.u32 s.int) (List.drop (Int.toNat 0)
 b.list)))]]):=by kernel_rfl
noncomputable def Hw:Ctx:=mkC PR bM (aH 79 yK aK) aL aC aq aq
theorem EJ (R:RF) (b:U):(run Hw Tryz.f68 [[b]] R)=(R [[U.i (n7 0 b.list)]]):=by kernel_rfl
end Go.Mat

namespace Go.Mat
open Go Go.Den Go.Proofs
set_option maxRecDepth 100000
theorem ER {a b:SV} (h:DN a b=true):a=b:=by
 unfold DN at h
 split at h
 ·rw [Bool.and_eq_true] at h
  rw [g9 h.1,of_decide_eq_true h.2]
 ·cases h
theorem qk:∀ {l m:List SV},vC l m=true→l=m
 | [],[],_=>rfl
 | a :: r,b :: s,h=>by
  unfold vC at h
  rw [Bool.and_eq_true] at h
  rw [ER h.1,qk h.2]
 | [],_ :: _,h=>by cases h
 | _ :: _,[],h=>by cases h
theorem Ds {l:List SV} (h:wdB l=true):l=Ed∨l=AQ:=by
 unfold wdB at h
 rw [Bool.or_eq_true] at h
 exact h.imp qk qk
def svV:SV→Value
 | .val (.int k) (.i n)=>.int k n
 | _=>undef
def Eu:SV→Bool
 | .val (.int k) (.i n)=>decide (k.min≤n) && decide (n≤k.max)
 | _=>false
theorem Cl {a:SV} (h:Eu a=true):∃ k n,a = .val (.int k) (.i n)∧k.min≤n∧n≤k.max:=by
 unfold Eu at h
 split at h
 ·rename_i k n
  rw [Bool.and_eq_true] at h
  exact ⟨k,n,rfl,of_decide_eq_true h.1,of_decide_eq_true h.2⟩
 ·cases h
theorem yW {w:World} {Z:Nat→Prop} {G:Nat→Value}:∀ {l:List SV} {vs:List Value},l.all Eu=true→ab w Z G l vs→vs=l.map svV
 | [],vs,_,h=>h
 | a :: l,vs,hl,h=>by
  rw [List.all_cons,Bool.and_eq_true] at hl
  obtain ⟨k,n,rfl,_,_⟩:=Cl hl.1
  obtain ⟨v,r,rfl,h1,h2⟩:=h
  have h1:v = .int k n:=h1.1
  rw [h1,yW hl.2 h2]
  rfl
theorem yI {w:World} {Z:Nat→Prop} {G:Nat→Value}:∀ {l:List SV},l.all Eu=true→ab w Z G l (l.map svV)
 | [],_=>rfl
 | a :: l,hl=>by
  rw [List.all_cons,Bool.and_eq_true] at hl
  obtain ⟨k,n,rfl,h1,h2⟩:=Cl hl.1
  exact ⟨_,_,rfl,⟨rfl,h1,h2⟩,yI hl.2⟩
theorem me {w:World} {b k:Nat} {C:Array Value} {t:TypeId} {z:Nat × Nat} (h:w.heap[b]? = some (.cells C t z)):w.cell? ⟨b,k,none⟩=C[k]?:=by
 unfold World.cell?
 simp only [h]
 rfl
theorem EW {w:World} {b k:Nat} {C:Array Value} {t:TypeId} (h:w.heap[b]? = some (.cells C t (0,0))):w.frozen? ⟨b,k,none⟩=false:=by
 unfold World.frozen?
 simp [h]
def Ey (C:Array Value):Array Value:=((C5 (C.setIfInBounds (0 + 1) (.int .i32 1)) 16).setIfInBounds 0 (.int .u32 1)).setIfInBounds (0 + 1) (.int .i32 0)
theorem FC {w:World} {b:Nat} {C:Array Value} {t:TypeId} {z:Nat × Nat} (h:w.heap[b]? = some (.cells C t z)):(gb b 0 w).heap[b]? = some (.cells (Ey C) t z):=by
 have h2:=Em (oS (j:=0 + 1) (v:=.int .i32 1) h) 16
 unfold gb Ey
 generalize fZ b 0 cS 16 (w.setCell ⟨b,0 + 1,none⟩ (.int .i32 1))=w2 at h2 ⊢
 generalize C5 (C.setIfInBounds (0 + 1) (.int .i32 1)) 16=C2 at h2 ⊢
 have h3:w2.drew.heap[b]? = some (.cells C2 t z):=h2
 exact oS (oS h3)
theorem xj {w:World} {b k:Nat} (hne:k≠b):(gb b 0 w).heap[k]? = w.heap[k]?:=by
 unfold gb
 have h2:=mK (w:=w.setCell ⟨b,0 + 1,none⟩ (.int .i32 1)) hne 16
 rw [lV hne] at h2
 generalize fZ b 0 cS 16 (w.setCell ⟨b,0 + 1,none⟩ (.int .i32 1))=w2 at h2 ⊢
 rw [lV hne,lV hne]
 exact h2
theorem Br {w:World} {b:Nat}:(gb b 0 w).heap.size=w.heap.size:=by
 unfold gb
 have h2:=rf (b:=b) (w:=w.setCell ⟨b,0 + 1,none⟩ (.int .i32 1)) 16
 generalize fZ b 0 cS 16 (w.setCell ⟨b,0 + 1,none⟩ (.int .i32 1))=w2 at h2 ⊢
 rw [World.size_setCell,World.size_setCell,World.size_drew,h2,World.size_setCell]
theorem vy {w:World} {b:Nat}:∀ n,(fZ b 0 cS n w).os=w.os∧(fZ b 0 cS n w).tape=w.tape∧(fZ b 0 cS n w).output=w.output
 | 0=>⟨rfl,rfl,rfl⟩
 | n + 1=>vy n
theorem Bw {w:World} {b:Nat}:(gb b 0 w).os=w.os∧(gb b 0 w).tape=w.tape∧(gb b 0 w).output=w.output:=by
 unfold gb
 have h2:=vy (b:=b) (w:=w.setCell ⟨b,0 + 1,none⟩ (.int .i32 1)) 16
 generalize fZ b 0 cS 16 (w.setCell ⟨b,0 + 1,none⟩ (.int .i32 1))=w2 at h2 ⊢
 exact h2
def Ag:Array Value:=(Ed.map svV).toArray
def wv:Array Value:=(AQ.map svV).toArray
theorem FE:Ey Ag=wv:=by kernel_rfl
theorem HN:Ag[0]? = some (.int .u32 0):=by kernel_rfl
theorem IH:Ag[1]? = some (.int .i32 0):=by kernel_rfl
theorem IG:Ag.size=19:=by kernel_rfl
theorem HP:wv[0]? = some (.int .u32 1):=by kernel_rfl
theorem El:((List.range 16).map fun k=>wv[3 + k]?)=(List.range 16).map fun k=>some (cS k):=by kernel_rfl
theorem Hz (k:Nat) (hk:k < 16):wv[3 + k]? = some (cS k):=by
 have h:=congrArg (fun l=>l[k]?) El
 simp only [List.getElem?_map,List.getElem?_range hk,Option.map_some,Option.some.injEq] at h
 exact h
theorem vH {w:World} {b:Nat} {m:Nat} {t:TypeId} (h:w.heap[b]? = some (.cells Ag t (0,0))) (hb:b < w.heap.size) :
  Calls PR 82 #[.pointer (some ⟨b,0,none⟩),.int .u32 m] w fun e w'=>e = .returned (cS (m % 16))∧w'.heap[b]? = some (.cells wv t (0,0))∧Fut (· = b) w w':=by
 refine (Dd b m w hb ((me h).trans HN) ((me h).trans IH) (fun k hk=>?_) (EW h) (EW h) (fun k _=>EW h)).mono ?_
 ·rw [me h]
  exact ⟨_,Array.getElem?_eq_getElem (by rw [IG];omega)⟩
 ·rintro e w' ⟨he,hw⟩
  refine ⟨he,?_⟩
  rw [hw]
  generalize hw1:w.alloc (.cells #[.pointer (some ⟨b,0,none⟩)] 142)=w1
  have h1:w1.heap[b]? = some (.cells Ag t (0,0)):=by rw [← hw1];exact (heap_alloc_old _ _ hb).trans h
  have hs:w1.heap.size=w.heap.size + 1:=by rw [← hw1];simp
  have hr:=Bw (w:=w1) (b:=b)
  refine ⟨by rw [FC h1,FE],?_,?_,?_,by rw [Br,hs];omega,fun k hk hne=>?_⟩
  ·rw [hr.1,← hw1];rfl
  ·rw [hr.2.1,← hw1];rfl
  ·rw [hr.2.2,← hw1];rfl
  ·rw [xj hne,← hw1];exact heap_alloc_old _ _ hk
theorem wH {w:World} {b:Nat} {m:Nat} {t:TypeId} (h:w.heap[b]? = some (.cells wv t (0,0))) (hb:b < w.heap.size) :
  Calls PR 82 #[.pointer (some ⟨b,0,none⟩),.int .u32 m] w fun e w'=>e = .returned (cS (m % 16))∧w'.heap[b]? = some (.cells wv t (0,0))∧Fut (· = b) w w':=by
 refine (Ep b m w hb ((me h).trans HP) (fun k hk=>(me h).trans (Hz k hk))).mono ?_
 rintro e w' ⟨he,hw⟩
 refine ⟨he,?_⟩
 rw [hw]
 exact ⟨(heap_alloc_old _ _ hb).trans h,rfl,rfl,rfl,by rw [World.size_alloc];omega,fun k hk _=>heap_alloc_old _ _ hk⟩
theorem yt {w:World} {b:Nat} {m:Nat} {t:TypeId} {cs:List SV} (h:w.heap[b]? = some (.cells (cs.map svV).toArray t (0,0))) (hb:b < w.heap.size) (hw:cs=Ed∨cs=AQ) :
  Calls PR 82 #[.pointer (some ⟨b,0,none⟩),.int .u32 m] w fun e w'=>e = .returned (cS (m % 16))∧w'.heap[b]? = some (.cells wv t (0,0))∧Fut (· = b) w w':=by
 rcases hw with rfl | rfl
 ·exact vH h hb
 ·exact wH h hb
theorem C8:∀ r,r < 16→IntKind.min .u32≤dr 4 r∧dr 4 r≤IntKind.max .u32:=by decide
theorem Fi:ee PR 82 CP:=fun fn hfn=>by
 have hf:PR.funcs[(82:Nat)]? = some Tryz.f82:=by kernel_rfl
 rw [hf] at hfn;cases hfn
 refine { body:=by kernel_rfl,name:=by kernel_rfl,calls:=?_ }
 intro vs objs R hcan hF w Z G args hargs hst
 unfold CP at hF
 split at hF
 ·rename_i i off u j cells
  obtain ⟨⟨rfl,rfl⟩,hF⟩:=hF
  cases hw:wdB cells with
  | false=>rw [hw] at hF;exact hF.elim
  | true=>
   rw [hw,cond_true] at hF
   have hor:=Ds hw
   have hall:cells.all Eu=true:=by rcases hor with rfl | rfl<;>decide
   obtain ⟨pv,t1,rfl,hp,uv,t2,rfl,hu,ht2⟩:=hargs
   have ht2:t2=[]:=ht2
   subst ht2
   obtain ⟨b,hG,rfl⟩:=hp
   obtain ⟨hu1,hu2,hu3⟩:=hu
   have hg1:az [(i,Obj.box cells)] i=some (.box cells):=by simp [az]
   have only:∀ (cs:List SV) (k:Nat) (o:Den.Obj),az [(i,Obj.box cs)] k=some o→k=i∧o = .box cs:=by
    intro cs k o h
    rw [ba] at h
    split at h
    ·rename_i e;cases h;exact ⟨e.symm,rfl⟩
    ·cases h
   obtain ⟨b',ty,c,hG',hheap,hc⟩:=hst.obj i _ hg1
   rw [hG] at hG'
   cases hG'
   have hu2:(0:Int)≤u.int:=hu2
   have hlt:b < w.heap.size:=(Array.getElem?_eq_some_iff.1 hheap).1
   have hcl:c.toList=cells.map svV:=yW hall hc
   have hheap2:w.heap[b]? = some (.cells (cells.map svV).toArray ty (0,0)):=by rw [hheap,← hcl]
   have huv:uv = .int .u32 (u.int.toNat:Nat):=by rw [hu1];congr 1;omega
   have hblk:bH G [(i,Obj.box cells)] b:=⟨i,_,hg1,by rw [hG];rfl⟩
   rw [huv]
   refine (yt (m:=u.int.toNat) hheap2 hlt hor).mono fun e w' ⟨he,hh,hfut⟩=>?_
   have hin:=C8 _ (Nat.mod_lt u.int.toNat (by decide:0 < 16))
   refine ⟨_,_,Z,G,hF,⟨_,he,rfl,hin.1,hin.2⟩,?_⟩
   exact {
    stand:={
     lt:=fun k hk=>Nat.lt_of_lt_of_le (hst.lt k hk) hfut.size
     flat:=hst.flat
     obj:=fun k o ho=>by
      obtain ⟨rfl,rfl⟩:=only _ _ _ ho
      exact ⟨b,ty,_,hG,hh,yI (by decide)⟩
     sep:=fun k k' o o' c' h1 h2 _ _=>by rw [(only _ _ _ h1).1,(only _ _ _ h2).1]
     free:=fun k o c' h1 h2=>by
      obtain ⟨rfl,rfl⟩:=only _ _ _ h1
      exact hst.free k _ c' hg1 h2 }
    fut:=⟨hfut.os,hfut.tape,hfut.output,hfut.size,fun k hk hnb=>hfut.block k hk fun e=>hnb (by rw [show k=b from e];exact hblk)⟩
    sub:=fun _ h=>h
    new:=fun _ h=>.inl h
    row:=fun _ h=>.inl h
    own:=fun k o c' h1 h2=>by
     obtain ⟨rfl,rfl⟩:=only _ _ _ h1
     rw [hG] at h2
     have h2:some b=some c':=h2
     injection h2 with h2
     subst h2
     exact .inl hblk
    keep:=fun _ _ _ _=>rfl }
 ·exact hF.elim
theorem HL:∀ r:Nat,r < 16→BitVec.ofInt 32 (dr 4 r)=qD (BitVec.ofNat 32 r):=by decide
theorem Is {x:Int} (h0:0≤x) (h1:x < 4294967296):c8 4 x=((qD (BitVec.ofInt 32 x)).toNat:Int):=by
 have e:∀ c:BitVec 32,gW (c.toNat:Int)=((dj c).toNat:Int):=fun c=>by
  unfold gW
  rw [BitVec.ofInt_natCast,BitVec.ofNat_toNat,BitVec.setWidth_eq]
 show gW (gW (gW (gW x)))=_
 rw [show x=((BitVec.ofInt 32 x).toNat:Int) from (CX h0 h1).symm,e,e,e,e]
 rw [BitVec.ofInt_natCast,BitVec.ofNat_toNat,BitVec.setWidth_eq]
 rfl
theorem ou {x:Int} (h0:0≤x) (h1:x < 4294967296) :
  IntKind.wrap .u32 ((BitVec.ofInt (IntKind.bits .u32) (dr 4 (x.toNat % 16)) ^^^ BitVec.ofInt (IntKind.bits .u32) (Int.fdiv x ((2:Int) ^ min (Int.toNat 4) (IntKind.bits .u32)))).toNat:Int)=c8 4 x:=by
 rw [show IntKind.bits .u32=32 from rfl,so,show min (Int.toNat 4) 32=4 from rfl,xf h0 h1,Is h0 h1,HL _ (Nat.mod_lt _ (by decide)),DP (BitVec.ofInt 32 x)]
 have e:BitVec.ofInt 32 x &&& 15#32=BitVec.ofNat 32 (x.toNat % 16):=by
  refine BitVec.eq_of_toNat_eq ?_
  have hx:(BitVec.ofInt 32 x).toNat=x.toNat:=by
   have:=CX h0 h1
   omega
  rw [BitVec.toNat_and,hx,show (15#32).toNat=2 ^ 4 - 1 from rfl,Nat.and_two_pow_sub_one_eq_mod,BitVec.toNat_ofNat]
  omega
 rw [e,BitVec.ofInt_natCast,BitVec.ofNat_toNat,BitVec.setWidth_eq]
theorem AW:aE uK 0 (aa Tryz.f79 0):=by
 refine al (F:=jU) (ts:=[13,12,11,6,5]) (os:=[640]) rfl (fun svs _=>match svs with | .val _ i :: .val _ n :: _=>(n.int - i.int).toNat | _=>0) ?_
 intro pan svs os k ho1 ho2 h
 unfold jU at h
 split at h
 ·rename_i i n b c p o cells
  obtain ⟨⟨rfl,rfl,rfl,hc',h0,hi,hc0,hc1⟩,hk⟩:=h
  have hb:b.list.length≤maxLen:=ho1.2.2.1.1
  have main:∀ {p q r:Prop},(i.int < b.list.length→p)→(¬ i.int < b.list.length→q)→(bif decide (i.int < (b.list.length:Int)) then bif decide ((0:Int)≤i.int∧i.int < (b.list.length:Int)) then p else r else q):=
   fun h1 h2=>bd (fun hlt=>dt ⟨h0,hlt⟩ (h1 hlt)) h2
  cases hw:wdB cells with
  | false=>rw [hw] at hk;exact hk.elim
  | true=>
   rw [hw,cond_true] at hk
   have hy:=vS c.int (U.at b.list i.int.toNat).int
   have hwi:i.int < b.list.length→IntKind.wrap .i64 (i.int + 1)=i.int + 1:=fun hlt=>i64_in (by omega) (by unfold maxLen at hb;omega)
   have hcn:(i.int + 1).toNat=i.int.toNat + 1:=by omega
   have e8:∀ z:Int,c8 4 (c8 4 z)=c8 8 z:=fun z=>rfl
   have hk1:i.int < b.list.length→k (.exit 0) ⟨[(6,vw (.i (fy (zB c.int (U.at b.list i.int.toNat).int) (b.list.drop (i.int.toNat + 1)))))],[]⟩:=fun hlt=>by
    rw [aN (by omega),fy] at hk
    exact hk
   have hk2:¬ i.int < b.list.length→k (.exit 0) ⟨[(6,vw c)],[]⟩:=fun hlt=>by
    rw [List.drop_of_length_le (by omega),fy,← hc'] at hk
    exact hk
   rcases Ds hw with rfl | rfl
   ·refine .eq (va pan _ _ k i b c) ?_
    refine main (fun hlt=>⟨⟨by trivial,by trivial⟩,⟨by trivial,by trivial⟩,?_⟩) hk2
    rw [ou (gm _).1 (gm _).2,ou (gm _).1 (gm _).2,e8,hwi hlt,hcn]
    exact blt (by simp only [U.int_i];omega) ⟨⟨by trivial,by trivial,by trivial,by trivial,by omega,by omega,hy.1,hy.2⟩,hk1 hlt⟩
   ·refine .eq (uk pan _ _ k i b c) ?_
    refine main (fun hlt=>⟨⟨by trivial,by trivial⟩,⟨by trivial,by trivial⟩,?_⟩) hk2
    rw [ou (gm _).1 (gm _).2,ou (gm _).1 (gm _).2,e8,hwi hlt,hcn]
    exact blt (by simp only [U.int_i];omega) ⟨⟨by trivial,by trivial,by trivial,by trivial,by omega,by omega,hy.1,hy.2⟩,hk1 hlt⟩
 ·exact h.elim
theorem FB:bB PR 79 yK:=fun fn us hfn=>by
 have hf:PR.funcs[(79:Nat)]? = some Tryz.f79:=by kernel_rfl
 rw [hf] at hfn;cases hfn
 refine aM (C:=uK) (aB ao af .nil (.cons Fi .nil)) hf (by kernel_rfl) (aW (by kernel_rfl) AW) fun hok=>?_
 have hp:Tryz.f79.params.toList=[44,30]:=by kernel_rfl
 rw [hp] at hok
 obtain ⟨s,b,hus⟩:=rZ hok.1
 subst hus
 refine .eq (A0 _ s b) ?_
 exact ⟨⟨by trivial,by trivial,by trivial,by trivial,by omega,by omega,(mG _).1,(mG _).2⟩,rfl⟩
theorem IJ:bB PR 68 Fe:=fun fn us hfn=>by
 have hf:PR.funcs[(68:Nat)]? = some Tryz.f68:=by kernel_rfl
 rw [hf] at hfn;cases hfn
 refine aM (C:=Hw) (aB ao af (.cons FB .nil) .nil) hf (by kernel_rfl) (aI (by kernel_rfl)) fun hok=>?_
 have hp:Tryz.f68.params.toList=[30]:=by kernel_rfl
 rw [hp] at hok
 obtain ⟨b,hus⟩:=gN hok.1
 subst hus
 exact .eq (EJ _ b) rfl
end Go.Mat

namespace Go.Mat
open Go Go.Den Go.Proofs
def lOk:List U→Bool
 | []=>false
 | x :: r=>bif x.int == 255 then lOk r else true
def lK:List U→Nat
 | []=>0
 | x :: r=>bif x.int == 255 then lK r + 1 else 1
def lN:List U→Int→Int
 | [],n=>n
 | x :: r,n=>bif x.int == 255 then lN r (n + 255) else n + x.int
def hOk (h:Int) (r:List U):Bool:=bif decide (h < 15) then true else lOk r
def hK (h:Int) (r:List U):Nat:=bif decide (h < 15) then 0 else lK r
def hN (h:Int) (r:List U):Int:=bif decide (h < 15) then h else lN r h
noncomputable def K62:Ctx:=mkC PR bM aK aL aC aq aq
def CL:List (List U)→List (List U):=fun us=>[[.l (nth (.i 0) (nth [] us 0) 0).list]]
def yx:List (List U)→Prop:=fun us=>(nth (.i 0) (nth [] us 0) 0).list.length≤1073741824
theorem xg (R:RF) (b:U):(run K62 Tryz.f66 [[b]] R)=(nK (U.list (U.at [b] (0:Nat))=[]) (R [[U.l []]]) (bif decide ((0:Nat) + List.length b.list≤room) && true then R [[U.l ([] ++ b.list)]] else False)):=by kernel_rfl
abbrev HH (a:Int) (b:U):bX:=[(2097153,.box [vi (.i a)]),(2097281,.box [vl (.int .u8) b])]
noncomputable def zd:Tr:=fun vs objs k=>match vs,objs with
 | [.ptr pa oa,.ptr pb ob],[(ia,.box [.val (.int .i64) a]),(ib,.box [.val (.sl false [.int .u8]) b])]=>
  (pa=2097153∧oa=0∧pb=2097281∧ob=0∧ia=2097153∧ib=2097281∧0≤a.int∧b.list.length≤1099511627776)∧
  (bif decide (a.int < (b.list.length:Int)) then k (.ret [.val (.int .u8) (U.at b.list a.int.toNat),vb (.b true)]) (HH (a.int + 1) b) else k (.ret [.val (.int .u8) (.i 0),vb (.b false)]) [(2097153,.box [vi a]),(2097281,.box [vl (.int .u8) b])])
 | _,_=>False
theorem zK (R:RT) (a b:U) {c d} (_:c=(IntKind.wrap IntKind.i64 (a.int + 1) - 1):=by rfl) (_:d=(2097281,Obj.box [SV.val (Ct.sl false [.int .u8]) b]):=by rfl): (jP K62 Tryz.f77 [.ptr 2097153 0,.ptr 2097281 0] [(2097153,.box [vi a]),(2097281,.box [vl (.int .u8) b])] R)=(bif decide (a.int ≥ (↑(List.length b.list):Int)) then R (Out.ret [SV.val (.int .u8) (U.i 0),SV.val Ct.bool (U.b false)]) [(2097153,Obj.box [vi a]),d] else bif decide ((0:Int)≤IntKind.wrap IntKind.i64 c∧IntKind.wrap IntKind.i64 c < (↑(List.length b.list):Int)) then R (Out.ret [SV.val (.int .u8) (nth (U.i 0) b.list (Int.toNat (IntKind.wrap IntKind.i64 c))),SV.val Ct.bool (U.b true)]) [(2097153,Obj.box [vi (U.i (IntKind.wrap IntKind.i64 (a.int + 1)))]),d] else False):=by subst_vars;kernel_rfl
abbrev ld (a b:Nat):SV:=.clo 77 [.ptr a 0,.ptr b 0]
abbrev sq (a:Int) (b:U):bX:=[(2097153,.box [ld 2097281 2097409]),(2097281,.box [vi (.i a)]),(2097409,.box [vl (.int .u8) b])]
noncomputable def Ij:Tr:=fun vs objs k=>match vs,objs with
 | [.val (.int .i64) n,.ptr p o],[(i0,.box [.clo f [.ptr pa oa,.ptr pb ob]]),(ia,.box [.val (.int .i64) a]),(ib,.box [.val (.sl false [.int .u8]) b])]=>
  (p=2097153∧o=0∧f=77∧pa=2097281∧oa=0∧pb=2097409∧ob=0∧i0=2097153∧ia=2097281∧ib=2097409∧n = .i n.int∧a = .i a.int∧0≤a.int∧a.int≤b.list.length∧b.list.length≤1099511627776∧0≤n.int∧n.int≤15)∧
  (bif hOk n.int (b.list.drop a.int.toNat) then k (.ret [vi (.i (hN n.int (b.list.drop a.int.toNat))),vb (.b true)]) (sq (a.int + hK n.int (b.list.drop a.int.toNat)) b)
    else ∀ x:U,k (.ret [vi (.i 0),vb (.b false)]) [(2097153,.box [ld 2097281 2097409]),(2097281,.box [vi x]),(2097409,.box [vl (.int .u8) b])])
 | _,_=>False
noncomputable def oF:aS:=fun _ svs os k=>match svs,os with
 | [.val (.int .i64) n,.val (.int .u8) x,.ptr p o],[.box [.clo f [.ptr pa oa,.ptr pb ob]],.box [.val (.int .i64) a],.box [.val (.sl false [.int .u8]) b]]=>
  (p=2097153∧o=0∧f=77∧pa=2097281∧oa=0∧pb=2097409∧ob=0∧n = .i n.int∧0≤a.int∧a = .i a.int∧a.int≤b.list.length∧b.list.length≤1099511627776∧0≤n.int∧n.int≤15 + 255 * a.int)∧
  (bif decide (n.int < 15) || !(x.int == 255) then k (.exit 0) ⟨[(0,vi n),(1,.ptr 2097153 0)],[(2097153,.box [ld 2097281 2097409]),(2097281,.box [vi a]),(2097409,.box [vl (.int .u8) b])]⟩
    else bif lOk (b.list.drop a.int.toNat) then k (.exit 0) ⟨[(0,vi (.i (lN (b.list.drop a.int.toNat) n.int))),(1,.ptr 2097153 0)],sq (a.int + lK (b.list.drop a.int.toNat)) b⟩
    else ∀ y:U,k .ret ⟨[(3,vi (.i 0)),(4,vb (.b false))],[(2097153,.box [ld 2097281 2097409]),(2097281,.box [vi y]),(2097409,.box [vl (.int .u8) b])]⟩)
 | _,_=>False
noncomputable def Fm:Ctx:=mkC PR bM aK (cw 77 [] zd aL) (aw 0 [0,5,1] [2097153,2097281,2097409] oF aC)
 (an 1048576 [3,4] [2097153,2097281,2097409] (an 0 [0,1] [2097153,2097281,2097409] aq)) aq
theorem Aa (pan:KP) (μ:Mu) (N:Nat) (k:KE) (n x a b:U) {j c d e f g h} (_:j=(nth (.i 0) b.list a.int.toNat):=by rfl) (_:c=(n.int + IntKind.wrap .i64 (U.int j)):=by rfl) (_:d=(2097153,.box [.clo 77 [.ptr 2097281 0,.ptr 2097409 0]]):=by rfl) (_:e=(2097409,.box [.val (.sl false [.int .u8]) b]):=by rfl) (_:f=(List.drop (Int.toNat (a.int + 1)) b.list):=by rfl) (_:g=(IntKind.wrap .i64 c):=by rfl) (_:h=(St.mk [(0,vi n),(1,.ptr 2097153 0)] [d,(2097281,.box [vi a]),e]):=by rfl): (exec (Fm.panics pan) (aa Tryz.f78 0) 0 ⟨[(0,vi n),(5,.val (.int .u8) x),(1,.ptr 2097153 0)],[(2097153,.box [ld 2097281 2097409]),(2097281,.box [vi a]),(2097409,.box [vl (.int .u8) b])]⟩ (again PR (some ([0,1],[2097153,2097281,2097409])) (some ([3,4],[2097153,2097281,2097409])) pan [0,5,1] [2097153,2097281,2097409] oF μ N k))=(bif decide (n.int ≥ 15) then bif x.int == 255 then (2097153=2097153∧0=0∧2097281=2097281∧0=0∧2097153=2097153∧2097281=2097281∧(0:Int)≤a.int∧b.list.length≤(1099511627776:Nat))∧bif decide (a.int < (b.list.length:Int)) then bif Nat.blt (μ [vi (U.i g),.val (.int .u8) j,.ptr 2097153 0] [.box [.clo 77 [.ptr 2097281 0,.ptr 2097409 0]],.box [vi (U.i (a.int + 1))],.box [.val (.sl false [.int .u8]) b]]) N then (2097153=2097153∧0=0∧77=77∧2097281=2097281∧0=0∧2097409=2097409∧0=0∧U.i g=U.i g∧(0:Int)≤a.int + 1∧U.i (a.int + 1)=U.i (a.int + 1)∧a.int + (1:Int)≤(b.list.length:Int)∧b.list.length≤(1099511627776:Nat)∧(0:Int)≤IntKind.wrap .i64 c∧IntKind.wrap .i64 c≤15 + 255 * (a.int + 1))∧bif decide (IntKind.wrap .i64 c < 15) || !U.int j == 255 then k (Ex.exit 0) (St.mk [(0,vi (U.i g)),(1,.ptr 2097153 0)] [d,(2097281,.box [vi (U.i (a.int + 1))]),e]) else bif lOk f then k (Ex.exit 0) (St.mk [(0,vi (U.i (lN f g))),(1,.ptr 2097153 0)] [d,(2097281,.box [vi (U.i (a.int + 1 + (↑(lK f):Int)))]),e]) else ∀ (y:U),k Ex.ret (St.mk [(3,vi (U.i 0)),(4,.val .bool (U.b false))] [d,(2097281,.box [vi y]),e]) else False else k Ex.ret (St.mk [(3,vi (U.i 0)),(4,.val .bool (U.b false))] [d,(2097281,.box [vi a]),e]) else k (Ex.exit 0) h else k (Ex.exit 0) h):=by subst_vars;kernel_rfl
theorem B8 (R:RT) (n a b:U) {c d e} (_:c=(2097153,Obj.box [SV.clo 77 [SV.ptr 2097281 0,SV.ptr 2097409 0]]):=by rfl) (_:d=(2097409,Obj.box [SV.val (Ct.sl false [.int .u8]) b]):=by rfl) (_:e=(List.drop (Int.toNat a.int) b.list):=by rfl): (jP Fm Tryz.f78 [vi n,.ptr 2097153 0] [(2097153,.box [ld 2097281 2097409]),(2097281,.box [vi a]),(2097409,.box [vl (.int .u8) b])] R)=((2097153=nat_lit 2097153∧nat_lit 0=nat_lit 0∧nat_lit 77=nat_lit 77∧nat_lit 2097281=nat_lit 2097281∧nat_lit 0=nat_lit 0∧nat_lit 2097409=nat_lit 2097409∧nat_lit 0=nat_lit 0∧n=U.i n.int∧(0:Int)≤a.int∧a=U.i a.int∧a.int≤(↑(List.length b.list):Int)∧List.length b.list≤(1099511627776:Nat)∧(0:Int)≤n.int∧n.int≤15 + 255 * a.int)∧bif decide (n.int < 15) || !(255:Int) == 255 then R (Out.ret [vi n,SV.val Ct.bool (U.b true)]) [c,(2097281,Obj.box [vi a]),d] else bif lOk e then R (Out.ret [vi (U.i (lN e n.int)),SV.val Ct.bool (U.b true)]) [c,(2097281,Obj.box [vi (U.i (a.int + (↑(lK e):Int)))]),d] else ∀ (y:U),R (Out.ret [vi (U.i 0),SV.val Ct.bool (U.b false)]) [c,(2097281,Obj.box [vi y]),d]):=by subst_vars;kernel_rfl
def yQ:List (List U)→Prop:=fun us=>nth (.i 0) (nth [] us 1) 0 = .i (nth (.i 0) (nth [] us 1) 0).int∧nth (.i 0) (nth [] us 2) 0 = .i (nth (.i 0) (nth [] us 2) 0).int∧0≤(nth (.i 0) (nth [] us 1) 0).int∧(nth (.i 0) (nth [] us 1) 0).int≤(nth (.i 0) (nth [] us 0) 0).list.length∧(nth (.i 0) (nth [] us 0) 0).list.length≤1099511627776∧0≤(nth (.i 0) (nth [] us 2) 0).int∧(nth (.i 0) (nth [] us 2) 0).int≤15
def mQ (b:List U) (a:Int) (h:Int):Bool × Int × Int:=bif hOk h (b.drop a.toNat) then (true,hN h (b.drop a.toNat),a + hK h (b.drop a.toNat)) else (false,0,0)
def Cc:List (List U)→List (List U):=fun us=>[[.i (mQ (nth (.i 0) (nth [] us 0) 0).list (nth (.i 0) (nth [] us 1) 0).int (nth (.i 0) (nth [] us 2) 0).int).2.1],[.i (mQ (nth (.i 0) (nth [] us 0) 0).list (nth (.i 0) (nth [] us 1) 0).int (nth (.i 0) (nth [] us 2) 0).int).2.2],
 [.b (mQ (nth (.i 0) (nth [] us 0) 0).list (nth (.i 0) (nth [] us 1) 0).int (nth (.i 0) (nth [] us 2) 0).int).1]]
noncomputable def ma:aS:=fun _ svs os k=>match svs,os with
 | [.val (.int .i64) a,.val (.int .i64) n,.val (.sl false [.int .u8]) b],[]=>
  (0≤a.int∧a.int≤b.list.length∧b.list.length≤1099511627776∧0≤n.int∧n.int≤15 + 255 * a.int)∧
  (bif lOk (b.list.drop a.int.toNat) then k .ret ⟨[(6,vi (.i (lN (b.list.drop a.int.toNat) n.int))),(7,vi (.i (a.int + lK (b.list.drop a.int.toNat)))),(8,vb (.b true))],[]⟩ else k (.exit 0) ⟨[],[]⟩)
 | _,_=>False
noncomputable def zy:Ctx:=mkC PR bM aK aL (aw 0 [1,9,0] [] ma aC) (an 1048576 [6,7,8] [] (an 0 [] [] aq)) aq
theorem xd (pan:KP) (μ:Mu) (N:Nat) (k:KE) (a n b:U) {c f d e g h} (_:c=(n.int + IntKind.wrap .i64 (U.int (nth (.i 0) b.list a.int.toNat))):=by rfl) (_:f=(IntKind.wrap .i64 (a.int + 1)):=by rfl) (_:d=(List.drop (Int.toNat f) b.list):=by rfl) (_:e=(IntKind.wrap .i64 (a.int + 1) - 1):=by rfl) (_:g=(b.list.length:Int):=by rfl) (_:h=(IntKind.wrap .i64 c):=by rfl): (exec (zy.panics pan) (aa Tryz.f80 0) 0 ⟨[(1,vi a),(9,vi n),(0,vl (.int .u8) b)],[]⟩ (again PR (some ([],[])) (some ([6,7,8],[])) pan [1,9,0] [] ma μ N k))=(bif decide (a.int < g) then bif decide ((0:Int)≤a.int∧a.int < g) then bif decide ((0:Int)≤IntKind.wrap .i64 e∧IntKind.wrap .i64 e < g) then bif U.int (nth (.i 0) b.list (Int.toNat (IntKind.wrap .i64 e))) != 255 then k Ex.ret (St.mk [(6,vi (U.i h)),(7,vi (U.i f)),(8,.val .bool (U.b true))] []) else bif Nat.blt (μ [vi (U.i f),vi (U.i h),.val (.sl false [.int .u8]) b] []) N then ((0:Int)≤IntKind.wrap .i64 (a.int + 1)∧IntKind.wrap .i64 (a.int + 1)≤g∧b.list.length≤(1099511627776:Nat)∧(0:Int)≤IntKind.wrap .i64 c∧IntKind.wrap .i64 c≤15 + 255 * IntKind.wrap .i64 (a.int + 1))∧bif lOk d then k Ex.ret (St.mk [(6,vi (U.i (lN d h))),(7,vi (U.i (IntKind.wrap .i64 (a.int + 1) + (↑(lK d):Int)))),(8,.val .bool (U.b true))] []) else k (Ex.exit 0) (St.mk [] []) else False else False else False else k (Ex.exit 0) (St.mk [] [])):=by subst_vars;kernel_rfl
theorem Bg (R:RF) (b a h:U):(run zy Tryz.f80 [[b],[a],[h]] R)=(bif decide (h.int < 15) then R [[h],[a],[U.b true]] else ((0:Int)≤a.int∧a.int≤(↑(List.length b.list):Int)∧List.length b.list≤(1099511627776:Nat)∧(0:Int)≤15∧(15:Int)≤15 + 255
 * a.int)∧bif lOk (List.drop (Int.toNat a.int) b.list) then R [[U.i (lN (List.drop (Int.toNat a.int) b.list) 15)],[U.i (a.int + (↑(lK (List.drop (Int.toNat a.int) b.list)):Int))],[U.b true]] else
 R [[U.i 0],[U.i 0],[U.b false]]):=by kernel_rfl
end Go.Mat

namespace Go.Mat
open Go Go.Den Go.Proofs
set_option maxRecDepth 100000
theorem tW {b:U} (h:okC (.sl false [.int .u8]) b) {k:Nat} (hk:k < b.list.length):0≤(U.at b.list k).int∧(U.at b.list k).int≤255:=(h.2 k hk).1
theorem JK {e:Prop} {x y:Prop} (hx:e→x) (hy:y):nK e x y:=⟨hx,hy⟩
theorem E3:cG PR 66 yx CL:=fun fn us hfn hpre=>by
 have hf:PR.funcs[(66:Nat)]? = some Tryz.f66:=by kernel_rfl
 rw [hf] at hfn;cases hfn
 refine aM (C:=K62) (aB ao af .nil .nil) hf (by kernel_rfl) (aI (by kernel_rfl)) fun hok=>?_
 have hp:Tryz.f66.params.toList=[30]:=by kernel_rfl
 rw [hp] at hok
 obtain ⟨b,hus⟩:=gN hok.1
 subst hus
 refine .eq (xg _ b) (JK (fun h=>?_) (cu ?_ rfl ?_))
 ·have h:b.list=[]:=h
  show [[U.l []]]=[[U.l b.list]]
  rw [h]
 ·have h:b.list.length≤1073741824:=hpre
  unfold room
  omega
 ·rfl
theorem zz:ee PR 77 zd:=fun fn hfn=>by
 have hf:PR.funcs[(77:Nat)]? = some Tryz.f77:=by kernel_rfl
 rw [hf] at hfn;cases hfn
 refine dB (C:=K62) (aB ao af .nil .nil) hf (by kernel_rfl) (aI (by kernel_rfl)) fun vs objs R g1 g2 h=>?_
 clear g1 g2
 unfold zd at h
 split at h
 ·rename_i pa oa pb ob ia a ib b
  obtain ⟨⟨rfl,rfl,rfl,rfl,rfl,rfl,h0,hb⟩,h⟩:=h
  refine .eq (zK R a b) ?_
  refine bd (fun hge=>?_) (fun hlt=>?_)
  ·rw [decide_eq_false (by omega),cond_false] at h
   exact h
  ·rw [decide_eq_true (by omega),cond_true] at h
   rw [i64_in (x:=a.int + 1) (by omega) (by omega),show a.int + 1 - 1=a.int by omega,i64_in (x:=a.int) (by omega) (by omega)]
   exact dt ⟨h0,by omega⟩ h
 ·exact h.elim
theorem Hi:∀ (r:List U),lK r≤r.length
 | []=>Nat.le_refl _
 | x :: r=>by
  unfold lK
  have:=Hi r
  cases (x.int == 255)<;>simp only [cond_true,cond_false,List.length_cons]<;>omega
theorem Ht:∀ (r:List U) {n:Int},(∀ k,k < r.length→0≤(U.at r k).int∧(U.at r k).int≤255)→n≤lN r n∧lN r n≤n + 255 * r.length
 | [],n,_=>by simp [lN]
 | x :: r,n,h=>by
  unfold lN
  have h0:=h 0 (by simp)
  have h0:0≤x.int∧x.int≤255:=h0
  have hr:=Ht r (n:=n + 255) (fun k hk=>h (k + 1) (by simpa using hk))
  cases (x.int == 255)<;>simp only [cond_true,cond_false,List.length_cons]<;>omega
theorem yP {b:List U} {n:Nat} (h:∀ k,k < b.length→0≤(U.at b k).int∧(U.at b k).int≤255):∀ k,k < (b.drop n).length→0≤(U.at (b.drop n) k).int∧(U.at (b.drop n) k).int≤255:=fun k hk=>by
 rw [List.length_drop] at hk
 rw [U.at,bW]
 exact h (n + k) (by omega)
theorem Hg {h:Int} {r:List U} (h0:0≤h) (hr:∀ k,k < r.length→0≤(U.at r k).int∧(U.at r k).int≤255):0≤hN h r∧hN h r≤h + 255 * r.length:=by
 unfold hN
 have:=Ht r (n:=h) hr
 cases decide (h < 15)<;>simp only [cond_true,cond_false]<;>omega
theorem Hu (h:Int) (r:List U):hK h r≤r.length:=by
 unfold hK
 have:=Hi r
 cases decide (h < 15)<;>simp only [cond_true,cond_false]<;>omega
theorem B3:aE Fm 0 (aa Tryz.f78 0):=by
 refine al (F:=oF) (ts:=[0,5,1]) (os:=[2097153,2097281,2097409]) rfl (fun _ os=>match os with | [_,.box [.val _ a],.box [.val _ b]]=>((b.list.length:Int) - a.int).toNat | _=>0) ?_
 intro pan svs os k ho1 ho2 h
 unfold oF at h
 split at h
 ·rename_i n x p o f pa oa pb ob a b
  obtain ⟨⟨rfl,rfl,rfl,rfl,rfl,rfl,rfl,hn,ha0,ha,hab,hb,hn0,hn1⟩,hk⟩:=h
  have hbk:=fun k hk=>tW (k:=k) ho2.2.2.1.1 hk
  refine .eq (Aa pan _ _ k n x a b) ?_
  refine bd (fun h15=>?_) (fun h15=>?_)
  ·rw [show decide (n.int < 15)=false from decide_eq_false (by omega),Bool.false_or] at hk
   refine bi (fun hx=>?_) (fun hx=>?_)
   ·rw [hx,Bool.not_true,cond_false] at hk
    refine ⟨⟨by trivial,by trivial,by trivial,by trivial,by trivial,by trivial,ha0,hb⟩,bd (fun hlt=>?_) (fun hlt=>?_)⟩
    ·have hy:=hbk a.int.toNat (by omega)
     have hw:IntKind.wrap .i64 (nth (.i 0) b.list a.int.toNat).int=(nth (.i 0) b.list a.int.toNat).int:=i64_in (by have:=hy.1;unfold U.at at this;omega) (by have:=hy.2;unfold U.at at this;omega)
     have hy:0≤(nth (.i 0) b.list a.int.toNat).int∧(nth (.i 0) b.list a.int.toNat).int≤255:=hy
     rw [hw,i64_in (x:=n.int + _) (by omega) (by omega)]
     rw [aN (by omega),lOk,lK,lN] at hk
     have hc:(a.int + 1).toNat=a.int.toNat + 1:=by omega
     rw [hc]
     refine blt (by simp only [U.int_i];omega) ⟨⟨by trivial,by trivial,by trivial,by trivial,by trivial,by trivial,by trivial,by trivial,by omega,by trivial,by omega,hb,by omega,by omega⟩,?_⟩
     rw [show decide (n.int + (nth (.i 0) b.list a.int.toNat).int < 15)=false from decide_eq_false (by omega),Bool.false_or]
     have hu:U.at b.list a.int.toNat=nth (.i 0) b.list a.int.toNat:=rfl
     cases he:((nth (.i 0) b.list a.int.toNat).int == 255) with
     | true=>
      have hev:(nth (.i 0) b.list a.int.toNat).int=255:=by simpa using he
      rw [hu,he] at hk
      rw [Bool.not_true,cond_false,hev]
      simp only [cond_true] at hk
      refine bi (fun hl=>?_) (fun hl=>?_)
      ·rw [hl,cond_true] at hk
       have e:a.int + ((lK (b.list.drop (a.int.toNat + 1)) + 1:Nat):Int)=a.int + 1 + (lK (b.list.drop (a.int.toNat + 1)):Int):=by omega
       rw [e] at hk
       exact hk
      ·rw [hl,cond_false] at hk
       exact hk
     | false=>
      rw [hu,he] at hk
      simp only [cond_false,cond_true] at hk
      exact hk
    ·rw [List.drop_of_length_le (by omega),lOk,cond_false] at hk
     exact hk a
   ·rw [hx,Bool.not_false,cond_true] at hk
    exact hk
  ·rw [show decide (n.int < 15)=true from decide_eq_true (by omega),Bool.true_or,cond_true] at hk
   exact hk
 ·exact h.elim
theorem HC:ee PR 78 Ij:=fun fn hfn=>by
 have hf:PR.funcs[(78:Nat)]? = some Tryz.f78:=by kernel_rfl
 rw [hf] at hfn;cases hfn
 refine dB (C:=Fm) (aB ao af .nil (.cons zz .nil)) hf (by kernel_rfl) (aW (by kernel_rfl) B3) fun vs objs R g1 g2 h=>?_
 unfold Ij at h
 split at h
 ·rename_i n p o i0 f pa oa pb ob ia a ib b
  obtain ⟨⟨rfl,rfl,rfl,rfl,rfl,rfl,rfl,rfl,rfl,rfl,hn,ha,ha0,hab,hb,hn0,hn1⟩,h⟩:=h
  clear g1 g2
  refine .eq (B8 R n a b) ?_
  refine ⟨⟨by trivial,by trivial,by trivial,by trivial,by trivial,by trivial,by trivial,hn,ha0,ha,hab,hb,hn0,by omega⟩,?_⟩
  unfold hOk hK hN at h
  rw [show ((255:Int) == 255)=true from rfl,Bool.not_true,Bool.or_false]
  refine bd (fun h15=>?_) (fun h15=>?_)
  ·rw [decide_eq_true h15,cond_true,cond_true,cond_true,cond_true,← hn,show a.int + ((0:Nat):Int)=a.int by omega,] at h
   rw [sq,← ha] at h
   exact h
  ·rw [decide_eq_false h15] at h
   simp only [cond_false] at h
   exact h
 ·exact h.elim
theorem AD:aE zy 0 (aa Tryz.f80 0):=by
 refine al (F:=ma) (ts:=[1,9,0]) (os:=[]) rfl (fun svs _=>match svs with | .val _ a :: _ :: .val _ b :: _=>((b.list.length:Int) - a.int).toNat | _=>0) ?_
 intro pan svs os k ho1 ho2 h
 unfold ma at h
 split at h
 ·rename_i a n b
  obtain ⟨⟨ha0,hab,hb,hn0,hn1⟩,hk⟩:=h
  have hbk:=fun k hk=>tW (k:=k) ho1.2.2.1 hk
  refine .eq (xd pan _ _ k a n b) ?_
  refine bd (fun hlt=>dt ⟨ha0,hlt⟩ ?_) (fun hlt=>?_)
  ·have hy:=hbk a.int.toNat (by omega)
   have hy:0≤(nth (.i 0) b.list a.int.toNat).int∧(nth (.i 0) b.list a.int.toNat).int≤255:=hy
   rw [i64_in (x:=a.int + 1) (by omega) (by omega),show a.int + 1 - 1=a.int by omega,i64_in (x:=a.int) (by omega) (by omega),i64_in (x:=(nth (.i 0) b.list a.int.toNat).int) (by omega) (by omega),i64_in (x:=n.int + _) (by omega) (by omega)]
   have hc:(a.int + 1).toNat=a.int.toNat + 1:=by omega
   rw [hc]
   rw [aN (by omega),lOk,lK,lN] at hk
   have hu:U.at b.list a.int.toNat=nth (.i 0) b.list a.int.toNat:=rfl
   refine dt ⟨ha0,hlt⟩ (bi (fun he=>?_) (fun he=>?_))
   ·have he:((nth (.i 0) b.list a.int.toNat).int == 255)=false:=by simpa using he
    rw [hu,he] at hk
    simp only [cond_false,cond_true] at hk
    exact hk
   ·have he:((nth (.i 0) b.list a.int.toNat).int == 255)=true:=by simpa using he
    have hev:(nth (.i 0) b.list a.int.toNat).int=255:=by simpa using he
    rw [hu,he] at hk
    simp only [cond_true] at hk
    rw [hev]
    refine blt (by simp only [U.int_i];omega) ⟨⟨by omega,by omega,hb,by omega,by omega⟩,?_⟩
    have e:a.int + ((lK (b.list.drop (a.int.toNat + 1)) + 1:Nat):Int)=a.int + 1 + (lK (b.list.drop (a.int.toNat + 1)):Int):=by omega
    rw [e] at hk
    exact hk
  ·rw [List.drop_of_length_le (by omega),lOk,cond_false] at hk
   exact hk
 ·exact h.elim
theorem GN:cG PR 80 yQ Cc:=fun fn us hfn hpre=>by
 have hf:PR.funcs[(80:Nat)]? = some Tryz.f80:=by kernel_rfl
 rw [hf] at hfn;cases hfn
 refine aM (C:=zy) (aB ao af .nil .nil) hf (by kernel_rfl) (aW (by kernel_rfl) AD) fun hok=>?_
 have hp:Tryz.f80.params.toList=[30,3,3]:=by kernel_rfl
 rw [hp] at hok
 obtain ⟨b,a,h,hus⟩:∃ b a h,us=[[b],[a],[h]]:=by
  obtain ⟨u,u2,u3,rfl,h1,h2,h3⟩:=m5 (by kernel_rfl:Cs PR 30=some (false,[.sl false [.int .u8]])) (by kernel_rfl:Cs PR 3=some (false,[.int .i64])) (by kernel_rfl:Cs PR 3=some (false,[.int .i64])) hok.1
  obtain ⟨b,rfl⟩:=bG h1
  obtain ⟨a,rfl⟩:=bG h2
  obtain ⟨h,rfl⟩:=bG h3
  exact ⟨b,a,h,rfl⟩
 subst hus
 obtain ⟨ha,hh,ha0,hab,hb,hh0,hh15⟩:a = .i a.int∧h = .i h.int∧0≤a.int∧a.int≤b.list.length∧b.list.length≤1099511627776∧0≤h.int∧h.int≤15:=hpre
 refine .eq (Bg _ b a h) ?_
 rw [show Cc [[b],[a],[h]]=[[U.i (mQ b.list a.int h.int).2.1],[U.i (mQ b.list a.int h.int).2.2],[U.b (mQ b.list a.int h.int).1]] from rfl]
 unfold mQ hOk hN hK
 refine bd (fun h15=>?_) (fun h15=>?_)
 ·rw [decide_eq_true h15]
  simp only [cond_true]
  rw [show a.int + ((0:Nat):Int)=a.int by omega,← ha,← hh]
 ·rw [decide_eq_false h15]
  simp only [cond_false]
  have:h.int=15:=by omega
  refine ⟨⟨ha0,hab,hb,by omega,by omega⟩,bi (fun hl=>?_) (fun hl=>?_)⟩
  ·rw [hl,this];rfl
  ·rw [hl];rfl
end Go.Mat

namespace Go.Mat
open Go Go.Den Go.Proofs
def eU:Nat→List U→Nat→Int
 | 0,_,_=>0
 | _ + 1,[],_=>3
 | n + 1,_ :: r,f=>bif decide (f=0) then 2 else eU n r (f - 1)
def cpL:Nat→Nat→List U→List U
 | 0,_,out=>out
 | m + 1,d,out=>cpL m d (out ++ [U.at out (out.length - d)])
def uH (b:List U) (a:Int):Int:=(U.at b a.toNat).int / 16
def uL (b:List U) (a:Int):Int:=(U.at b a.toNat).int % 16
def uOk (b:List U) (a:Int):Bool:=hOk (uH b a) (b.drop (a + 1).toNat)
def uN (b:List U) (a:Int):Int:=hN (uH b a) (b.drop (a + 1).toNat)
def uA (b:List U) (a:Int):Int:=a + 1 + hK (uH b a) (b.drop (a + 1).toNat)
def uB (b:List U) (a:Int):Int:=uA b a + uN b a
def iy (b:List U) (a:Int) (out:List U):List U:=out ++ (b.drop (uA b a).toNat).take (uN b a).toNat
def uD (b:List U) (a:Int):Int:=(U.at b (uB b a).toNat).int + 256 * (U.at b (uB b a + 1).toNat).int
def n9 (b:List U) (a:Int) (out:List U):Bool:=decide ((b.length:Int) < uB b a + 2) || (uD b a == 0) || decide (((iy b a out).length:Int) < uD b a) || !(hOk (uL b a) (b.drop (uB b a + 2).toNat))
def uM (b:List U) (a:Int):Int:=hN (uL b a) (b.drop (uB b a + 2).toNat)
def uC (b:List U) (a:Int):Int:=uB b a + 2 + hK (uL b a) (b.drop (uB b a + 2).toNat)
def unp (b:List U) (room:Int):Nat→Int→List U→Int × List U
 | 0,_,_=>(3,[])
 | f + 1,a,out=>bif decide (a < (b.length:Int)) && uOk b a then
   bif eU (uN b a).toNat (b.drop (uA b a).toNat) (room - out.length).toNat == 0 then
    bif decide (uB b a=(b.length:Int)) then (0,iy b a out) else
    bif n9 b a out then (3,[]) else
    bif decide (room - (iy b a out).length < uM b a + 4) then (2,[]) else
    bif decide (uC b a=(b.length:Int)) then (0,cpL (uM b a + 4).toNat (uD b a).toNat (iy b a out)) else unp b room f (uC b a) (cpL (uM b a + 4).toNat (uD b a).toNat (iy b a out))
   else (eU (uN b a).toNat (b.drop (uA b a).toNat) (room - out.length).toNat,[])
  else (3,[])
def jR (b:List U) (room:Int):Int × List U:=bif decide (room < 0) || decide (1048576 < room) then (1,[]) else unp b room (b.length + 1) 0 []
def zZ:List (List U)→Prop:=fun us=>(nth (.i 0) (nth [] us 0) 0).list.length≤1073741824
def zX:List (List U)→List (List U):=fun us=>[[.l (bif (jR (nth (.i 0) (nth [] us 0) 0).list (nth (.i 0) (nth [] us 1) 0).int).1 == 0 then (jR (nth (.i 0) (nth [] us 0) 0).list (nth (.i 0) (nth [] us 1) 0).int).2 else [])],[.i (jR (nth (.i 0) (nth [] us 0) 0).list (nth (.i 0) (nth [] us 1) 0).int).1]]
abbrev EG:SV:=.clo 78 [.ptr 896 0]
abbrev yS (b:U) (a:Int) (xs:List U):bX:=[(256,.box [vl (.int .u8) b]),(768,.box [vi (.i a)]),(896,.box [ld 768 256]),(1276,.arr u8T xs)]
noncomputable def mr:aS:=fun _ svs os k=>match svs,os with
 | [.ptr p7 o7,.clo g [.ptr pg og],.own o,.val (.int .i64) m,.ptr p6 o6,.ptr p2 o2],[.box [.val (.sl false [.int .u8]) b],.box [.val (.int .i64) a],.box [.clo f [.ptr pa oa,.ptr pb ob]],.arr e xs]=>
  (p7=896∧o7=0∧g=78∧pg=896∧og=0∧o=1276∧p6=768∧o6=0∧p2=256∧o2=0∧f=77∧pa=768∧oa=0∧pb=256∧ob=0∧e=u8T∧a = .i a.int∧
    0≤a.int∧a.int≤b.list.length∧b.list.length≤1073741824∧0≤m.int∧m.int≤1048576∧(xs.length:Int)≤m.int)∧
  (bif (unp b.list m.int (b.list.length + 1 - a.int.toNat) a.int xs).1 == 0 then k .ret ⟨[(4,.own 1276),(5,vi (.i 0))],[(1276,.arr u8T (unp b.list m.int (b.list.length + 1 - a.int.toNat) a.int xs).2)]⟩
    else ∀ x:U,k .ret ⟨[(4,.own 636),(5,vi (.i (unp b.list m.int (b.list.length + 1 - a.int.toNat) a.int xs).1))],[(636,.arr u8T []),(1276,.arr u8T x.list)]⟩)
 | _,_=>False
noncomputable def mi:aS:=fun _ svs os k=>match svs,os with
 | [.val (.int .i64) i,.val (.int .i64) n,.ptr p7 o7,.clo g [.ptr pg og],.own o,.val (.int .i64) m,.ptr p6 o6,.ptr p2 o2,.val (.int .u8) t],[.box [.val (.sl false [.int .u8]) b],.box [.val (.int .i64) a],.box [.clo f [.ptr pa oa,.ptr pb ob]],.arr e xs]=>
  (p7=896∧o7=0∧g=78∧pg=896∧og=0∧o=1276∧p6=768∧o6=0∧p2=256∧o2=0∧f=77∧pa=768∧oa=0∧pb=256∧ob=0∧e=u8T∧a = .i a.int∧
    0≤a.int∧a.int≤b.list.length∧b.list.length≤1073741824∧0≤m.int∧m.int≤1048576∧(xs.length:Int)≤m.int∧0≤i.int∧i.int≤n.int∧n.int≤1099511627776)∧
  (bif eU (n.int - i.int).toNat (b.list.drop a.int.toNat) (m.int - xs.length).toNat == 0 then
    k (.exit 2) ⟨[(7,.ptr 896 0),(8,EG),(9,.own 1276),(1,vi m),(6,.ptr 768 0),(2,.ptr 256 0),(10,.val (.int .u8) t)],yS b (a.int + (n.int - i.int)) (xs ++ (b.list.drop a.int.toNat).take (n.int - i.int).toNat)⟩
    else ∀ x:U,k .ret ⟨[(4,.own 636),(5,vi (.i (eU (n.int - i.int).toNat (b.list.drop a.int.toNat) (m.int - xs.length).toNat)))],[(636,.arr u8T []),(1276,.arr u8T x.list)]⟩)
 | _,_=>False
noncomputable def mv:aS:=fun _ svs os k=>match svs,os with
 | [.val (.int .i64) i,.val (.int .i64) n,.ptr p7 o7,.clo g [.ptr pg og],.own o,.val (.int .i64) m,.ptr p6 o6,.ptr p2 o2,.val (.int .i64) d],[.box [.val (.sl false [.int .u8]) b],.box [.val (.int .i64) a],.box [.clo f [.ptr pa oa,.ptr pb ob]],.arr e xs]=>
  (p7=896∧o7=0∧g=78∧pg=896∧og=0∧o=1276∧p6=768∧o6=0∧p2=256∧o2=0∧f=77∧pa=768∧oa=0∧pb=256∧ob=0∧e=u8T∧a = .i a.int∧
    0≤a.int∧a.int≤b.list.length∧b.list.length≤1073741824∧0≤m.int∧m.int≤1048576∧(xs.length:Int)≤m.int∧0≤i.int∧i.int≤n.int∧n.int≤1099511627776∧1≤d.int∧d.int≤(xs.length:Int))∧
  (bif decide (m.int - xs.length < n.int - i.int) then ∀ x:U,k .ret ⟨[(4,.own 636),(5,vi (.i 2))],[(636,.arr u8T []),(1276,.arr u8T x.list)]⟩
    else k (.exit 5) ⟨[(7,.ptr 896 0),(8,EG),(9,.own 1276),(1,vi m),(6,.ptr 768 0),(2,.ptr 256 0)],yS b a.int (cpL (n.int - i.int).toNat d.int.toNat xs)⟩)
 | _,_=>False
noncomputable def uI:Ctx:=mkC PR bM aK (cw 77 [] zd (cw 78 [] Ij aL))
 (aw 0 [7,8,9,1,6,2] [256,768,896,1276] mr (aw 2 [45,44,7,8,9,1,6,2,10] [256,768,896,1276] mi (aw 5 [110,109,7,8,9,1,6,2,18] [256,768,896,1276] mv aC)))
 (an 1048576 [4,5] [636,1276] (an 1048578 [4,5] [636,1276] (an 1048581 [4,5] [636,1276] (an 2 [7,8,9,1,6,2,10] [256,768,896,1276] (an 5 [7,8,9,1,6,2] [256,768,896,1276] aq))))) aq
def tH (b a:U):Int:=IntKind.wrap IntKind.i64 (Int.fdiv (U.int (nth (U.i 0) b.list (Int.toNat a.int))) ((2:Int) ^ min (Int.toNat 4) (IntKind.bits IntKind.u8)))
def tA (b a:U):Int:=a.int + 1 + ((hK (tH b a) (List.drop (Int.toNat (a.int + 1)) b.list):Nat):Int)
def tN (b a:U):Int:=hN (tH b a) (List.drop (Int.toNat (a.int + 1)) b.list)
def tB (b a:U):Int:=tA b a + (tN b a - 0)
def tO (b a:U) (xs:List U):List U:=xs ++ List.take (Int.toNat (tN b a - 0)) (List.drop (Int.toNat (tA b a)) b.list)
def tL (b a:U):Int:=IntKind.wrap IntKind.i64 (IntKind.wrap IntKind.u8 ((BitVec.toNat (BitVec.ofInt (IntKind.bits IntKind.u8) (U.int (nth (U.i 0) b.list (Int.toNat a.int))) &&& BitVec.ofInt (IntKind.bits IntKind.u8) 15):Nat):Int))
def tD (b a:U):Int:=IntKind.wrap IntKind.i64 ((BitVec.toNat (BitVec.ofInt (IntKind.bits IntKind.i64) (IntKind.wrap IntKind.i64 (U.int (nth (U.i 0) b.list (Int.toNat (tB b a))))) ||| BitVec.ofInt (IntKind.bits IntKind.i64) (IntKind.wrap IntKind.i64 (IntKind.wrap IntKind.i64 (U.int (nth (U.i 0) b.list (Int.toNat (tB b a + 1)))) * 2 ^ min (Int.toNat 8) (IntKind.bits IntKind.i64)))):Nat):Int)
def tC (b a:U):Int:=tB b a + 1 + 1 + ((hK (tL b a) (List.drop (Int.toNat (tB b a + 1 + 1)) b.list):Nat):Int)
def tM (b a:U):Int:=IntKind.wrap IntKind.i64 (hN (tL b a) (List.drop (Int.toNat (tB b a + 1 + 1)) b.list) + 4)
def tP (b a:U) (xs:List U):List U:=cpL (Int.toNat (tM b a - 0)) (Int.toNat (tD b a)) (tO b a xs)
theorem xw (pan:KP) (μ:Mu) (N:Nat) (k:KE) (i n m t b a:U) (xs:List U) {c d e f g h} (_:c=(xs ++ [nth (.i 0) b.list a.int.toNat]):=by rfl) (_:d=(n.int - IntKind.wrap .i64 (i.int + 1)):=by rfl) (_:e=(List.drop (Int.toNat (a.int + 1)) b.list):=by rfl) (_:f=(Int.toNat (m.int - (↑(List.length c):Int))):=by rfl) (_:g=(896,.box [.clo 77 [.ptr 768 0,.ptr 256 0]]):=by rfl) (_:h=(256,.box [.val (.sl false [.int .u8]) b]):=by rfl): (exec (uI.panics pan) (aa Tryz.f67 1) 2 ⟨[(45,vi i),(44,vi n),(7,.ptr 896 0),(8,EG),(9,.own 1276),(1,vi m),(6,.ptr 768 0),(2,.ptr 256 0),(10,.val (.int .u8) t)],[(256,.box [vl (.int .u8) b]),(768,.box [vi a]),(896,.box [ld 768 256]),(1276,.arr u8T xs)]⟩ (again PR (some ([7,8,9,1,6,2,10],[256,768,896,1276])) (some ([4,5],[636,1276])) pan [45,44,7,8,9,1,6,2,10] [256,768,896,1276] mi μ N k))=(bif decide (i.int < n.int) then (2097153=2097153∧0=0∧2097281=2097281∧0=0∧2097153=2097153∧2097281=2097281∧(0:Int)≤a.int∧b.list.length≤(1099511627776:Nat))∧bif decide (a.int < (b.list.length:Int)) then bif (xs.length:Int) == m.int then k Ex.ret (St.mk [(4,.own 636),(5,vi (U.i 2))] [(636,.arr 5 []),(1276,.arr 5 xs)]) else bif decide (List.length xs + 1≤room) && true then bif Nat.blt (μ [vi (U.i (IntKind.wrap .i64 (i.int + 1))),vi n,.ptr 896 0,.clo 78 [.ptr 896 0],.own 1276,vi m,.ptr 768 0,.ptr 256 0,.val (.int .u8) t] [.box [.val (.sl false [.int .u8]) b],.box [vi (U.i (a.int + 1))],.box [.clo 77 [.ptr 768 0,.ptr 256 0]],.arr 5 c]) N then (896=896∧0=0∧78=78∧896=896∧0=0∧1276=1276∧768=768∧0=0∧256=256∧0=0∧77=77∧768=768∧0=0∧256=256∧0=0∧5=5∧U.i (a.int + 1)=U.i (a.int + 1)∧(0:Int)≤a.int + 1∧a.int + (1:Int)≤(b.list.length:Int)∧b.list.length≤(1073741824:Nat)∧(0:Int)≤m.int∧m.int≤1048576∧(↑(List.length c):Int)≤m.int∧(0:Int)≤IntKind.wrap .i64 (i.int + 1)∧IntKind.wrap .i64 (i.int + 1)≤n.int∧n.int≤1099511627776)∧bif eU (Int.toNat d) e f == 0 then k (Ex.exit 2) (St.mk [(7,.ptr 896 0),(8,.clo 78 [.ptr 896 0]),(9,.own 1276),(1,vi m),(6,.ptr 768 0),(2,.ptr 256 0),(10,.val (.int .u8) t)] [h,(768,.box [vi (U.i (a.int + 1 + d))]),g,(1276,.arr 5 (xs ++ [nth (.i 0) b.list a.int.toNat] ++ List.take (Int.toNat d) e))]) else ∀ (x:U),k Ex.ret (St.mk [(4,.own 636),(5,vi (U.i (eU (Int.toNat d) e f)))] [(636,.arr 5 []),(1276,.arr 5 x.list)]) else False else False else k Ex.ret (St.mk [(4,.own 636),(5,vi (U.i 3))] [(636,.arr 5 []),(1276,.arr 5 xs)]) else k (Ex.exit 2) (St.mk [(7,.ptr 896 0),(8,.clo 78 [.ptr 896 0]),(9,.own 1276),(1,vi m),(6,.ptr 768 0),(2,.ptr 256 0),(10,.val (.int .u8) t)] [h,(768,.box [vi a]),g,(1276,.arr 5 xs)])):=by subst_vars;kernel_rfl
theorem xP (pan:KP) (μ:Mu) (N:Nat) (k:KE) (i n m d b a:U) (xs:List U) {e c f g} (_:e=((xs.length:Int) - d.int):=by rfl) (_:c=(xs ++ [nth (.i 0) xs (Int.toNat (IntKind.wrap .i64 e))]):=by rfl) (_:f=(896,.box [.clo 77 [.ptr 768 0,.ptr 256 0]]):=by rfl) (_:g=(256,.box [.val (.sl false [.int .u8]) b]):=by rfl): (exec (uI.panics pan) (aa Tryz.f67 2) 5 ⟨[(110,vi i),(109,vi n),(7,.ptr 896 0),(8,EG),(9,.own 1276),(1,vi m),(6,.ptr 768 0),(2,.ptr 256 0),(18,vi d)],[(256,.box [vl (.int .u8) b]),(768,.box [vi a]),(896,.box [ld 768 256]),(1276,.arr u8T xs)]⟩ (again PR (some ([7,8,9,1,6,2],[256,768,896,1276])) (some ([4,5],[636,1276])) pan [110,109,7,8,9,1,6,2,18] [256,768,896,1276] mv μ N k))=(bif decide (i.int < n.int) then bif (xs.length:Int) == m.int then k Ex.ret (St.mk [(4,.own 636),(5,vi (U.i 2))] [(636,.arr 5 []),(1276,.arr 5 xs)]) else bif decide ((0:Int)≤IntKind.wrap .i64 e∧IntKind.wrap .i64 e < (xs.length:Int)) then bif Nat.blt (Int.toNat (IntKind.wrap .i64 e)) (List.length xs) then bif decide (List.length xs + 1≤room) && true then bif Nat.blt (μ [vi (U.i (IntKind.wrap .i64 (i.int + 1))),vi n,.ptr 896 0,.clo 78 [.ptr 896 0],.own 1276,vi m,.ptr 768 0,.ptr 256 0,vi d] [.box [.val (.sl false [.int .u8]) b],.box [vi a],.box [.clo 77 [.ptr 768 0,.ptr 256 0]],.arr 5 c]) N then (896=896∧0=0∧78=78∧896=896∧0=0∧1276=1276∧768=768∧0=0∧256=256∧0=0∧77=77∧768=768∧0=0∧256=256∧0=0∧5=5∧a=U.i a.int∧(0:Int)≤a.int∧a.int≤(b.list.length:Int)∧b.list.length≤(1073741824:Nat)∧(0:Int)≤m.int∧m.int≤1048576∧(↑(List.length c):Int)≤m.int∧(0:Int)≤IntKind.wrap .i64 (i.int + 1)∧IntKind.wrap .i64 (i.int + 1)≤n.int∧n.int≤1099511627776∧(1:Int)≤d.int∧d.int≤(↑(List.length c):Int))∧bif decide (m.int - (↑(List.length c):Int) < n.int - IntKind.wrap .i64 (i.int + 1)) then ∀ (x:U),k Ex.ret (St.mk [(4,.own 636),(5,vi (U.i 2))] [(636,.arr 5 []),(1276,.arr 5 x.list)]) else k (Ex.exit 5) (St.mk [(7,.ptr 896 0),(8,.clo 78 [.ptr 896 0]),(9,.own 1276),(1,vi m),(6,.ptr 768 0),(2,.ptr 256 0)] [g,(768,.box [vi (U.i a.int)]),f,(1276,.arr 5 (cpL (Int.toNat (n.int - IntKind.wrap .i64 (i.int + 1))) d.int.toNat c))]) else False else False else False else False else k (Ex.exit 5) (St.mk [(7,.ptr 896 0),(8,.clo 78 [.ptr 896 0]),(9,.own 1276),(1,vi m),(6,.ptr 768 0),(2,.ptr 256 0)] [g,(768,.box [vi a]),f,(1276,.arr 5 xs)])):=by subst_vars;kernel_rfl
theorem xa (pan:KP) (μ:Mu) (N:Nat) (k:KE) (m b a:U) (xs:List U) {w c d u e p f r g h q j l n o s t v y z} (_:w=(IntKind.bits IntKind.i64):=by rfl) (_:c=(BitVec.toNat (BitVec.ofInt w (IntKind.wrap .i64 0) ||| BitVec.ofInt w (IntKind.wrap .i64 (IntKind.wrap .i64 (U.int (nth (.i 0) b.list (Int.toNat (tB b a)))) * 2 ^ min (Int.toNat 8) w)))):=by rfl) (_:d=(List.drop (Int.toNat (tB b a + 1)) b.list):=by rfl) (_:u=(hN (tL b a) d + 4):=by rfl) (_:e=(cpL (Int.toNat (IntKind.wrap .i64 u - 0)) (Int.toNat (IntKind.wrap .i64 (↑c:Int))) (tO b a xs)):=by rfl) (_:p=(636,.arr 5 []):=by rfl) (_:f=(St.mk [(4,.own 636),(5,vi (U.i 3))] [p,(1276,.arr 5 (tO b a xs))]):=by rfl) (_:r=(hK (tL b a) d):=by rfl) (_:g=(tB b a + 1 + (↑r:Int)):=by rfl) (_:h=(b.list.length:Int):=by rfl) (_:q=(1099511627776:Nat):=by rfl) (_:j=(2097153=2097153∧0=0∧2097281=2097281∧0=0∧2097153=2097153∧2097281=2097281∧(0:Int)≤tB b a∧b.list.length≤q):=by rfl) (_:l=(unp b.list m.int (b.list.length + (1:Nat) - Int.toNat (tC b a)) (tC b a) (tP b a xs)):=by rfl) (_:n=(List.length (tO b a xs)):=by rfl) (_:o=(unp b.list m.int (b.list.length + (1:Nat) - Int.toNat g) g e):=by rfl) (_:s=(1073741824:Nat):=by rfl) (_:t=(St.mk [(4,.own 636),(5,vi (U.i 3))] [p,(1276,.arr 5 xs)]):=by rfl) (_:v=(5,vi (U.i 0)):=by rfl) (_:y=(List.drop (Int.toNat (tA b a)) b.list):=by rfl) (_:z=(Int.toNat (m.int - (xs.length:Int))):=by rfl): (exec (uI.panics pan) (aa Tryz.f67 0) 0 ⟨[(7,.ptr 896 0),(8,EG),(9,.own 1276),(1,vi m),(6,.ptr 768 0),(2,.ptr 256 0)],[(256,.box [vl (.int .u8) b]),(768,.box [vi a]),(896,.box [ld 768 256]),(1276,.arr u8T xs)]⟩ (again PR none (some ([4,5],[636,1276])) pan [7,8,9,1,6,2] [256,768,896,1276] mr μ N k))=((2097153=2097153∧0=0∧2097281=2097281∧0=0∧2097153=2097153∧2097281=2097281∧(0:Int)≤a.int∧b.list.length≤q)∧bif decide (a.int < h) then (2097153=2097153∧0=0∧77=77∧2097281=2097281∧0=0∧2097409=2097409∧0=0∧2097153=2097153∧2097281=2097281∧2097409=2097409∧U.i (tH b a)=U.i (tH b a)∧U.i (a.int + 1)=U.i (a.int + 1)∧(0:Int)≤a.int + 1∧a.int + (1:Int)≤h∧b.list.length≤q∧(0:Int)≤tH b a∧tH b a≤15)∧bif hOk (tH b a) (List.drop (Int.toNat (a.int + 1)) b.list) then (896=896∧0=0∧78=78∧896=896∧0=0∧1276=1276∧768=768∧0=0∧256=256∧0=0∧77=77∧768=768∧0=0∧256=256∧0=0∧5=5∧U.i (tA b a)=U.i (tA b a)∧(0:Int)≤tA b a∧tA b a≤h∧b.list.length≤s∧(0:Int)≤m.int∧m.int≤1048576∧(xs.length:Int)≤m.int∧(0:Int)≤0∧(0:Int)≤tN b a∧tN b a≤1099511627776)∧bif eU (Int.toNat (tN b a - 0)) y z == 0 then bif tB b a == h then k Ex.ret (St.mk [(4,.own 1276),v] [(1276,.arr 5 (tO b a xs))]) else j∧bif decide (tB b a < h) then (2097153=2097153∧0=0∧2097281=2097281∧0=0∧2097153=2097153∧2097281=2097281∧(0:Int)≤tB b a + 1∧b.list.length≤q)∧bif decide (tB b a + (1:Int) < h) then bif tD b a == 0 then k Ex.ret f else bif decide (tD b a > (↑n:Int)) then k Ex.ret f else (2097153=2097153∧0=0∧77=77∧2097281=2097281∧0=0∧2097409=2097409∧0=0∧2097153=2097153∧2097281=2097281∧2097409=2097409∧U.i (tL b a)=U.i (tL b a)∧U.i (tB b a + 1 + 1)=U.i (tB b a + 1 + 1)∧(0:Int)≤tB b a + 1 + 1∧tB b a + 1 + (1:Int)≤h∧b.list.length≤q∧(0:Int)≤tL b a∧tL b a≤15)∧bif hOk (tL b a) (List.drop (Int.toNat (tB b a + 1 + 1)) b.list) then (896=896∧0=0∧78=78∧896=896∧0=0∧1276=1276∧768=768∧0=0∧256=256∧0=0∧77=77∧768=768∧0=0∧256=256∧0=0∧5=5∧U.i (tC b a)=U.i (tC b a)∧(0:Int)≤tC b a∧tC b a≤h∧b.list.length≤s∧(0:Int)≤m.int∧m.int≤1048576∧(↑n:Int)≤m.int∧(0:Int)≤0∧(0:Int)≤tM b a∧tM b a≤1099511627776∧(1:Int)≤tD b a∧tD b a≤(↑n:Int))∧bif decide (m.int - (↑n:Int) < tM b a - 0) then ∀ (x:U),k Ex.ret (St.mk [(4,.own 636),(5,vi (U.i 2))] [p,(1276,.arr 5 x.list)]) else bif tC b a == h then k Ex.ret (St.mk [(4,.own 1276),v] [(1276,.arr 5 (tP b a xs))]) else bif Nat.blt (μ [.ptr 896 0,.clo 78 [.ptr 896 0],.own 1276,vi m,.ptr 768 0,.ptr 256 0] [.box [.val (.sl false [.int .u8]) b],.box [vi (U.i (tC b a))],.box [.clo 77 [.ptr 768 0,.ptr 256 0]],.arr 5 (tP b a xs)]) N then (896=896∧0=0∧78=78∧896=896∧0=0∧1276=1276∧768=768∧0=0∧256=256∧0=0∧77=77∧768=768∧0=0∧256=256∧0=0∧5=5∧U.i (tC b a)=U.i (tC b a)∧(0:Int)≤tC b a∧tC b a≤h∧b.list.length≤s∧(0:Int)≤m.int∧m.int≤1048576∧(↑(List.length (tP b a xs)):Int)≤m.int)∧bif Prod.fst l == 0 then k Ex.ret (St.mk [(4,.own 1276),v] [(1276,.arr 5 (Prod.snd l))]) else ∀ (x:U),k Ex.ret (St.mk [(4,.own 636),(5,vi (U.i (Prod.fst l)))] [p,(1276,.arr 5 x.list)]) else False else ∀ (x:U),k Ex.ret f else k Ex.ret f else j∧bif decide (tB b a < h) then bif IntKind.wrap .i64 (↑c:Int) == 0 then k Ex.ret f else bif decide (IntKind.wrap .i64 (↑c:Int) > (↑n:Int)) then k Ex.ret f else (2097153=2097153∧0=0∧77=77∧2097281=2097281∧0=0∧2097409=2097409∧0=0∧2097153=2097153∧2097281=2097281∧2097409=2097409∧U.i (tL b a)=U.i (tL b a)∧U.i (tB b a + 1)=U.i (tB b a + 1)∧(0:Int)≤tB b a + 1∧tB b a + (1:Int)≤h∧b.list.length≤q∧(0:Int)≤tL b a∧tL b a≤15)∧bif hOk (tL b a) d then (896=896∧0=0∧78=78∧896=896∧0=0∧1276=1276∧768=768∧0=0∧256=256∧0=0∧77=77∧768=768∧0=0∧256=256∧0=0∧5=5∧U.i g=U.i g∧(0:Int)≤tB b a + 1 + (↑r:Int)∧tB b a + 1 + (↑r:Int)≤h∧b.list.length≤s∧(0:Int)≤m.int∧m.int≤1048576∧(↑n:Int)≤m.int∧(0:Int)≤0∧(0:Int)≤IntKind.wrap .i64 u∧IntKind.wrap .i64 u≤1099511627776∧(1:Int)≤IntKind.wrap .i64 (↑c:Int)∧IntKind.wrap .i64 (↑c:Int)≤(↑n:Int))∧bif decide (m.int - (↑n:Int) < IntKind.wrap .i64 u - 0) then ∀ (x:U),k Ex.ret (St.mk [(4,.own 636),(5,vi (U.i 2))] [p,(1276,.arr 5 x.list)]) else bif tB b a + 1 + (↑r:Int) == h then k Ex.ret (St.mk [(4,.own 1276),v] [(1276,.arr 5 e)]) else bif Nat.blt (μ [.ptr 896 0,.clo 78 [.ptr 896 0],.own 1276,vi m,.ptr 768 0,.ptr 256 0] [.box [.val (.sl false [.int .u8]) b],.box [vi (U.i g)],.box [.clo 77 [.ptr 768 0,.ptr 256 0]],.arr 5 e]) N then (896=896∧0=0∧78=78∧896=896∧0=0∧1276=1276∧768=768∧0=0∧256=256∧0=0∧77=77∧768=768∧0=0∧256=256∧0=0∧5=5∧U.i g=U.i g∧(0:Int)≤tB b a + 1 + (↑r:Int)∧tB b a + 1 + (↑r:Int)≤h∧b.list.length≤s∧(0:Int)≤m.int∧m.int≤1048576∧(↑(List.length e):Int)≤m.int)∧bif Prod.fst o == 0 then k Ex.ret (St.mk [(4,.own 1276),v] [(1276,.arr 5 (Prod.snd o))]) else ∀ (x:U),k Ex.ret (St.mk [(4,.own 636),(5,vi (U.i (Prod.fst o)))] [p,(1276,.arr 5 x.list)]) else False else ∀ (x:U),k Ex.ret f else k Ex.ret f else ∀ (x:U),k Ex.ret (St.mk [(4,.own 636),(5,vi (U.i (eU (Int.toNat (tN b a - 0)) y z)))] [p,(1276,.arr 5 x.list)]) else ∀ (x:U),k Ex.ret t else k Ex.ret t):=by subst_vars;kernel_rfl
theorem Ev (R:RF) (b m:U) {a} (_:a=(unp b.list m.int (List.length b.list + (1:Nat) - Int.toNat 0) 0 []):=by rfl): (run uI Tryz.f67 [[b],[m]] R)=(bif decide (m.int < 0) then R [[U.l []],[U.i 1]] else bif decide (m.int > 1048576) then R [[U.l []],[U.i 1]] else (896=nat_lit 896∧nat_lit 0=nat_lit 0∧nat_lit 78=nat_lit 78∧nat_lit 896=nat_lit 896∧nat_lit 0=nat_lit 0∧nat_lit 1276=nat_lit 1276∧nat_lit 768=nat_lit 768∧nat_lit 0=nat_lit 0∧nat_lit 256=nat_lit 256∧nat_lit 0=nat_lit 0∧nat_lit 77=nat_lit 77∧nat_lit 768=nat_lit 768∧nat_lit 0=nat_lit 0∧nat_lit 256=nat_lit 256∧nat_lit 0=nat_lit 0∧nat_lit 5=nat_lit 5∧U.i (0:Int)=U.i 0∧(0:Int)≤0∧(0:Int)≤(↑(List.length b.list):Int)∧List.length b.list≤(1073741824:Nat)∧(0:Int)≤m.int∧m.int≤1048576∧(↑(0:Nat):Int)≤m.int)∧bif Prod.fst a == 0 then R [[U.l (Prod.snd a)],[U.i 0]] else ∀ (x:U),R [[U.l []],[U.i (Prod.fst a)]]):=by subst_vars;kernel_rfl
end Go.Mat

namespace Go.Mat
open Go Go.Den Go.Proofs
set_option maxRecDepth 100000
abbrev lB (b:List U):Prop:=∀ k,k < b.length→0≤(U.at b k).int∧(U.at b k).int≤255
theorem AK {t:Int} (h0:0≤t) (h1:t≤255):IntKind.wrap .i64 (Int.fdiv t ((2:Int) ^ min (Int.toNat 4) (IntKind.bits .u8)))=t / 16:=by
 rw [show min (Int.toNat 4) (IntKind.bits .u8)=4 from rfl,Int.fdiv_eq_ediv_of_nonneg _ (by decide),show (2:Int) ^ 4=16 from rfl]
 exact i64_in (by omega) (by omega)
theorem Hn {n:Nat} (hn:4≤n) {t:Int} (h0:0≤t) (h1:t≤255) (h8:8≤n):((BitVec.ofInt n t &&& BitVec.ofInt n 15).toNat:Int)=t % 16:=by
 have hp:256≤2 ^ n:=Nat.pow_le_pow_right (n:=2) (by decide) h8
 have e1:(BitVec.ofInt n t).toNat=t.toNat:=by
  rw [BitVec.toNat_ofInt]
  have:t % ((2 ^ n:Nat):Int)=t:=Int.emod_eq_of_lt h0 (by omega)
  rw [this]
 have e2:(BitVec.ofInt n 15).toNat=2 ^ 4 - 1:=by
  rw [BitVec.toNat_ofInt]
  have:(15:Int) % ((2 ^ n:Nat):Int)=15:=Int.emod_eq_of_lt (by decide) (by omega)
  rw [this]
  rfl
 rw [BitVec.toNat_and,e1,e2,Nat.and_two_pow_sub_one_eq_mod]
 omega
theorem AY {t:Int} (h0:0≤t) (h1:t≤255):IntKind.wrap .i64 (IntKind.wrap .u8 ((BitVec.ofInt (IntKind.bits .u8) t &&& BitVec.ofInt (IntKind.bits .u8) 15).toNat:Int))=t % 16:=by
 have e:((BitVec.ofInt (IntKind.bits .u8) t &&& BitVec.ofInt (IntKind.bits .u8) 15).toNat:Int)=t % 16:=Hn (n:=8) (by decide) h0 h1 (by decide)
 rw [e]
 have e8:IntKind.wrap .u8 (t % 16)=t % 16:=by
  simp only [IntKind.wrap,IntKind.bits,IntKind.signed]
  simp
  omega
 rw [e8]
 exact i64_in (by omega) (by omega)
theorem wB {t:Int} (h0:0≤t) (h1:t≤255):IntKind.wrap .i64 ((BitVec.ofInt (IntKind.bits .i64) t &&& BitVec.ofInt (IntKind.bits .i64) 15).toNat:Int)=t % 16:=by
 have e:((BitVec.ofInt (IntKind.bits .i64) t &&& BitVec.ofInt (IntKind.bits .i64) 15).toNat:Int)=t % 16:=Hn (n:=64) (by decide) h0 h1 (by decide)
 rw [e]
 exact i64_in (by omega) (by omega)
theorem qW {x y:Int} (hx0:0≤x) (hx1:x≤255) (hy0:0≤y) (hy1:y≤255) :
  IntKind.wrap .i64 ((BitVec.ofInt (IntKind.bits .i64) (IntKind.wrap .i64 x) ||| BitVec.ofInt (IntKind.bits .i64) (IntKind.wrap .i64 (IntKind.wrap .i64 y * 2 ^ min (Int.toNat 8) (IntKind.bits .i64)))).toNat:Int)=x + 256 * y:=by
 have hm:min (Int.toNat 8) (IntKind.bits .i64)=8:=rfl
 rw [i64_in (x:=x) (by omega) (by omega),i64_in (x:=y) (by omega) (by omega),hm,show (2:Int) ^ 8=256 from rfl,i64_in (x:=y * 256) (by omega) (by omega)]
 have e1:(BitVec.ofInt (IntKind.bits .i64) x).toNat=x.toNat:=by
  rw [BitVec.toNat_ofInt,Int.emod_eq_of_lt hx0 (by simp [IntKind.bits];omega)]
 have e2:(BitVec.ofInt (IntKind.bits .i64) (y * 256)).toNat=y.toNat <<< 8:=by
  rw [BitVec.toNat_ofInt,Int.emod_eq_of_lt (by omega) (by simp [IntKind.bits];omega),Nat.shiftLeft_eq]
  omega
 have e3:x.toNat ||| y.toNat <<< 8=x.toNat + 256 * y.toNat:=by
  rw [Nat.or_comm,← Nat.shiftLeft_add_eq_or_of_lt (show x.toNat < 2 ^ 8 by omega),Nat.shiftLeft_eq]
  omega
 rw [BitVec.toNat_or,e1,e2,e3,i64_in (by omega) (by omega)]
 omega
theorem oU:∀ (n d:Nat) (l:List U),(cpL n d l).length=l.length + n
 | 0,_,_=>rfl
 | n + 1,d,l=>by rw [cpL,oU n d];simp;omega
theorem kV:∀ {n:Nat} {r:List U} {f:Nat},eU n r f=0→n≤r.length∧n≤f
 | 0,_,_,_=>⟨Nat.zero_le _,Nat.zero_le _⟩
 | n + 1,[],f,h=>by simp [eU] at h
 | n + 1,x :: r,f,h=>by
  rw [eU] at h
  cases hf:decide (f=0) with
  | true=>rw [hf] at h;simp at h
  | false=>
   rw [hf,cond_false] at h
   have:=kV h
   have hf:f≠0:=of_decide_eq_false hf
   simp only [List.length_cons]
   omega
theorem An:aE uI 2 (aa Tryz.f67 1):=by
 refine al (F:=mi) (ts:=[45,44,7,8,9,1,6,2,10]) (os:=[256,768,896,1276]) rfl (fun svs _=>match svs with | .val _ i :: .val _ n :: _=>(n.int - i.int).toNat | _=>0) ?_
 intro pan svs os k ho1 ho2 h
 unfold mi at h
 split at h
 ·rename_i i n p7 o7 g pg og o m p6 o6 p2 o2 t b a f pa oa pb ob e xs
  obtain ⟨⟨rfl,rfl,rfl,rfl,rfl,rfl,rfl,rfl,rfl,rfl,rfl,rfl,rfl,rfl,rfl,rfl,ha,ha0,hab,hb,hm0,hm1,hx,hi0,hin,hn⟩,hk⟩:=h
  refine .eq (xw pan _ _ k i n m t b a xs) ?_
  refine bd (fun hlt=>⟨⟨by trivial,by trivial,by trivial,by trivial,by trivial,by trivial,ha0,by omega⟩,bd (fun hal=>?_) (fun hal=>?_)⟩) (fun hlt=>?_)
  ·rw [show (n.int - i.int).toNat=(n.int - (i.int + 1)).toNat + 1 by omega,aN (by omega),eU] at hk
   refine bi (fun hf=>?_) (fun hf=>?_)
   ·have hf:(xs.length:Int)=m.int:=by simpa using hf
    rw [decide_eq_true (show (m.int - (xs.length:Int)).toNat=0 by omega),cond_true] at hk
    exact hk (.l xs)
   ·have hf:¬ (xs.length:Int)=m.int:=by simpa using hf
    rw [decide_eq_false (show ¬ (m.int - (xs.length:Int)).toNat=0 by omega),cond_false] at hk
    rw [i64_in (x:=i.int + 1) (by omega) (by omega)]
    have hl:(xs ++ [nth (U.i 0) b.list a.int.toNat]).length=xs.length + 1:=by simp
    refine cu (by unfold room;omega) rfl (blt (by simp only [U.int_i];omega) ⟨⟨by trivial,by trivial,by trivial,by trivial,by trivial,by trivial,by trivial,by trivial,by trivial,by trivial,by trivial,by trivial,by trivial,by trivial,by trivial,by trivial,by trivial,by omega,by omega,hb,hm0,hm1,by rw [hl];omega,by omega,by omega,hn⟩,?_⟩)
    rw [hl,show (m.int - ((xs.length + 1:Nat):Int)).toNat=(m.int - (xs.length:Int)).toNat - 1 by omega,show (a.int + 1).toNat=a.int.toNat + 1 by omega,show a.int + 1 + (n.int - (i.int + 1))=a.int + (n.int - i.int) by omega]
    rw [List.take_succ_cons,List.append_cons] at hk
    exact hk
  ·rw [show (n.int - i.int).toNat=(n.int - (i.int + 1)).toNat + 1 by omega,List.drop_of_length_le (by omega),eU] at hk
   exact hk (.l xs)
  ·rw [show (n.int - i.int).toNat=0 by omega,eU,List.take_zero,List.append_nil,show a.int + (n.int - i.int)=a.int by omega,yS,← ha] at hk
   exact hk
 ·exact h.elim
theorem As:aE uI 5 (aa Tryz.f67 2):=by
 refine al (F:=mv) (ts:=[110,109,7,8,9,1,6,2,18]) (os:=[256,768,896,1276]) rfl (fun svs _=>match svs with | .val _ i :: .val _ n :: _=>(n.int - i.int).toNat | _=>0) ?_
 intro pan svs os k ho1 ho2 h
 unfold mv at h
 split at h
 ·rename_i i n p7 o7 g pg og o m p6 o6 p2 o2 d b a f pa oa pb ob e xs
  obtain ⟨⟨rfl,rfl,rfl,rfl,rfl,rfl,rfl,rfl,rfl,rfl,rfl,rfl,rfl,rfl,rfl,rfl,ha,ha0,hab,hb,hm0,hm1,hx,hi0,hin,hn,hd1,hd2⟩,hk⟩:=h
  refine .eq (xP pan _ _ k i n m d b a xs) ?_
  refine bd (fun hlt=>?_) (fun hlt=>?_)
  ·refine bi (fun hf=>?_) (fun hf=>?_)
   ·have hf:(xs.length:Int)=m.int:=by simpa using hf
    rw [decide_eq_true (show m.int - (xs.length:Int) < n.int - i.int by omega),cond_true] at hk
    exact hk (.l xs)
   ·have hf:¬ (xs.length:Int)=m.int:=by simpa using hf
    rw [i64_in (x:=i.int + 1) (by omega) (by omega),i64_in (x:=(xs.length:Int) - d.int) (by omega) (by omega)]
    generalize hy:nth (U.i 0) xs ((xs.length:Int) - d.int).toNat=y
    have hl:(xs ++ [y]).length=xs.length + 1:=by simp
    refine dt ⟨by omega,by omega⟩ (blt (by omega) (cu (by unfold room;omega) rfl (blt (by simp only [U.int_i];omega) ⟨⟨by trivial,by trivial,by trivial,by trivial,by trivial,by trivial,by trivial,by trivial,by trivial,by trivial,by trivial,by trivial,by trivial,by trivial,by trivial,by trivial,ha,by omega,by omega,hb,hm0,hm1,by rw [hl];omega,by omega,by omega,hn,hd1,by rw [hl];omega⟩,?_⟩)))
    rw [show (n.int - i.int).toNat=(n.int - (i.int + 1)).toNat + 1 by omega,cpL,show U.at xs (xs.length - d.int.toNat)=y by rw [← hy];congr 1;omega] at hk
    rw [hl]
    refine bd (fun h1=>?_) (fun h1=>?_)
    ·rw [decide_eq_true (show m.int - (xs.length:Int) < n.int - i.int by omega),cond_true] at hk
     exact hk
    ·rw [decide_eq_false (show ¬ m.int - (xs.length:Int) < n.int - i.int by omega),cond_false] at hk
     exact hk
  ·rw [decide_eq_false (by omega),cond_false,show (n.int - i.int).toNat=0 by omega,cpL,yS,← ha] at hk
   exact hk
 ·exact h.elim
theorem um {b:List U} (hb:lB b) {a:Int} (ha0:0≤a) (hal:a < b.length):0≤uH b a∧uH b a≤15∧0≤uL b a∧uL b a≤15∧0≤uN b a∧uN b a≤15 + 255 * b.length∧a + 1≤uA b a∧uA b a≤b.length:=by
 have h0:=hb a.toNat (by omega)
 have h1:0≤uH b a∧uH b a≤15:=by unfold uH;omega
 have h2:0≤uL b a∧uL b a≤15:=by unfold uL;omega
 have h3:=Hg (h:=uH b a) (r:=b.drop (a + 1).toNat) h1.1 (yP hb)
 have h4:=Hu (uH b a) (b.drop (a + 1).toNat)
 rw [List.length_drop] at h3 h4
 refine ⟨h1.1,h1.2,h2.1,h2.2,?_,?_,?_,?_⟩
 ·unfold uN;omega
 ·unfold uN;omega
 ·unfold uA;omega
 ·unfold uA;omega
theorem Ei {b:List U} (hb:lB b) {a:Int} (ha0:0≤a) (hal:a < b.length) (h2:uB b a + 2≤b.length):0≤uM b a∧uM b a≤15 + 255 * b.length∧uB b a + 2≤uC b a∧uC b a≤b.length:=by
 obtain ⟨_,_,h1,h1',h3,_,h5,_⟩:=um hb ha0 hal
 have hB:0≤uB b a:=by unfold uB;omega
 have h3:=Hg (h:=uL b a) (r:=b.drop (uB b a + 2).toNat) h1 (yP hb)
 have h4:=Hu (uL b a) (b.drop (uB b a + 2).toNat)
 rw [List.length_drop] at h3 h4
 refine ⟨?_,?_,?_,?_⟩
 ·unfold uM;omega
 ·unfold uM;omega
 ·unfold uC;omega
 ·unfold uC;omega
theorem ql {b:List U} (hb:lB b) {m:Int}:∀ (f g:Nat) {a:Int} {out:List U},0≤a→b.length + 1 - a.toNat≤f→b.length + 1 - a.toNat≤g→unp b m f a out=unp b m g a out
 | 0,0,_,_,_,_,_=>rfl
 | 0,g + 1,a,out,h0,h1,_=>by
  rw [unp,unp,decide_eq_false (by omega),Bool.false_and,cond_false]
 | f + 1,0,a,out,h0,_,h2=>by
  rw [unp,unp,decide_eq_false (by omega),Bool.false_and,cond_false]
 | f + 1,g + 1,a,out,h0,h1,h2=>by
  rw [unp,unp]
  by_cases hal:a < (b.length:Int)
  ·by_cases hB:uB b a + 2≤b.length
   ·obtain ⟨_,_,_,_,_,_,h5,_⟩:=um hb h0 hal
    have h6:=Ei hb h0 hal hB
    have h7:a + 1≤uB b a:=by
     have:=(um hb h0 hal).2.2.2.2.1
     unfold uB;omega
    rw [ql hb f g (by omega) (by omega) (by omega)]
   ·have:n9 b a out=true:=by unfold n9;rw [decide_eq_true (by omega)];simp
    rw [this,cond_true,cond_true]
  ·rw [decide_eq_false hal,Bool.false_and,cond_false,cond_false]
theorem IU {b a:U} (hb:lB b.list) (ha0:0≤a.int) (hal:a.int < b.list.length):tH b a=uH b.list a.int:=AK (hb _ (by omega)).1 (hb _ (by omega)).2
theorem Je {b a:U} (hb:lB b.list) (ha0:0≤a.int) (hal:a.int < b.list.length):tL b a=uL b.list a.int:=AY (hb _ (by omega)).1 (hb _ (by omega)).2
theorem zU:aE uI 0 (aa Tryz.f67 0):=by
 refine al (F:=mr) (ts:=[7,8,9,1,6,2]) (os:=[256,768,896,1276]) rfl (fun _ os=>match os with | [.box [.val _ b],.box [.val _ a],_,_]=>((b.list.length:Int) - a.int).toNat | _=>0) ?_
 intro pan svs os k ho1 ho2 h
 unfold mr at h
 split at h
 ·rename_i p7 o7 g pg og o m p6 o6 p2 o2 b a f pa oa pb ob e xs
  obtain ⟨⟨rfl,rfl,rfl,rfl,rfl,rfl,rfl,rfl,rfl,rfl,rfl,rfl,rfl,rfl,rfl,rfl,ha,ha0,hab,hb,hm0,hm1,hx⟩,hk⟩:=h
  have hbk:lB b.list:=fun k hk=>tW (k:=k) ho2.1.1 hk
  refine .eq (xa pan _ _ k m b a xs) ?_
  obtain ⟨f,hf⟩:∃ f,b.list.length + 1 - a.int.toNat=f + 1:=⟨b.list.length - a.int.toNat,by omega⟩
  rw [hf,unp] at hk
  refine ⟨⟨by trivial,by trivial,by trivial,by trivial,by trivial,by trivial,ha0,by omega⟩,bd (fun hal=>?_) (fun hal=>?_)⟩
  ·obtain ⟨hH0,hH1,hL0,hL1,hN0,hN1,hA0,hA1⟩:=um hbk ha0 hal
   have eH:=IU hbk ha0 hal
   have eL:=Je hbk ha0 hal
   have eN:tN b a=uN b.list a.int:=by unfold tN uN;rw [eH]
   have eA:tA b a=uA b.list a.int:=by unfold tA uA;rw [eH]
   have eB:tB b a=uB b.list a.int:=by unfold tB uB;rw [eA,eN];omega
   have eO:tO b a xs=iy b.list a.int xs:=by unfold tO iy;rw [eA,eN,show uN b.list a.int - 0=uN b.list a.int by omega]
   have e2:uB b.list a.int + 1 + 1=uB b.list a.int + 2:=by omega
   have eC:tC b a=uC b.list a.int:=by unfold tC uC;rw [eL,eB,e2]
   have hB0:a.int + 1≤uB b.list a.int:=by unfold uB;omega
   rw [decide_eq_true hal,Bool.true_and] at hk
   rw [eH,eN,eA,eB,eO,eC,eL]
   rw [show uN b.list a.int - 0=uN b.list a.int by omega]
   refine ⟨⟨by trivial,by trivial,by trivial,by trivial,by trivial,by trivial,by trivial,by trivial,by trivial,by trivial,by trivial,by trivial,by omega,by omega,by omega,by omega,by omega⟩,bi (fun hok=>?_) (fun hok=>?_)⟩
   ·rw [show uOk b.list a.int=true from hok,cond_true] at hk
    refine ⟨⟨by trivial,by trivial,by trivial,by trivial,by trivial,by trivial,by trivial,by trivial,by trivial,by trivial,by trivial,by trivial,by trivial,by trivial,by trivial,by trivial,by trivial,by omega,by omega,hb,hm0,hm1,hx,by omega,by omega,by omega⟩,bi (fun hl=>?_) (fun hl=>?_)⟩
    ·rw [hl,cond_true] at hk
     have hl':=kV (by simpa using hl)
     rw [List.length_drop] at hl'
     have hBl:uB b.list a.int≤b.list.length:=by unfold uB;omega
     have hOl:(iy b.list a.int xs).length=xs.length + (uN b.list a.int).toNat:=by
      unfold iy
      rw [List.length_append,List.length_take,List.length_drop]
      omega
     refine bi (fun hbe=>?_) (fun hbe=>?_)
     ·have hbe:uB b.list a.int=(b.list.length:Int):=by simpa using hbe
      rw [decide_eq_true hbe,cond_true] at hk
      exact hk
     ·have hbe:¬ uB b.list a.int=(b.list.length:Int):=by simpa using hbe
      rw [decide_eq_false hbe,cond_false] at hk
      refine ⟨⟨by trivial,by trivial,by trivial,by trivial,by trivial,by trivial,by omega,by omega⟩,dt (by omega) ⟨⟨by trivial,by trivial,by trivial,by trivial,by trivial,by trivial,by omega,by omega⟩,bd (fun h1=>?_) (fun h1=>?_)⟩⟩
      ·have hy0:=hbk (uB b.list a.int).toNat (by omega)
       have hy1:=hbk (uB b.list a.int + 1).toNat (by omega)
       have eD:tD b a=uD b.list a.int:=by
        unfold tD uD
        rw [eB]
        exact qW hy0.1 hy0.2 hy1.1 hy1.2
       obtain ⟨hM0,hM1,hC0,hC1⟩:=Ei hbk ha0 hal (by omega)
       have eM:tM b a=uM b.list a.int + 4:=by
        unfold tM
        rw [eL,eB,e2]
        exact i64_in (by unfold uM at hM0;omega) (by unfold uM at hM1;omega)
       have hD0:0≤uD b.list a.int:=by unfold uD;omega
       have eP:tP b a xs=cpL (uM b.list a.int + 4).toNat (uD b.list a.int).toNat (iy b.list a.int xs):=by
        unfold tP
        rw [eM,eD,eO,show uM b.list a.int + 4 - 0=uM b.list a.int + 4 by omega]
       rw [eD,eM,eP,e2,show uM b.list a.int + 4 - 0=uM b.list a.int + 4 by omega]
       have hbad:n9 b.list a.int xs=((uD b.list a.int == 0) || decide (((iy b.list a.int xs).length:Int) < uD b.list a.int) || !(hOk (uL b.list a.int) (b.list.drop (uB b.list a.int + 2).toNat))):=by
        unfold n9
        rw [decide_eq_false (by omega),Bool.false_or]
       rw [hbad] at hk
       refine bi (fun h2=>?_) (fun h2=>bd (fun h3=>?_) (fun h3=>⟨⟨by trivial,by trivial,by trivial,by trivial,by trivial,by trivial,by trivial,by trivial,by trivial,by trivial,by trivial,by trivial,by omega,by omega,by omega,by omega,by omega⟩,bi (fun h4=>?_) (fun h4=>?_)⟩))
       ·rw [h2,Bool.true_or,Bool.true_or,cond_true] at hk
        exact hk (.l _)
       ·rw [decide_eq_true (by omega),Bool.or_true,Bool.true_or,cond_true] at hk
        exact hk (.l _)
       ·have h2':¬ uD b.list a.int=0:=by simpa using h2
        rw [h2,h4,decide_eq_false (by omega),Bool.not_true,Bool.or_false,Bool.or_false,cond_false] at hk
        refine ⟨⟨by trivial,by trivial,by trivial,by trivial,by trivial,by trivial,by trivial,by trivial,by trivial,by trivial,by trivial,by trivial,by trivial,by trivial,by trivial,by trivial,by trivial,by omega,by omega,hb,hm0,hm1,by omega,by omega,by omega,by omega,by omega,by omega⟩,bd (fun h5=>?_) (fun h5=>?_)⟩
        ·rw [decide_eq_true h5,cond_true] at hk
         exact hk
        ·rw [decide_eq_false h5,cond_false] at hk
         refine bi (fun h6=>?_) (fun h6=>?_)
         ·have h6:uC b.list a.int=(b.list.length:Int):=by simpa using h6
          rw [decide_eq_true h6,cond_true] at hk
          exact hk
         ·have h6:¬ uC b.list a.int=(b.list.length:Int):=by simpa using h6
          rw [decide_eq_false h6,cond_false] at hk
          rw [ql hbk f (b.list.length + 1 - (uC b.list a.int).toNat) (by omega) (by omega) (by omega)] at hk
          refine blt (by simp only [U.int_i];omega) ⟨⟨by trivial,by trivial,by trivial,by trivial,by trivial,by trivial,by trivial,by trivial,by trivial,by trivial,by trivial,by trivial,by trivial,by trivial,by trivial,by trivial,by trivial,by omega,by omega,hb,hm0,hm1,by rw [oU];omega⟩,hk⟩
       ·rw [h4,Bool.not_false,Bool.or_true,cond_true] at hk
        exact fun _=>hk (.l _)
      ·have hbad:n9 b.list a.int xs=true:=by unfold n9;rw [decide_eq_true (by omega)];simp
       rw [hbad,cond_true] at hk
       exact hk (.l _)
    ·rw [hl,cond_false] at hk
     have hne:¬ ((eU (uN b.list a.int).toNat (List.drop (uA b.list a.int).toNat b.list) (m.int - (xs.length:Int)).toNat == 0)=true):=by rw [hl];simp
     rw [show (eU (uN b.list a.int).toNat (List.drop (uA b.list a.int).toNat b.list) (m.int - (xs.length:Int)).toNat,([]:List U)).1=eU (uN b.list a.int).toNat (List.drop (uA b.list a.int).toNat b.list) (m.int - (xs.length:Int)).toNat from rfl,hl,cond_false] at hk
     exact hk
   ·rw [show uOk b.list a.int=false from hok,cond_false] at hk
    exact fun _=>hk (.l _)
  ·rw [decide_eq_false hal,Bool.false_and,cond_false] at hk
   exact hk (.l _)
 ·exact h.elim
theorem uU {us:List (List U)} (h:ez PR [30,3] us):∃ b m,us=[[b],[m]]:=by
 obtain ⟨u,u2,rfl,h1,h2⟩:=bR (by kernel_rfl:Cs PR 30=some (false,[.sl false [.int .u8]])) (by kernel_rfl:Cs PR 3=some (false,[.int .i64])) h
 obtain ⟨a,rfl⟩:=bG h1
 obtain ⟨b,rfl⟩:=bG h2
 exact ⟨a,b,rfl⟩
theorem IA:cG PR 67 zZ zX:=fun fn us hfn hpre=>by
 have hf:PR.funcs[(67:Nat)]? = some Tryz.f67:=by kernel_rfl
 rw [hf] at hfn;cases hfn
 refine aM (C:=uI) (aB ao af .nil (.cons zz (.cons HC .nil))) hf (by kernel_rfl) (dP (by kernel_rfl) zU An As) fun hok=>?_
 have hp:Tryz.f67.params.toList=[30,3]:=by kernel_rfl
 rw [hp] at hok
 obtain ⟨b,m,hus⟩:=uU hok.1
 subst hus
 have hb:b.list.length≤1073741824:=hpre
 refine .eq (Ev _ b m) ?_
 rw [show zX [[b],[m]]=[[.l (bif (jR b.list m.int).1 == 0 then (jR b.list m.int).2 else [])],[.i (jR b.list m.int).1]] from rfl]
 unfold jR
 refine bd (fun h1=>?_) (fun h1=>bd (fun h2=>?_) (fun h2=>?_))
 ·rw [decide_eq_true h1];rfl
 ·rw [decide_eq_true (show 1048576 < m.int by omega),Bool.or_true];rfl
 ·rw [decide_eq_false h1,decide_eq_false (show ¬ 1048576 < m.int by omega),Bool.or_false,cond_false]
  refine ⟨⟨by trivial,by trivial,by trivial,by trivial,by trivial,by trivial,by trivial,by trivial,by trivial,by trivial,by trivial,by trivial,by trivial,by trivial,by trivial,by trivial,by trivial,by omega,by omega,hb,by omega,by omega,by omega⟩,bi (fun h3=>?_) (fun h3=>?_)⟩
  ·have h3:((unp b.list m.int (b.list.length + 1) 0 []).1 == 0)=true:=h3
   have h4:(unp b.list m.int (b.list.length + 1) 0 []).1=0:=by simpa using h3
   rw [h3,cond_true,h4]
   rfl
  ·have h3:((unp b.list m.int (b.list.length + 1) 0 []).1 == 0)=false:=h3
   rw [h3,cond_false]
   exact fun _=>rfl
end Go.Mat

namespace Go.Mat
open Go Go.Den Go.Proofs
noncomputable def mq:aS:=fun _ svs os k=>match svs,os with
 | [.val (.int .i64) a,.own o,.val (.sl false [.int .u8]) b,.val (.int .i64) m],[.arr e xs]=>
  (o=892∧e=u8T∧a = .i a.int∧0≤a.int∧a.int≤b.list.length∧b.list.length≤1073741824∧0≤m.int∧m.int≤1048576∧(xs.length:Int)≤m.int)∧
  (bif decide (a.int < (b.list.length:Int)) then
    (bif (unp b.list m.int (b.list.length + 1 - a.int.toNat) a.int xs).1 == 0 then Alt (k .ret ⟨[(4,.own 892),(5,vi (.i 0))],[(892,.arr u8T (unp b.list m.int (b.list.length + 1 - a.int.toNat) a.int xs).2)]⟩) (k (.exit 0) ⟨[(6,.own 892)],[(892,.arr u8T (unp b.list m.int (b.list.length + 1 - a.int.toNat) a.int xs).2)]⟩)
    else ∀ x:U,k .ret ⟨[(4,.own 636),(5,vi (.i (unp b.list m.int (b.list.length + 1 - a.int.toNat) a.int xs).1))],[(636,.arr u8T []),(892,.arr u8T x.list)]⟩)
    else k (.exit 0) ⟨[(6,.own 892)],[(892,.arr u8T xs)]⟩)
 | _,_=>False
noncomputable def mz:aS:=fun _ svs os k=>match svs,os with
 | [.val (.int .i64) i,.val (.int .i64) n,.val (.int .i64) a,.own o,.val (.sl false [.int .u8]) b,.val (.int .i64) m,.val (.int .i64) t],[.arr e xs]=>
  (o=892∧e=u8T∧a = .i a.int∧0≤a.int∧a.int≤b.list.length∧b.list.length≤1073741824∧0≤m.int∧m.int≤1048576∧(xs.length:Int)≤m.int∧0≤i.int∧i.int≤n.int∧n.int≤1099511627776)∧
  (bif eU (n.int - i.int).toNat (b.list.drop a.int.toNat) (m.int - xs.length).toNat == 0 then
    k (.exit 2) ⟨[(7,vi (.i (a.int + (n.int - i.int)))),(6,.own 892),(0,vl (.int .u8) b),(1,vi m),(8,vi t)],[(892,.arr u8T (xs ++ (b.list.drop a.int.toNat).take (n.int - i.int).toNat))]⟩
    else ∀ x:U,k .ret ⟨[(4,.own 636),(5,vi (.i (eU (n.int - i.int).toNat (b.list.drop a.int.toNat) (m.int - xs.length).toNat)))],[(636,.arr u8T []),(892,.arr u8T x.list)]⟩)
 | _,_=>False
noncomputable def l4:aS:=fun _ svs os k=>match svs,os with
 | [.val (.int .i64) i,.val (.int .i64) n,.val (.int .i64) a,.own o,.val (.sl false [.int .u8]) b,.val (.int .i64) m,.val (.int .i64) d],[.arr e xs]=>
  (o=892∧e=u8T∧0≤m.int∧m.int≤1048576∧(xs.length:Int)≤m.int∧0≤i.int∧0≤n.int∧i.int≤n.int + 4∧n.int≤1099511627776∧1≤d.int∧d.int≤(xs.length:Int))∧
  (bif decide (m.int - xs.length < n.int + 4 - i.int) then ∀ x:U,k .ret ⟨[(4,.own 636),(5,vi (.i 2))],[(636,.arr u8T []),(892,.arr u8T x.list)]⟩
    else k (.exit 4) ⟨[(7,vi a),(6,.own 892),(0,vl (.int .u8) b),(1,vi m)],[(892,.arr u8T (cpL (n.int + 4 - i.int).toNat d.int.toNat xs))]⟩)
 | _,_=>False
noncomputable def nC:Ctx:=mkC PR bM (aV 80 yQ Cc aK) aL
 (aw 0 [7,6,0,1] [892] mq (aw 2 [12,9,7,6,0,1,8] [892] mz (aw 4 [17,14,7,6,0,1,13] [892] l4 aC)))
 (an 1048576 [4,5] [636,892] (an 1048578 [4,5] [636,892] (an 1048580 [4,5] [636,892] (an 0 [6] [892] (an 2 [7,6,0,1,8] [892] (an 4 [7,6,0,1] [892] aq)))))) aq
def sH (b a:U):Int:=Int.fdiv (IntKind.wrap IntKind.i64 (U.int (nth (U.i 0) b.list (Int.toNat a.int)))) ((2:Int) ^ min (Int.toNat 4) (IntKind.bits IntKind.i64))
def sR (b a:U):Bool × Int × Int:=mQ b.list (IntKind.wrap IntKind.i64 (a.int + 1)) (sH b a)
def sA (b a:U):Int:=Prod.snd (Prod.snd (sR b a))
def sN (b a:U):Int:=Prod.fst (Prod.snd (sR b a))
def sB (b a:U):Int:=sA b a + (sN b a - 0)
def sO (b a:U) (xs:List U):List U:=xs ++ List.take (Int.toNat (sN b a - 0)) (List.drop (Int.toNat (sA b a)) b.list)
def sD (b a:U):Int:=IntKind.wrap IntKind.i64 (((BitVec.toNat (BitVec.ofInt (IntKind.bits IntKind.i64) (IntKind.wrap IntKind.i64 (U.int (nth (U.i 0) b.list (Int.toNat (sB b a))))) ||| BitVec.ofInt (IntKind.bits IntKind.i64) (IntKind.wrap IntKind.i64 (IntKind.wrap IntKind.i64 (U.int (nth (U.i 0) b.list (Int.toNat (IntKind.wrap IntKind.i64 (sB b a + 1))))) * 2 ^ min (Int.toNat 8) (IntKind.bits IntKind.i64))))):Nat):Int)
def sL (b a:U):Int:=IntKind.wrap IntKind.i64 (((BitVec.toNat (BitVec.ofInt (IntKind.bits IntKind.i64) (IntKind.wrap IntKind.i64 (U.int (nth (U.i 0) b.list (Int.toNat a.int)))) &&& BitVec.ofInt (IntKind.bits IntKind.i64) 15)):Nat):Int)
def sQ (b a:U):Bool × Int × Int:=mQ b.list (IntKind.wrap IntKind.i64 (sB b a + 2)) (sL b a)
def sC (b a:U):Int:=Prod.snd (Prod.snd (sQ b a))
def sM (b a:U):Int:=Prod.fst (Prod.snd (sQ b a))
def sP (b a:U) (xs:List U):List U:=cpL (Int.toNat (sM b a + 4 - 0)) (Int.toNat (sD b a)) (sO b a xs)
theorem wI (pan:KP) (μ:Mu) (N:Nat) (k:KE) (i n a b m t:U) (xs:List U) {c d e f g h} (_:c=(IntKind.wrap .i64 (a.int + 1)):=by rfl) (_:d=(xs ++ [nth (.i 0) b.list a.int.toNat]):=by rfl) (_:e=(n.int - IntKind.wrap .i64 (i.int + 1)):=by rfl) (_:f=(List.drop (Int.toNat c) b.list):=by rfl) (_:g=(Int.toNat (m.int - (↑(List.length d):Int))):=by rfl) (_:h=(b.list.length:Int):=by rfl): (exec (nC.panics pan) (aa Tryz.f72 1) 2 ⟨[(12,vi i),(9,vi n),(7,vi a),(6,.own 892),(0,vl (.int .u8) b),(1,vi m),(8,vi t)],[(892,.arr u8T xs)]⟩ (again PR (some ([7,6,0,1,8],[892])) (some ([4,5],[636,892])) pan [12,9,7,6,0,1,8] [892] mz μ N k))=(bif decide (i.int < n.int) then bif decide (a.int ≥ h) then k Ex.ret (St.mk [(4,.own 636),(5,vi (U.i 3))] [(636,.arr 5 []),(892,.arr 5 xs)]) else bif decide ((xs.length:Int) ≥ m.int) then k Ex.ret (St.mk [(4,.own 636),(5,vi (U.i 2))] [(636,.arr 5 []),(892,.arr 5 xs)]) else bif decide ((0:Int)≤a.int∧a.int < h) then bif decide (List.length xs + 1≤room) && true then bif Nat.blt (μ [vi (U.i (IntKind.wrap .i64 (i.int + 1))),vi n,vi (U.i c),.own 892,.val (.sl false [.int .u8]) b,vi m,vi t] [.arr 5 d]) N then (892=892∧5=5∧U.i c=U.i c∧(0:Int)≤IntKind.wrap .i64 (a.int + 1)∧IntKind.wrap .i64 (a.int + 1)≤h∧b.list.length≤(1073741824:Nat)∧(0:Int)≤m.int∧m.int≤1048576∧(↑(List.length d):Int)≤m.int∧(0:Int)≤IntKind.wrap .i64 (i.int + 1)∧IntKind.wrap .i64 (i.int + 1)≤n.int∧n.int≤1099511627776)∧bif eU (Int.toNat e) f g == 0 then k (Ex.exit 2) (St.mk [(7,vi (U.i (IntKind.wrap .i64 (a.int + 1) + e))),(6,.own 892),(0,.val (.sl false [.int .u8]) b),(1,vi m),(8,vi t)] [(892,.arr 5 (xs ++ [nth (.i 0) b.list a.int.toNat] ++ List.take (Int.toNat e) f))]) else ∀ (x:U),k Ex.ret (St.mk [(4,.own 636),(5,vi (U.i (eU (Int.toNat e) f g)))] [(636,.arr 5 []),(892,.arr 5 x.list)]) else False else False else False else k (Ex.exit 2) (St.mk [(7,vi a),(6,.own 892),(0,.val (.sl false [.int .u8]) b),(1,vi m),(8,vi t)] [(892,.arr 5 xs)])):=by subst_vars;kernel_rfl
theorem ud (pan:KP) (μ:Mu) (N:Nat) (k:KE) (i n a b m d:U) (xs:List U) {e c} (_:e=((xs.length:Int) - d.int):=by rfl) (_:c=(xs ++ [nth (.i 0) xs (Int.toNat (IntKind.wrap .i64 e))]):=by rfl): (exec (nC.panics pan) (aa Tryz.f72 2) 4 ⟨[(17,vi i),(14,vi n),(7,vi a),(6,.own 892),(0,vl (.int .u8) b),(1,vi m),(13,vi d)],[(892,.arr u8T xs)]⟩ (again PR (some ([7,6,0,1],[892])) (some ([4,5],[636,892])) pan [17,14,7,6,0,1,13] [892] l4 μ N k))=(bif decide (i.int < IntKind.wrap .i64 (n.int + 4)) then bif decide ((xs.length:Int) ≥ m.int) then k Ex.ret (St.mk [(4,.own 636),(5,vi (U.i 2))] [(636,.arr 5 []),(892,.arr 5 xs)]) else bif decide ((0:Int)≤IntKind.wrap .i64 e∧IntKind.wrap .i64 e < (xs.length:Int)) then bif Nat.blt (Int.toNat (IntKind.wrap .i64 e)) (List.length xs) then bif decide (List.length xs + 1≤room) && true then bif Nat.blt (μ [vi (U.i (IntKind.wrap .i64 (i.int + 1))),vi n,vi a,.own 892,.val (.sl false [.int .u8]) b,vi m,vi d] [.arr 5 c]) N then (892=892∧5=5∧(0:Int)≤m.int∧m.int≤1048576∧(↑(List.length c):Int)≤m.int∧(0:Int)≤IntKind.wrap .i64 (i.int + 1)∧(0:Int)≤n.int∧IntKind.wrap .i64 (i.int + 1)≤n.int + 4∧n.int≤1099511627776∧(1:Int)≤d.int∧d.int≤(↑(List.length c):Int))∧bif decide (m.int - (↑(List.length c):Int) < n.int + 4 - IntKind.wrap .i64 (i.int + 1)) then ∀ (x:U),k Ex.ret (St.mk [(4,.own 636),(5,vi (U.i 2))] [(636,.arr 5 []),(892,.arr 5 x.list)]) else k (Ex.exit 4) (St.mk [(7,vi a),(6,.own 892),(0,.val (.sl false [.int .u8]) b),(1,vi m)] [(892,.arr 5 (cpL (Int.toNat (n.int + 4 - IntKind.wrap .i64 (i.int + 1))) d.int.toNat c))]) else False else False else False else False else k (Ex.exit 4) (St.mk [(7,vi a),(6,.own 892),(0,.val (.sl false [.int .u8]) b),(1,vi m)] [(892,.arr 5 xs)])):=by subst_vars;kernel_rfl
theorem vq (pan:KP) (μ:Mu) (N:Nat) (k:KE) (a b m:U) (xs:List U) {c g d e f h j} (_:c=(unp b.list m.int (b.list.length + (1:Nat) - Int.toNat (sC b a)) (sC b a) (sP b a xs)):=by rfl) (_:g=(636,.arr 5 []):=by rfl) (_:d=(St.mk [(4,.own 636),(5,vi (U.i 3))] [g,(892,.arr 5 (sO b a xs))]):=by rfl) (_:e=(b.list.length:Int):=by rfl) (_:f=(List.length (sO b a xs)):=by rfl) (_:h=(List.drop (Int.toNat (sA b a)) b.list):=by rfl) (_:j=(Int.toNat (m.int - (xs.length:Int))):=by rfl): (exec (nC.panics pan) (aa Tryz.f72 0) 0 ⟨[(7,vi a),(6,.own 892),(0,vl (.int .u8) b),(1,vi m)],[(892,.arr u8T xs)]⟩ (again PR (some ([6],[892])) (some ([4,5],[636,892])) pan [7,6,0,1] [892] mq μ N k))=(bif decide (a.int < e) then bif decide ((0:Int)≤a.int∧a.int < e) then yQ [[b],[U.i (IntKind.wrap .i64 (a.int + 1))],[U.i (sH b a)]]∧bif !Prod.fst (sR b a) then k Ex.ret (St.mk [(4,.own 636),(5,vi (U.i 3))] [g,(892,.arr 5 xs)]) else (892=892∧5=5∧U.i (sA b a)=U.i (sA b a)∧(0:Int)≤sA b a∧sA b a≤e∧b.list.length≤(1073741824:Nat)∧(0:Int)≤m.int∧m.int≤1048576∧(xs.length:Int)≤m.int∧(0:Int)≤0∧(0:Int)≤sN b a∧sN b a≤1099511627776)∧bif eU (Int.toNat (sN b a - 0)) h j == 0 then bif sB b a == e then k Ex.ret (St.mk [(4,.own 892),(5,vi (U.i 0))] [(892,.arr 5 (sO b a xs))]) else bif decide (IntKind.wrap .i64 (e - (sB b a)) < 2) then k Ex.ret d else bif decide ((0:Int)≤sB b a∧sB b a < e) then bif decide ((0:Int)≤IntKind.wrap .i64 (sB b a + 1)∧IntKind.wrap .i64 (sB b a + 1) < e) then bif sD b a == 0 then k Ex.ret d else bif decide (sD b a > (↑f:Int)) then k Ex.ret d else yQ [[b],[U.i (IntKind.wrap .i64 (sB b a + 2))],[U.i (sL b a)]]∧bif !Prod.fst (sQ b a) then k Ex.ret d else (892=892∧5=5∧(0:Int)≤m.int∧m.int≤1048576∧(↑f:Int)≤m.int∧(0:Int)≤0∧(0:Int)≤sM b a∧(0:Int)≤sM b a + 4∧sM b a≤1099511627776∧(1:Int)≤sD b a∧sD b a≤(↑f:Int))∧bif decide (m.int - (↑f:Int) < sM b a + 4 - 0) then ∀ (x:U),k Ex.ret (St.mk [(4,.own 636),(5,vi (U.i 2))] [g,(892,.arr 5 x.list)]) else bif Nat.blt (μ [vi (U.i (sC b a)),.own 892,.val (.sl false [.int .u8]) b,vi m] [.arr 5 (sP b a xs)]) N then (892=892∧5=5∧U.i (sC b a)=U.i (sC b a)∧(0:Int)≤sC b a∧sC b a≤e∧b.list.length≤(1073741824:Nat)∧(0:Int)≤m.int∧m.int≤1048576∧(↑(List.length (sP b a xs)):Int)≤m.int)∧bif decide (sC b a < e) then bif Prod.fst c == 0 then Alt (k Ex.ret (St.mk [(4,.own 892),(5,vi (U.i 0))] [(892,.arr 5 (Prod.snd c))])) (k (Ex.exit 0) (St.mk [(6,.own 892)] [(892,.arr 5 (Prod.snd c))])) else ∀ (x:U),k Ex.ret (St.mk [(4,.own 636),(5,vi (U.i (Prod.fst c)))] [g,(892,.arr 5 x.list)]) else k (Ex.exit 0) (St.mk [(6,.own 892)] [(892,.arr 5 (sP b a xs))]) else False else False else False else ∀ (x:U),k Ex.ret (St.mk [(4,.own 636),(5,vi (U.i (eU (Int.toNat (sN b a - 0)) h j)))] [g,(892,.arr 5 x.list)]) else False else k (Ex.exit 0) (St.mk [(6,.own 892)] [(892,.arr 5 xs)])):=by subst_vars;kernel_rfl
theorem BD (R:RF) (b m:U) {a c} (_:a=(unp b.list m.int (List.length b.list + (1:Nat) - Int.toNat 0) 0 []):=by rfl) (_:c=(List.length b.list):=by rfl): (run nC Tryz.f72 [[b],[m]] R)=(bif decide (m.int < 0) then R [[U.l []],[U.i 1]] else bif decide (m.int > 1048576) then R [[U.l []],[U.i 1]] else bif (↑c:Int) == 0 then R [[U.l []],[U.i 3]] else (892=nat_lit 892∧nat_lit 5=nat_lit 5∧U.i (0:Int)=U.i 0∧(0:Int)≤0∧(0:Int)≤(↑c:Int)∧List.length b.list≤(1073741824:Nat)∧(0:Int)≤m.int∧m.int≤1048576∧(↑(0:Nat):Int)≤m.int)∧bif decide ((0:Int) < (↑c:Int)) then bif Prod.fst a == 0 then (fun T=>Alt T T) (R [[U.l (Prod.snd a)],[U.i 0]]) else ∀ (x:U),R [[U.l []],[U.i (Prod.fst a)]] else R [[U.l []],[U.i 0]]):=by subst_vars;kernel_rfl
end Go.Mat

namespace Go.Mat
open Go Go.Den Go.Proofs
set_option maxRecDepth 100000
theorem xB:aE nC 2 (aa Tryz.f72 1):=by
 refine al (F:=mz) (ts:=[12,9,7,6,0,1,8]) (os:=[892]) rfl (fun svs _=>match svs with | .val _ i :: .val _ n :: _=>(n.int - i.int).toNat | _=>0) ?_
 intro pan svs os k ho1 ho2 h
 unfold mz at h
 split at h
 ·rename_i i n a o b m t e xs
  obtain ⟨⟨rfl,rfl,ha,ha0,hab,hb,hm0,hm1,hx,hi0,hin,hn⟩,hk⟩:=h
  refine .eq (wI pan _ _ k i n a b m t xs) ?_
  refine bd (fun hlt=>bd (fun hal=>?_) (fun hal=>bd (fun hf=>?_) (fun hf=>dt ⟨ha0,by omega⟩ ?_))) (fun hlt=>?_)
  ·rw [show (n.int - i.int).toNat=(n.int - (i.int + 1)).toNat + 1 by omega,List.drop_of_length_le (by omega),eU] at hk
   exact hk (.l xs)
  ·rw [show (n.int - i.int).toNat=(n.int - (i.int + 1)).toNat + 1 by omega,aN (by omega),eU] at hk
   rw [decide_eq_true (show (m.int - (xs.length:Int)).toNat=0 by omega),cond_true] at hk
   exact hk (.l xs)
  ·rw [show (n.int - i.int).toNat=(n.int - (i.int + 1)).toNat + 1 by omega,aN (by omega),eU] at hk
   rw [decide_eq_false (show ¬ (m.int - (xs.length:Int)).toNat=0 by omega),cond_false] at hk
   rw [i64_in (x:=i.int + 1) (by omega) (by omega),i64_in (x:=a.int + 1) (by omega) (by omega)]
   have hl:(xs ++ [nth (U.i 0) b.list a.int.toNat]).length=xs.length + 1:=by simp
   refine cu (by unfold room;omega) rfl (blt (by simp only [U.int_i];omega) ⟨⟨by trivial,by trivial,by trivial,by omega,by omega,hb,hm0,hm1,by rw [hl];omega,by omega,by omega,hn⟩,?_⟩)
   rw [hl,show (m.int - ((xs.length + 1:Nat):Int)).toNat=(m.int - (xs.length:Int)).toNat - 1 by omega,show (a.int + 1).toNat=a.int.toNat + 1 by omega,show a.int + 1 + (n.int - (i.int + 1))=a.int + (n.int - i.int) by omega]
   rw [List.take_succ_cons,List.append_cons] at hk
   exact hk
  ·rw [show (n.int - i.int).toNat=0 by omega,eU,List.take_zero,List.append_nil,show a.int + (n.int - i.int)=a.int by omega,← ha] at hk
   exact hk
 ·exact h.elim
theorem xV:aE nC 4 (aa Tryz.f72 2):=by
 refine al (F:=l4) (ts:=[17,14,7,6,0,1,13]) (os:=[892]) rfl (fun svs _=>match svs with | .val _ i :: .val _ n :: _=>(n.int + 4 - i.int).toNat | _=>0) ?_
 intro pan svs os k ho1 ho2 h
 unfold l4 at h
 split at h
 ·rename_i i n a o b m d e xs
  obtain ⟨⟨rfl,rfl,hm0,hm1,hx,hi0,hn0,hin,hn,hd1,hd2⟩,hk⟩:=h
  refine .eq (ud pan _ _ k i n a b m d xs) ?_
  rw [i64_in (x:=n.int + 4) (by omega) (by omega)]
  refine bd (fun hlt=>bd (fun hf=>?_) (fun hf=>?_)) (fun hlt=>?_)
  ·rw [decide_eq_true (show m.int - (xs.length:Int) < n.int + 4 - i.int by omega),cond_true] at hk
   exact hk (.l xs)
  ·rw [i64_in (x:=i.int + 1) (by omega) (by omega),i64_in (x:=(xs.length:Int) - d.int) (by omega) (by omega)]
   generalize hy:nth (U.i 0) xs ((xs.length:Int) - d.int).toNat=y
   have hl:(xs ++ [y]).length=xs.length + 1:=by simp
   refine dt ⟨by omega,by omega⟩ (blt (by omega) (cu (by unfold room;omega) rfl (blt (by simp only [U.int_i];omega) ⟨⟨by trivial,by trivial,hm0,hm1,by rw [hl];omega,by omega,hn0,by omega,hn,hd1,by rw [hl];omega⟩,?_⟩)))
   rw [show (n.int + 4 - i.int).toNat=(n.int + 4 - (i.int + 1)).toNat + 1 by omega,cpL,show U.at xs (xs.length - d.int.toNat)=y by rw [← hy];congr 1;omega] at hk
   rw [hl]
   refine bd (fun h1=>?_) (fun h1=>?_)
   ·rw [decide_eq_true (show m.int - (xs.length:Int) < n.int + 4 - i.int by omega),cond_true] at hk
    exact hk
   ·rw [decide_eq_false (show ¬ m.int - (xs.length:Int) < n.int + 4 - i.int by omega),cond_false] at hk
    exact hk
  ·rw [decide_eq_false (by omega),cond_false,show (n.int + 4 - i.int).toNat=0 by omega,cpL] at hk
   exact hk
 ·exact h.elim
theorem wR:aE nC 0 (aa Tryz.f72 0):=by
 refine al (F:=mq) (ts:=[7,6,0,1]) (os:=[892]) rfl (fun svs _=>match svs with | .val _ a :: _ :: .val _ b :: _=>((b.list.length:Int) - a.int).toNat | _=>0) ?_
 intro pan svs os k ho1 ho2 h
 unfold mq at h
 split at h
 ·rename_i a o b m e xs
  obtain ⟨⟨rfl,rfl,ha,ha0,hab,hb,hm0,hm1,hx⟩,hk⟩:=h
  have hbk:lB b.list:=fun k hk=>tW (k:=k) ho1.2.2.1 hk
  refine .eq (vq pan _ _ k a b m xs) ?_
  obtain ⟨f,hf⟩:∃ f,b.list.length + 1 - a.int.toNat=f + 1:=⟨b.list.length - a.int.toNat,by omega⟩
  rw [hf,unp] at hk
  refine bd (fun hal=>dt ⟨ha0,hal⟩ ?_) (fun hal=>?_)
  ·obtain ⟨hH0,hH1,hL0,hL1,hN0,hN1,hA0,hA1⟩:=um hbk ha0 hal
   have hy:=hbk a.int.toNat (by omega)
   have eT:IntKind.wrap .i64 (U.int (nth (U.i 0) b.list a.int.toNat))=(U.at b.list a.int.toNat).int:=i64_in (show _≤(U.at b.list a.int.toNat).int by omega) (show (U.at b.list a.int.toNat).int≤_ by omega)
   have eH:sH b a=uH b.list a.int:=by
    unfold sH uH
    rw [eT,show min (Int.toNat 4) (IntKind.bits .i64)=4 from rfl,Int.fdiv_eq_ediv_of_nonneg _ (by decide)]
    rfl
   have eL:sL b a=uL b.list a.int:=by
    unfold sL uL
    rw [eT]
    exact wB hy.1 hy.2
   have eR:sR b a=bif uOk b.list a.int then (true,uN b.list a.int,uA b.list a.int) else (false,0,0):=by
    unfold sR
    rw [eH,i64_in (x:=a.int + 1) (by omega) (by omega)]
    rfl
   have hB0:a.int + 1≤uB b.list a.int:=by unfold uB;omega
   rw [decide_eq_true hal,Bool.true_and,cond_true] at hk
   rw [eH,eL,i64_in (x:=a.int + 1) (by omega) (by omega)]
   refine ⟨⟨by trivial,by trivial,show (0:Int)≤a.int + 1 by omega,show a.int + 1≤(b.list.length:Int) by omega,show b.list.length≤1099511627776 by omega,show 0≤uH b.list a.int by omega,show uH b.list a.int≤15 by omega⟩,bi (fun hok=>?_) (fun hok=>?_)⟩
   ·have hok:uOk b.list a.int=false:=by
     rw [eR] at hok
     cases hu:uOk b.list a.int with
     | true=>rw [hu] at hok;cases hok
     | false=>rfl
    rw [hok,cond_false] at hk
    exact hk (.l xs)
   ·have hok:uOk b.list a.int=true:=by
     rw [eR] at hok
     cases hu:uOk b.list a.int with
     | true=>rfl
     | false=>rw [hu] at hok;cases hok
    rw [hok,cond_true] at hk eR
    have eN:sN b a=uN b.list a.int:=by unfold sN;rw [eR]
    have eA:sA b a=uA b.list a.int:=by unfold sA;rw [eR]
    have eB:sB b a=uB b.list a.int:=by unfold sB uB;rw [eA,eN];omega
    have eO:sO b a xs=iy b.list a.int xs:=by unfold sO iy;rw [eA,eN,show uN b.list a.int - 0=uN b.list a.int by omega]
    rw [eN,eA,eB,eO,show uN b.list a.int - 0=uN b.list a.int by omega]
    refine ⟨⟨by trivial,by trivial,by trivial,by omega,by omega,hb,hm0,hm1,hx,by omega,by omega,by omega⟩,bi (fun hl=>?_) (fun hl=>?_)⟩
    ·rw [hl,cond_true] at hk
     have hl':=kV (by simpa using hl)
     rw [List.length_drop] at hl'
     have hBl:uB b.list a.int≤b.list.length:=by unfold uB;omega
     have hOl:(iy b.list a.int xs).length=xs.length + (uN b.list a.int).toNat:=by
      unfold iy
      rw [List.length_append,List.length_take,List.length_drop]
      omega
     refine bi (fun hbe=>?_) (fun hbe=>?_)
     ·have hbe:uB b.list a.int=(b.list.length:Int):=by simpa using hbe
      rw [decide_eq_true hbe,cond_true] at hk
      exact hk.l
     ·have hbe:¬ uB b.list a.int=(b.list.length:Int):=by simpa using hbe
      rw [decide_eq_false hbe,cond_false] at hk
      rw [i64_in (x:=(b.list.length:Int) - uB b.list a.int) (by omega) (by omega),i64_in (x:=uB b.list a.int + 1) (by omega) (by omega),i64_in (x:=uB b.list a.int + 2) (by omega) (by omega)]
      refine bd (fun h1=>?_) (fun h1=>dt ⟨by omega,by omega⟩ (dt ⟨by omega,by omega⟩ ?_))
      ·have hbad:n9 b.list a.int xs=true:=by unfold n9;rw [decide_eq_true (by omega)];simp
       rw [hbad,cond_true] at hk
       exact hk (.l _)
      ·have hy0:=hbk (uB b.list a.int).toNat (by omega)
       have hy1:=hbk (uB b.list a.int + 1).toNat (by omega)
       have eD:sD b a=uD b.list a.int:=by
        unfold sD uD
        rw [eB,i64_in (x:=uB b.list a.int + 1) (by omega) (by omega)]
        exact qW hy0.1 hy0.2 hy1.1 hy1.2
       obtain ⟨hM0,hM1,hC0,hC1⟩:=Ei hbk ha0 hal (by omega)
       have eQ:sQ b a=bif hOk (uL b.list a.int) (b.list.drop (uB b.list a.int + 2).toNat) then (true,uM b.list a.int,uC b.list a.int) else (false,0,0):=by
        unfold sQ
        rw [eL,eB,i64_in (x:=uB b.list a.int + 2) (by omega) (by omega)]
        rfl
       have hD0:0≤uD b.list a.int:=by unfold uD;omega
       rw [eD]
       have hbad:n9 b.list a.int xs=((uD b.list a.int == 0) || decide (((iy b.list a.int xs).length:Int) < uD b.list a.int) || !(hOk (uL b.list a.int) (b.list.drop (uB b.list a.int + 2).toNat))):=by
        unfold n9
        rw [decide_eq_false (by omega),Bool.false_or]
       rw [hbad] at hk
       refine bi (fun h2=>?_) (fun h2=>bd (fun h3=>?_) (fun h3=>⟨⟨by trivial,by trivial,show (0:Int)≤uB b.list a.int + 2 by omega,show uB b.list a.int + 2≤(b.list.length:Int) by omega,show b.list.length≤1099511627776 by omega,show 0≤uL b.list a.int by omega,show uL b.list a.int≤15 by omega⟩,bi (fun h4=>?_) (fun h4=>?_)⟩))
       ·rw [h2,Bool.true_or,Bool.true_or,cond_true] at hk
        exact hk (.l _)
       ·rw [decide_eq_true (by omega),Bool.or_true,Bool.true_or,cond_true] at hk
        exact hk (.l _)
       ·have h4:hOk (uL b.list a.int) (b.list.drop (uB b.list a.int + 2).toNat)=false:=by
         rw [eQ] at h4
         cases hu:hOk (uL b.list a.int) (b.list.drop (uB b.list a.int + 2).toNat) with
         | true=>rw [hu] at h4;cases h4
         | false=>rfl
        rw [h4,Bool.not_false,Bool.or_true,cond_true] at hk
        exact hk (.l _)
       ·have h4:hOk (uL b.list a.int) (b.list.drop (uB b.list a.int + 2).toNat)=true:=by
         rw [eQ] at h4
         cases hu:hOk (uL b.list a.int) (b.list.drop (uB b.list a.int + 2).toNat) with
         | true=>rfl
         | false=>rw [hu] at h4;cases h4
        rw [h4,cond_true] at eQ
        have eM:sM b a=uM b.list a.int:=by unfold sM;rw [eQ]
        have eC:sC b a=uC b.list a.int:=by unfold sC;rw [eQ]
        have eP:sP b a xs=cpL (uM b.list a.int + 4).toNat (uD b.list a.int).toNat (iy b.list a.int xs):=by
         unfold sP
         rw [eM,eD,eO,show uM b.list a.int + 4 - 0=uM b.list a.int + 4 by omega]
        rw [eM,eC,eP,show uM b.list a.int + 4 - 0=uM b.list a.int + 4 by omega]
        have h2':¬ uD b.list a.int=0:=by simpa using h2
        rw [h2,h4,decide_eq_false (by omega),Bool.not_true,Bool.or_false,Bool.or_false,cond_false] at hk
        refine ⟨⟨by trivial,by trivial,hm0,hm1,by omega,by omega,by omega,by omega,by omega,by omega,by omega⟩,bd (fun h5=>?_) (fun h5=>?_)⟩
        ·rw [decide_eq_true h5,cond_true] at hk
         exact hk
        ·rw [decide_eq_false h5,cond_false] at hk
         refine blt (by simp only [U.int_i];omega) ⟨⟨by trivial,by trivial,by trivial,by omega,by omega,hb,hm0,hm1,by rw [oU];omega⟩,bd (fun h6=>?_) (fun h6=>?_)⟩
         ·rw [decide_eq_false (show ¬ uC b.list a.int=(b.list.length:Int) by omega),cond_false] at hk
          rw [ql hbk f (b.list.length + 1 - (uC b.list a.int).toNat) (by omega) (by omega) (by omega)] at hk
          exact hk
         ·rw [decide_eq_true (show uC b.list a.int=(b.list.length:Int) by omega),cond_true] at hk
          exact hk.r
    ·rw [hl,cond_false] at hk
     rw [show (eU (uN b.list a.int).toNat (List.drop (uA b.list a.int).toNat b.list) (m.int - (xs.length:Int)).toNat,([]:List U)).1=eU (uN b.list a.int).toNat (List.drop (uA b.list a.int).toNat b.list) (m.int - (xs.length:Int)).toNat from rfl,hl,cond_false] at hk
     exact hk
  ·rw [decide_eq_false hal,cond_false] at hk
   exact hk
 ·exact h.elim
theorem G8:cG PR 72 zZ zX:=fun fn us hfn hpre=>by
 have hf:PR.funcs[(72:Nat)]? = some Tryz.f72:=by kernel_rfl
 rw [hf] at hfn;cases hfn
 refine aM (C:=nC) (aB ao af (.consP GN .nil) .nil) hf (by kernel_rfl) (dP (by kernel_rfl) wR xB xV) fun hok=>?_
 have hp:Tryz.f72.params.toList=[30,3]:=by kernel_rfl
 rw [hp] at hok
 obtain ⟨b,m,hus⟩:=uU hok.1
 subst hus
 have hb:b.list.length≤1073741824:=hpre
 refine .eq (BD _ b m) ?_
 rw [show zX [[b],[m]]=[[.l (bif (jR b.list m.int).1 == 0 then (jR b.list m.int).2 else [])],[.i (jR b.list m.int).1]] from rfl]
 unfold jR
 refine bd (fun h1=>?_) (fun h1=>bd (fun h2=>?_) (fun h2=>?_))
 ·rw [decide_eq_true h1];rfl
 ·rw [decide_eq_true (show 1048576 < m.int by omega),Bool.or_true];rfl
 ·rw [decide_eq_false h1,decide_eq_false (show ¬ 1048576 < m.int by omega),Bool.or_false,cond_false]
  refine bi (fun h3=>?_) (fun h3=>?_)
  ·have h3:(b.list.length:Int)=0:=by simpa using h3
   rw [unp,decide_eq_false (by omega),Bool.false_and,cond_false]
   rfl
  ·have h3:¬ (b.list.length:Int)=0:=by simpa using h3
   refine ⟨⟨by trivial,by trivial,by trivial,by omega,by omega,hb,by omega,by omega,by omega⟩,dt (by omega) (bi (fun h3=>?_) (fun h3=>?_))⟩
   ·have h3:((unp b.list m.int (b.list.length + 1) 0 []).1 == 0)=true:=h3
    have h4:(unp b.list m.int (b.list.length + 1) 0 []).1=0:=by simpa using h3
    rw [h3,cond_true,h4]
    exact ⟨rfl,rfl⟩
   ·have h3:((unp b.list m.int (b.list.length + 1) 0 []).1 == 0)=false:=h3
    rw [h3,cond_false]
    exact fun _=>rfl
end Go.Mat

namespace Go.Mat
open Go Go.Den Go.Proofs
def cbN (g:U):Int:=IntKind.wrap IntKind.i64 ((16:Int) * 2 ^ min (Int.toNat g.int) (IntKind.bits IntKind.i64))
def cbB (s c f:U):List U:=List.drop (Int.toNat (IntKind.wrap IntKind.i64 (s.int * 16))) (List.take (Int.toNat (IntKind.wrap IntKind.i64 (IntKind.wrap IntKind.i64 (s.int + c.int) * 16))) f.list)
def cbU (s c z f g:U):Int × List U:=jR (List.drop (Int.toNat 0) (List.take (Int.toNat z.int) (cbB s c f))) (cbN g)
def cbV (s c z f g:U):List U:=bif Prod.fst (cbU s c z f g) == 0 then Prod.snd (cbU s c z f g) else []
def whN (f:U):Int:=IntKind.wrap IntKind.i64 ((bif decide ((65536:Int) < IntKind.wrap IntKind.i64 (Int.tdiv ((List.length f.list:Nat):Int) 16)) then (65536:Int) else IntKind.wrap IntKind.i64 (Int.tdiv ((List.length f.list:Nat):Int) 16)) * 16)
def whL (f:U):List U:=List.take (min (List.length f.list / 16) 65536 * 16) f.list
def rcB (s c f:U):List U:=List.drop (Int.toNat (IntKind.wrap IntKind.i64 (s.int * 16))) (List.take (Int.toNat (IntKind.wrap IntKind.i64 (IntKind.wrap IntKind.i64 (s.int + c.int) * 16))) (whL f))
def rcN (g:U):Int:=IntKind.wrap IntKind.i64 ((16:Int) * 2 ^ min (Int.toNat (IntKind.wrap IntKind.u64 g.int)) (IntKind.bits IntKind.i64))
def rcU (s c z f g:U):Int × List U:=jR (List.drop (Int.toNat 0) (List.take (Int.toNat z.int) (rcB s c f))) (rcN g)
def rcV (s c z f g:U):List U:=bif Prod.fst (rcU s c z f g) == 0 then Prod.snd (rcU s c z f g) else []
def yC (b:List U) (m g:Int):Int × List U:=bif ((b.length:Int) == 16 * 2 ^ g.toNat) && (n7 0 b == m) then (0,b) else (13,[])
def cbX (k s c z m g:Int) (f:List U):Int × List U:=
 bif dR k s c z m g then
  bif (k == 0) || (k == 1) then (0,List.replicate (16 * 2 ^ g.toNat) (.i 0)) else
  bif decide (((f.length / 16:Nat):Int) < s + c) then (6,[]) else
  bif k == 3 then (bif (jR (((f.take ((s + c) * 16).toNat).drop (s * 16).toNat).take z.toNat) (16 * 2 ^ g.toNat)).1 == 0 then yC (jR (((f.take ((s + c) * 16).toNat).drop (s * 16).toNat).take z.toNat) (16 * 2 ^ g.toNat)).2 m g else (13,[]))
  else yC ((f.take ((s + c) * 16).toNat).drop (s * 16).toNat) m g
 else (1,[])
def gh (us:List (List U)):Int × List U:=cbX (nth (.i 0) (nth [] us 0) 0).int (nth (.i 0) (nth [] us 0) 1).int (nth (.i 0) (nth [] us 0) 2).int (nth (.i 0) (nth [] us 0) 3).int (nth (.i 0) (nth [] us 0) 4).int (nth (.i 0) (nth [] us 2) 0).int (nth (.i 0) (nth [] us 1) 0).list
def m6:List (List U)→List (List U):=fun us=>[[.l (gh us).2],[.i (gh us).1]]
noncomputable def cbC:Ctx:=mkC PR bM (aH 58 qw (aV 66 yx CL (aV 67 zZ zX (aH 68 Fe aK)))) aL aC aq aq
theorem xS (R:RF) (k s c z m f g:U) {a b} (_:a=(IntKind.wrap .i64 (s.int + c.int) * 16):=by rfl) (_:b=(List.replicate (Int.toNat (cbN g)) (U.i 0)):=by rfl): (run cbC Tryz.f43 [[k,s,c,z,m],[f],[g]] R)=(bif !dR k.int s.int c.int z.int m.int g.int then R [[U.l []],[U.i 1]] else bif decide (g.int < 0) then False else bif k.int == 0 then bif decide ((0:Int)≤cbN g∧cbN g≤cbN g∧cbN g≤(↑room:Int)) then R [[U.l b],[U.i 0]] else False else bif k.int == 1 then bif decide ((0:Int)≤cbN g∧cbN g≤cbN g∧cbN g≤(↑room:Int)) then R [[U.l b],[U.i 0]] else False else bif decide (IntKind.wrap .i64 (s.int + c.int) > IntKind.wrap .i64 (Int.tdiv (f.list.length:Int) 16)) then R [[U.l []],[U.i 6]] else bif decide ((0:Int)≤IntKind.wrap .i64 (s.int * 16)∧IntKind.wrap .i64 (s.int * 16)≤IntKind.wrap .i64 a∧IntKind.wrap .i64 a≤IntKind.wrap .i64 a∧IntKind.wrap .i64 a≤(f.list.length:Int)) && true then yx [[U.l (cbB s c f)]]∧bif k.int == 3 then bif decide ((0:Int)≤0∧(0:Int)≤z.int∧z.int≤z.int∧z.int≤(↑(List.length (cbB s c f)):Int)) && true then zZ [[U.l (List.drop (Int.toNat 0) (List.take z.int.toNat (cbB s c f)))],[U.i (cbN g)]]∧bif Prod.fst (cbU s c z f g) != 0 then R [[U.l []],[U.i 13]] else bif (↑(List.length (cbV s c z f g)):Int) != cbN g then R [[U.l []],[U.i 13]] else bif n7 0 (cbV s c z f g) != m.int then R [[U.l []],[U.i 13]] else R [[U.l (cbV s c z f g)],[U.i 0]] else False else bif (↑(List.length (cbB s c f)):Int) != cbN g then R [[U.l []],[U.i 13]] else bif n7 0 (cbB s c f) != m.int then R [[U.l []],[U.i 13]] else R [[U.l (cbB s c f)],[U.i 0]] else False):=by subst_vars;kernel_rfl
def mW:List (List U)→List (List U):=fun us=>[[.l ((nth (.i 0) (nth [] us 0) 0).list.take (min ((nth (.i 0) (nth [] us 0) 0).list.length / 16) 65536 * 16))]]
theorem wu (R:RF) (f:U):(run K0 Tryz.f29 [[f]] R)=(bif decide ((0:Int)≤0∧(0:Int)≤whN f∧whN f≤whN f∧whN f≤(↑(List.length f.list):Int)) && true then R [[U.l (List.drop (Int.toNat 0) (List.take (Int.toNat (whN f)) f.list))]] else False):=by kernel_rfl
theorem ya (R:RF) (f:U):(run K0 Tryz.f18 [[f]] R)=(bif decide ((0:Int)≤0∧(0:Int)≤whN f∧whN f≤whN f∧whN f≤(↑(List.length f.list):Int)) && true then R [[U.l (List.drop (Int.toNat 0) (List.take (Int.toNat (whN f)) f.list))]] else False):=by kernel_rfl
noncomputable def Jl:Ctx:=mkC PR bM (aH 70 qw (aH 29 mW (aV 72 zZ zX (aH 73 Fe aK)))) aL aC aq aq
theorem uO (R:RF) (k s c z m f g:U) {a b} (_:a=(IntKind.wrap .i64 (s.int + c.int) * 16):=by rfl) (_:b=(List.replicate (Int.toNat (rcN g)) (U.i 0)):=by rfl): (run Jl Tryz.f54 [[k,s,c,z,m],[f],[g]] R)=(bif !dR k.int s.int c.int z.int m.int g.int then R [[U.l []],[U.i 1]] else bif decide (IntKind.wrap .u64 g.int < 0) then False else bif k.int == 0 then bif decide ((0:Int)≤rcN g∧rcN g≤rcN g∧rcN g≤(↑room:Int)) then R [[U.l b],[U.i 0]] else False else bif k.int == 1 then bif decide ((0:Int)≤rcN g∧rcN g≤rcN g∧rcN g≤(↑room:Int)) then R [[U.l b],[U.i 0]] else False else bif decide (IntKind.wrap .i64 (s.int + c.int) > IntKind.wrap .i64 (Int.tdiv (↑(List.length (whL f)):Int) 16)) then R [[U.l []],[U.i 6]] else bif decide ((0:Int)≤IntKind.wrap .i64 (s.int * 16)∧IntKind.wrap .i64 (s.int * 16)≤IntKind.wrap .i64 a∧IntKind.wrap .i64 a≤IntKind.wrap .i64 a∧IntKind.wrap .i64 a≤(↑(List.length (whL f)):Int)) && true then bif k.int == 3 then bif decide ((0:Int)≤0∧(0:Int)≤z.int∧z.int≤z.int∧z.int≤(↑(List.length (rcB s c f)):Int)) && true then zZ [[U.l (List.drop (Int.toNat 0) (List.take z.int.toNat (rcB s c f)))],[U.i (rcN g)]]∧bif Prod.fst (rcU s c z f g) != 0 then R [[U.l []],[U.i 13]] else bif (↑(List.length (rcV s c z f g)):Int) != rcN g then R [[U.l []],[U.i 13]] else bif n7 0 (rcV s c z f g) != m.int then R [[U.l []],[U.i 13]] else bif decide ((0:Nat) + List.length (rcV s c z f g)≤room) && true then R [[U.l ([] ++ bif Prod.fst (rcU s c z f g) == 0 then Prod.snd (rcU s c z f g) else [])],[U.i 0]] else False else False else bif (↑(List.length (rcB s c f)):Int) != rcN g then R [[U.l []],[U.i 13]] else bif n7 0 (rcB s c f) != m.int then R [[U.l []],[U.i 13]] else bif decide ((0:Nat) + List.length (rcB s c f)≤room) && true then R [[U.l ([] ++ rcB s c f)],[U.i 0]] else False else False):=by subst_vars;kernel_rfl
end Go.Mat

namespace Go.Mat
open Go Go.Den Go.Proofs
set_option maxRecDepth 100000
theorem kD {k s c z m g:Int} (h:dR k s c z m g=true):0≤g∧g≤6∧(k=0∨k=1∨(k=2∨k=3)∧2≤s∧0≤c∧c≤64∧s + c≤65536∧(k=2→c=2 ^ g.toNat)∧(k=3→1≤z∧z≤c * 16)):=by
 unfold dR at h
 split at h
 ·cases h
 rename_i hg
 have h64:(2:Int) ^ g.toNat≤64:=by
  have h1:g.toNat≤6:=by omega
  have:(2:Nat) ^ g.toNat≤2 ^ 6:=Nat.pow_le_pow_right (by decide) h1
  have e:((2 ^ g.toNat:Nat):Int)=(2:Int) ^ g.toNat:=by norm_cast
  omega
 refine ⟨by omega,by omega,?_⟩
 split at h
 ·rename_i hk
  rcases hk with hk | hk
  ·exact .inl hk
  ·exact .inr (.inl hk)
 split at h
 ·rename_i hk
  rw [Bool.and_eq_true] at h
  have h1:=of_decide_eq_true h.1
  have h2:=h.2
  unfold ea at h2
  simp only [Bool.and_eq_true,decide_eq_true_eq] at h2
  exact .inr (.inr ⟨.inl hk,by omega,by omega,by omega,by omega,fun _=>h1.1,by omega⟩)
 split at h
 ·rename_i hk
  rw [Bool.and_eq_true] at h
  have h1:=of_decide_eq_true h.1
  have h2:=h.2
  unfold ea at h2
  simp only [Bool.and_eq_true,decide_eq_true_eq] at h2
  exact .inr (.inr ⟨.inr hk,by omega,by omega,by omega,by omega,by omega,by omega⟩)
 ·cases h
theorem DG {g:U} (h0:0≤g.int) (h6:g.int≤6):cbN g=16 * 2 ^ g.int.toNat∧16≤(16:Int) * 2 ^ g.int.toNat∧(16:Int) * 2 ^ g.int.toNat≤1024:=by
 have h64:(2:Int) ^ g.int.toNat≤64∧1≤(2:Int) ^ g.int.toNat:=by
  have h1:g.int.toNat≤6:=by omega
  have:(2:Nat) ^ g.int.toNat≤2 ^ 6:=Nat.pow_le_pow_right (by decide) h1
  have h2:1≤(2:Nat) ^ g.int.toNat:=Nat.one_le_two_pow
  have e:((2 ^ g.int.toNat:Nat):Int)=(2:Int) ^ g.int.toNat:=by norm_cast
  omega
 refine ⟨?_,by omega,by omega⟩
 unfold cbN
 rw [Nat.min_eq_left (by simp [IntKind.bits];omega)]
 exact i64_in (by omega) (by omega)
theorem CE {g:U} (h0:0≤g.int) (h6:g.int≤6):rcN g=cbN g:=by
 unfold rcN cbN
 rw [show IntKind.wrap .u64 g.int=g.int by simp only [IntKind.wrap,IntKind.bits,IntKind.signed];simp;omega]
theorem E4 {f:U} (hl:f.list.length≤maxLen):whN f=((min (f.list.length / 16) 65536 * 16:Nat):Int):=by
 unfold maxLen at hl
 unfold whN
 have e1:IntKind.wrap .i64 (Int.tdiv (f.list.length:Int) 16)=((f.list.length / 16:Nat):Int):=by
  rw [Int.tdiv_eq_ediv_of_nonneg (by omega)]
  exact i64_in (by omega) (by omega)
 rw [e1]
 have e2:(bif decide ((65536:Int) < ((f.list.length / 16:Nat):Int)) then (65536:Int) else ((f.list.length / 16:Nat):Int))=((min (f.list.length / 16) 65536:Nat):Int):=by
  by_cases h:(65536:Int) < ((f.list.length / 16:Nat):Int)
  ·rw [decide_eq_true h,cond_true];omega
  ·rw [decide_eq_false h,cond_false];omega
 rw [e2,i64_in (by omega) (by omega)]
 omega
theorem vr:bB PR 18 mW:=fun fn us hfn=>by
 have hf:PR.funcs[(18:Nat)]? = some Tryz.f18:=by kernel_rfl
 rw [hf] at hfn;cases hfn
 refine aM (C:=K0) (aB ao af .nil .nil) hf (by kernel_rfl) (aI (by kernel_rfl)) fun hok=>?_
 have hp:Tryz.f18.params.toList=[30]:=by kernel_rfl
 rw [hp] at hok
 obtain ⟨f,hus⟩:=gN hok.1
 have hl:f.list.length≤maxLen:=by
  subst hus
  exact (hok.2 [vl (.int .u8) f] (by kernel_rfl)).1.1
 subst hus
 refine .eq (ya _ f) ?_
 rw [E4 hl]
 refine cu (by omega) rfl ?_
 rw [Int.toNat_natCast]
 rfl
theorem ri:bB PR 29 mW:=fun fn us hfn=>by
 have hf:PR.funcs[(29:Nat)]? = some Tryz.f29:=by kernel_rfl
 rw [hf] at hfn;cases hfn
 refine aM (C:=K0) (aB ao af .nil .nil) hf (by kernel_rfl) (aI (by kernel_rfl)) fun hok=>?_
 have hp:Tryz.f29.params.toList=[30]:=by kernel_rfl
 rw [hp] at hok
 obtain ⟨f,hus⟩:=gN hok.1
 have hl:f.list.length≤maxLen:=by
  subst hus
  exact (hok.2 [vl (.int .u8) f] (by kernel_rfl)).1.1
 subst hus
 refine .eq (wu _ f) ?_
 rw [E4 hl]
 refine cu (by omega) rfl ?_
 rw [Int.toNat_natCast]
 rfl
theorem rb {us:List (List U)} (h:ez PR [46,30,3] us):∃ k s c z m f g,us=[[k,s,c,z,m],[f],[g]]:=by
 obtain ⟨u,u2,u3,rfl,h1,h2,h3⟩:=m5 (by kernel_rfl:Cs PR 46=some (true,[.int .i64,.int .i64,.int .i64,.int .i64,.int .u32])) (by kernel_rfl:Cs PR 30=some (false,[.sl false [.int .u8]])) (by kernel_rfl:Cs PR 3=some (false,[.int .i64])) h
 obtain ⟨k,s,c,z,m,rfl⟩:=qy h1
 obtain ⟨f,rfl⟩:=bG h2
 obtain ⟨g,rfl⟩:=bG h3
 exact ⟨k,s,c,z,m,f,g,rfl⟩
theorem l9 {b:List U} {m g:Int} {R:RF} (hR:∀ e l,yC b m g=(e,l)→R [[.l l],[.i e]]):bif (b.length:Int) != 16 * 2 ^ g.toNat then R [[U.l []],[U.i 13]] else bif n7 0 b != m then R [[U.l []],[U.i 13]] else R [[U.l b],[U.i 0]]:=by
 unfold yC at hR
 refine bi (fun h=>?_) (fun h=>bi (fun h2=>?_) (fun h2=>?_))
 ·have h:((b.length:Int) == 16 * 2 ^ g.toNat)=false:=by simpa using h
  rw [h,Bool.false_and,cond_false] at hR
  exact hR _ _ rfl
 ·have h2:(n7 0 b == m)=false:=by simpa using h2
  rw [h2,Bool.and_false,cond_false] at hR
  exact hR _ _ rfl
 ·have h:((b.length:Int) == 16 * 2 ^ g.toNat)=true:=by simpa using h
  have h2:(n7 0 b == m)=true:=by simpa using h2
  rw [h,h2,Bool.and_true,cond_true] at hR
  exact hR _ _ rfl
theorem xl:bB PR 43 m6:=fun fn us hfn=>by
 have hf:PR.funcs[(43:Nat)]? = some Tryz.f43:=by kernel_rfl
 rw [hf] at hfn;cases hfn
 refine aM (C:=cbC) (aB ao af (.cons xr (.consP E3 (.consP IA (.cons IJ .nil)))) .nil) hf (by kernel_rfl) (aI (by kernel_rfl)) fun hok=>?_
 have hp:Tryz.f43.params.toList=[46,30,3]:=by kernel_rfl
 rw [hp] at hok
 obtain ⟨k,s,c,z,m,f,g,hus⟩:=rb hok.1
 have hl:f.list.length≤maxLen:=by
  subst hus
  exact (hok.2 [.agg [vi k,vi s,vi c,vi z,vw m],vl (.int .u8) f,vi g] (by kernel_rfl)).2.1.1
 subst hus
 unfold maxLen at hl
 refine .eq (xS _ k s c z m f g) ?_
 rw [show m6 [[k,s,c,z,m],[f],[g]]=[[.l (cbX k.int s.int c.int z.int m.int g.int f.list).2],[.i (cbX k.int s.int c.int z.int m.int g.int f.list).1]] from rfl]
 refine bi (fun h=>?_) (fun h=>df (fun hg=>?_) ?_)
 ·unfold cbX
  rw [nt h];rfl
 ·have:=kD (nf h)
  omega
 ·obtain ⟨hg0,hg6,hcases⟩:=kD (nf h)
  obtain ⟨hN,hN0,hN1⟩:=DG hg0 hg6
  unfold cbX
  rw [nf h,cond_true,hN]
  refine bi (fun h0=>?_) (fun h0=>bi (fun h1=>?_) (fun h1=>?_))
  ·rw [h0,Bool.true_or,cond_true]
   exact dt ⟨by omega,by omega,by unfold room;omega⟩ (by rw [show ((16:Int) * 2 ^ g.int.toNat).toNat=16 * 2 ^ g.int.toNat by norm_cast])
  ·rw [h1,Bool.or_true,cond_true]
   exact dt ⟨by omega,by omega,by unfold room;omega⟩ (by rw [show ((16:Int) * 2 ^ g.int.toNat).toNat=16 * 2 ^ g.int.toNat by norm_cast])
  ·have k0:¬ k.int=0:=by simpa using h0
   have k1:¬ k.int=1:=by simpa using h1
   obtain ⟨hk,hs,hc0,hc1,hsc,hk2,hk3⟩:=(hcases.resolve_left k0).resolve_left k1
   have e1:IntKind.wrap .i64 (Int.tdiv (f.list.length:Int) 16)=((f.list.length / 16:Nat):Int):=by
    rw [Int.tdiv_eq_ediv_of_nonneg (by omega)]
    exact i64_in (by omega) (by omega)
   have hB:cbB s c f=(f.list.take ((s.int + c.int) * 16).toNat).drop (s.int * 16).toNat:=by
    unfold cbB
    rw [i64_in (x:=s.int + c.int) (by omega) (by omega),i64_in (x:=s.int * 16) (by omega) (by omega),i64_in (x:=(s.int + c.int) * 16) (by omega) (by omega)]
   rw [h0,h1,Bool.or_false,cond_false,e1,i64_in (x:=s.int + c.int) (by omega) (by omega),i64_in (x:=s.int * 16) (by omega) (by omega),i64_in (x:=(s.int + c.int) * 16) (by omega) (by omega)]
   refine bd (fun h2=>?_) (fun h2=>?_)
   ·rw [show decide (((f.list.length / 16:Nat):Int) < s.int + c.int)=true from decide_eq_true (by omega),cond_true]
   ·rw [show decide (((f.list.length / 16:Nat):Int) < s.int + c.int)=false from decide_eq_false (by omega),cond_false]
    have hBl:(cbB s c f).length=(c.int * 16).toNat:=by
     rw [hB,List.length_drop,List.length_take]
     omega
    refine cu (by omega) rfl ⟨show (cbB s c f).length≤1073741824 by omega,bi (fun h3=>?_) (fun h3=>?_)⟩
    ·have hk3:=hk3 (by simpa using h3)
     have hz:z.int≤((cbB s c f).length:Int):=by omega
     have hU:cbU s c z f g=jR (((f.list.take ((s.int + c.int) * 16).toNat).drop (s.int * 16).toNat).take z.int.toNat) (16 * 2 ^ g.int.toNat):=by
      unfold cbU
      rw [hB,hN]
      rfl
     have hV:(cbU s c z f g).1=0→cbV s c z f g=(cbU s c z f g).2:=fun h=>by
      unfold cbV
      rw [h];rfl
     rw [h3,cond_true,← hU]
     refine cu (by omega) rfl ⟨show ((cbB s c f).take z.int.toNat).length≤1073741824 by rw [List.length_take];omega,bi (fun h4=>?_) (fun h4=>?_)⟩
     ·have h4:((cbU s c z f g).1 == 0)=false:=by simpa using h4
      rw [h4];rfl
     ·have h4:(cbU s c z f g).1=0:=by simpa using h4
      rw [hV h4,h4]
      exact l9 (R:=fun v=>v=_) fun e l he=>by rw [he];rfl
    ·rw [h3,cond_false,hB]
     exact l9 (R:=fun v=>v=_) fun e l he=>by rw [he]
theorem uQ {b:List U} {m:Int}:∀ (f:Nat) {a:Int} {out:List U},(out.length:Int)≤m→((unp b m f a out).2.length:Int)≤m
 | 0,_,_,h=>by simp [unp];omega
 | f + 1,a,out,h=>by
  rw [unp]
  have h0:(0:Int)≤m:=by omega
  cases decide (a < (b.length:Int)) && uOk b a with
  | false=>simpa using h0
  | true=>
   rw [cond_true]
   cases hl:(eU (uN b a).toNat (b.drop (uA b a).toNat) (m - out.length).toNat == 0) with
   | false=>simpa using h0
   | true=>
    have hl':=kV (by simpa using hl)
    have hO:((iy b a out).length:Int)≤m:=by
     unfold iy
     rw [List.length_append,List.length_take]
     omega
    rw [cond_true]
    cases decide (uB b a=(b.length:Int)) with
    | true=>exact hO
    | false=>
     rw [cond_false]
     cases n9 b a out with
     | true=>simpa using h0
     | false=>
      rw [cond_false]
      cases hd:decide (m - ((iy b a out).length:Int) < uM b a + 4) with
      | true=>simpa using h0
      | false=>
       have hd:=of_decide_eq_false hd
       have hP:((cpL (uM b a + 4).toNat (uD b a).toNat (iy b a out)).length:Int)≤m:=by
        rw [oU];omega
       rw [cond_false]
       cases decide (uC b a=(b.length:Int)) with
       | true=>exact hP
       | false=>exact uQ f hP
theorem BY:bB PR 54 m6:=fun fn us hfn=>by
 have hf:PR.funcs[(54:Nat)]? = some Tryz.f54:=by kernel_rfl
 rw [hf] at hfn;cases hfn
 refine aM (C:=Jl) (aB ao af (.cons tt (.cons ri (.consP G8 (.cons Fb .nil)))) .nil) hf (by kernel_rfl) (aI (by kernel_rfl)) fun hok=>?_
 have hp:Tryz.f54.params.toList=[46,30,3]:=by kernel_rfl
 rw [hp] at hok
 obtain ⟨k,s,c,z,m,f,g,hus⟩:=rb hok.1
 have hl:f.list.length≤maxLen:=by
  subst hus
  exact (hok.2 [.agg [vi k,vi s,vi c,vi z,vw m],vl (.int .u8) f,vi g] (by kernel_rfl)).2.1.1
 subst hus
 unfold maxLen at hl
 refine .eq (uO _ k s c z m f g) ?_
 rw [show m6 [[k,s,c,z,m],[f],[g]]=[[.l (cbX k.int s.int c.int z.int m.int g.int f.list).2],[.i (cbX k.int s.int c.int z.int m.int g.int f.list).1]] from rfl]
 refine bi (fun h=>?_) (fun h=>df (fun hg=>?_) ?_)
 ·unfold cbX
  rw [nt h];rfl
 ·have:=kD (nf h)
  have e:IntKind.wrap .u64 g.int=g.int:=by simp only [IntKind.wrap,IntKind.bits,IntKind.signed];simp;omega
  omega
 ·obtain ⟨hg0,hg6,hcases⟩:=kD (nf h)
  obtain ⟨hN,hN0,hN1⟩:=DG hg0 hg6
  unfold cbX
  rw [nf h,cond_true,CE hg0 hg6,hN]
  refine bi (fun h0=>?_) (fun h0=>bi (fun h1=>?_) (fun h1=>?_))
  ·rw [h0,Bool.true_or,cond_true]
   exact dt ⟨by omega,by omega,by unfold room;omega⟩ (by rw [show ((16:Int) * 2 ^ g.int.toNat).toNat=16 * 2 ^ g.int.toNat by norm_cast])
  ·rw [h1,Bool.or_true,cond_true]
   exact dt ⟨by omega,by omega,by unfold room;omega⟩ (by rw [show ((16:Int) * 2 ^ g.int.toNat).toNat=16 * 2 ^ g.int.toNat by norm_cast])
  ·have k0:¬ k.int=0:=by simpa using h0
   have k1:¬ k.int=1:=by simpa using h1
   obtain ⟨hk,hs,hc0,hc1,hsc,hk2,hk3⟩:=(hcases.resolve_left k0).resolve_left k1
   have hW:(whL f).length=min (f.list.length / 16) 65536 * 16:=by
    unfold whL
    rw [List.length_take]
    omega
   have e1:IntKind.wrap .i64 (Int.tdiv ((whL f).length:Int) 16)=((min (f.list.length / 16) 65536:Nat):Int):=by
    rw [Int.tdiv_eq_ediv_of_nonneg (by omega),hW,i64_in (by omega) (by omega)]
    omega
   rw [h0,h1,Bool.or_false,cond_false,e1,i64_in (x:=s.int + c.int) (by omega) (by omega),i64_in (x:=s.int * 16) (by omega) (by omega),i64_in (x:=(s.int + c.int) * 16) (by omega) (by omega)]
   refine bd (fun h2=>?_) (fun h2=>?_)
   ·rw [show decide (((f.list.length / 16:Nat):Int) < s.int + c.int)=true from decide_eq_true (by omega),cond_true]
   ·rw [show decide (((f.list.length / 16:Nat):Int) < s.int + c.int)=false from decide_eq_false (by omega),cond_false]
    have hB:rcB s c f=(f.list.take ((s.int + c.int) * 16).toNat).drop (s.int * 16).toNat:=by
     unfold rcB whL
     rw [i64_in (x:=s.int + c.int) (by omega) (by omega),i64_in (x:=s.int * 16) (by omega) (by omega),i64_in (x:=(s.int + c.int) * 16) (by omega) (by omega),List.take_take,Nat.min_eq_left (by omega)]
    have hBl:(rcB s c f).length=(c.int * 16).toNat:=by
     rw [hB,List.length_drop,List.length_take]
     omega
    refine cu (by omega) rfl (bi (fun h3=>?_) (fun h3=>?_))
    ·have hk3:=hk3 (by simpa using h3)
     have hz:z.int≤((rcB s c f).length:Int):=by omega
     have hU:rcU s c z f g=jR (((f.list.take ((s.int + c.int) * 16).toNat).drop (s.int * 16).toNat).take z.int.toNat) (16 * 2 ^ g.int.toNat):=by
      unfold rcU
      rw [hB,CE hg0 hg6,hN]
      rfl
     have hV:(rcU s c z f g).1=0→rcV s c z f g=(rcU s c z f g).2:=fun h=>by
      unfold rcV
      rw [h];rfl
     have hUl:((rcU s c z f g).2.length:Int)≤1048576:=by
      rw [hU]
      unfold jR
      rw [decide_eq_false (by omega),decide_eq_false (by omega),Bool.or_false,cond_false]
      have:=uQ (b:=((f.list.take ((s.int + c.int) * 16).toNat).drop (s.int * 16).toNat).take z.int.toNat) (m:=16 * 2 ^ g.int.toNat) ((((f.list.take ((s.int + c.int) * 16).toNat).drop (s.int * 16).toNat).take z.int.toNat).length + 1) (a:=0) (out:=[]) (by simp;omega)
      omega
     rw [h3,cond_true,← hU]
     refine cu (by omega) rfl ⟨show ((rcB s c f).take z.int.toNat).length≤1073741824 by rw [List.length_take];omega,bi (fun h4=>?_) (fun h4=>?_)⟩
     ·have h4:((rcU s c z f g).1 == 0)=false:=by simpa using h4
      rw [h4];rfl
     ·have h4:(rcU s c z f g).1=0:=by simpa using h4
      rw [hV h4,h4]
      have hr:∀ x:Prop,(bif decide (0 + (rcU s c z f g).2.length≤room) && true then x else False)=x:=fun x=>by
       rw [decide_eq_true (by unfold room;omega)];rfl
      rw [hr]
      exact l9 (R:=fun v=>v=_) fun e l he=>by rw [he];rfl
    ·have hr:∀ x:Prop,(bif decide (0 + (rcB s c f).length≤room) && true then x else False)=x:=fun x=>by
      rw [decide_eq_true (by unfold room;omega)];rfl
     rw [h3,cond_false,hr,hB]
     exact l9 (R:=fun v=>v=_) fun e l he=>by rw [he]
end Go.Mat

namespace Go.Mat
open Go Go.Den Go.Proofs
noncomputable def K82:Ctx:=mkC PR bM aK aL aC aq aq
def ko (T:List U) (k:Nat):U:=nth (.i 0) (nth (.i 0) T (k / 8)).list (k % 8)
def aY (j:Nat) (T:List U) (i:Int):U:=bif decide (i < 0) then .i 0 else nth (.i 0) (ko T i.toNat).list j
def AA:List (List U)→List (List U):=fun us=>[[aY 0 (nth (.i 0) (nth [] us 0) 0).list (nth (.i 0) (nth [] us 1) 0).int,aY 1 (nth (.i 0) (nth [] us 0) 0).list (nth (.i 0) (nth [] us 1) 0).int,aY 2 (nth (.i 0) (nth [] us 0) 0).list (nth (.i 0) (nth [] us 1) 0).int,
 aY 3 (nth (.i 0) (nth [] us 0) 0).list (nth (.i 0) (nth [] us 1) 0).int,aY 4 (nth (.i 0) (nth [] us 0) 0).list (nth (.i 0) (nth [] us 1) 0).int]]
theorem ET (R:RF) (T i:U) {c b a d} (_:c=(Int.tdiv i.int 8):=by rfl) (_:b=(U.list (nth (.i 0) T.list (Int.toNat (IntKind.wrap .i64 c)))):=by rfl) (_:a=(U.list (nth (.i 0) b (Int.toNat (Int.tmod i.int 8)))):=by rfl) (_:d=(List.tail (List.tail a)):=by rfl): (run K82 Tryz.f46 [[T],[i]] R)=(bif decide (i.int < 0) then R [[U.i 0,U.i 0,U.i 0,U.i 0,U.i 0]] else bif decide (IntKind.wrap .i64 c ≥ (T.list.length:Int)) then R [[U.i 0,U.i 0,U.i 0,U.i 0,U.i 0]] else bif decide ((0:Int)≤IntKind.wrap .i64 c∧IntKind.wrap .i64 c < (T.list.length:Int)) then bif decide (Int.tmod i.int 8 ≥ (↑(List.length b):Int)) then R [[U.i 0,U.i 0,U.i 0,U.i 0,U.i 0]] else bif decide ((0:Int)≤Int.tmod i.int 8∧Int.tmod i.int (8:Int) < (↑(List.length b):Int)) then R [[nth (.i 0) a 0,nth (.i 0) (List.tail a) 0,nth (.i 0) d 0,nth (.i 0) (List.tail d) 0,nth (.i 0) (List.tail (List.tail d)) 0]] else False else False):=by subst_vars;kernel_rfl
noncomputable def HZ:Tr:=fun vs objs k=>match vs,objs with
 | [.val (.int .i64) i,.agg [.val (.sl false [.sl true ec]) T]],[]=>ec=EC∧k (.ret [.clo 76 [.ptr 2097153 0,.ptr 2097281 0]]) [(2097153,.box [.val (.sl false [.sl true EC]) T]),(2097281,.box [vi i])]
 | _,_=>False
theorem CM (R:RT) (T i:U):(jP K82 Tryz.f64 [vi i,.agg [vl (.sl true EC) T]] [] R)=(R (Out.ret [SV.clo 76 [SV.ptr 2097153 0,SV.ptr 2097281 0]]) [(2097153,Obj.box [SV.val (Ct.sl false [Ct.sl true [.int .i64,.int .i64,.int .i64,.int .i64,.int .u32]]) T]),(2097281,Obj.box [vi i])]):=by kernel_rfl
end Go.Mat

namespace Go.Mat
open Go Go.Den Go.Proofs
set_option maxRecDepth 100000
theorem iK (d:U):∀ (l:List U) (n:Nat),l.length≤n→nth d l n=d
 | [],n,_=>kK d n
 | _ :: r,0,h=>by simp at h
 | _ :: r,n + 1,h=>iK d r n (by simpa using h)
theorem Ho {i:Int} (h0:0≤i):Int.tdiv i 8=((i.toNat / 8:Nat):Int):=by
 rw [Int.tdiv_eq_ediv_of_nonneg h0];omega
theorem Hl {i:Int} (h0:0≤i):Int.tmod i 8=((i.toNat % 8:Nat):Int):=by
 rw [Int.tmod_eq_emod_of_nonneg h0];omega
theorem Im:bB PR 46 AA:=fun fn us hfn=>by
 have hf:PR.funcs[(46:Nat)]? = some Tryz.f46:=by kernel_rfl
 rw [hf] at hfn;cases hfn
 refine aM (C:=K82) (aB ao af .nil .nil) hf (by kernel_rfl) (aI (by kernel_rfl)) fun hok=>?_
 have hp:Tryz.f46.params.toList=[24,3]:=by kernel_rfl
 rw [hp] at hok
 obtain ⟨u,u2,rfl,h1,h2⟩:=bR (by kernel_rfl:Cs PR 24=some (true,[.sl false [.sl true EC]])) (by kernel_rfl:Cs PR 3=some (false,[.int .i64])) hok.1
 obtain ⟨T,rfl⟩:=bG h1
 obtain ⟨i,rfl⟩:=bG h2
 have hi:-9223372036854775808≤i.int∧i.int≤9223372036854775807:=(hok.2 [.agg [.val (.sl false [.sl true EC]) T],.val (.int .i64) i] (by rfl)).2.1
 refine .eq (ET _ T i) ?_
 rw [show AA [[T],[i]]=[[aY 0 T.list i.int,aY 1 T.list i.int,aY 2 T.list i.int,aY 3 T.list i.int,aY 4 T.list i.int]] from rfl]
 unfold aY ko
 refine bd (fun h0=>by rw [decide_eq_true h0];rfl) (fun h0=>?_)
 rw [decide_eq_false h0]
 have hw:IntKind.wrap .i64 (Int.tdiv i.int 8)=((i.int.toNat / 8:Nat):Int):=by
  rw [Ho (by omega)];exact i64_in (by omega) (by omega)
 rw [hw,Hl (by omega)]
 simp only [Int.toNat_natCast,cond_false]
 refine bd (fun h3=>?_) (fun h3=>dt ⟨by omega,by omega⟩ (bd (fun h4=>?_) (fun h4=>dt ⟨by omega,by omega⟩ ?_)))
 ·rw [iK _ T.list _ (by omega),show (U.i 0).list=[] from rfl]
  simp only [kK,show (U.i 0).list=[] from rfl]
 ·rw [iK _ (nth (U.i 0) T.list _).list _ (by omega),show (U.i 0).list=[] from rfl]
  simp only [kK]
 ·simp only [aD]
theorem It:ee PR 64 HZ:=fun fn hfn=>by
 have hf:PR.funcs[(64:Nat)]? = some Tryz.f64:=by kernel_rfl
 rw [hf] at hfn;cases hfn
 refine dB (C:=K82) (aB ao af .nil .nil) hf (by kernel_rfl) (aI (by kernel_rfl)) fun vs objs R h1 h2 h=>?_
 clear h1 h2
 unfold HZ at h
 split at h
 ·obtain ⟨rfl,h⟩:=h
  exact .eq (CM R _ _) h
 ·exact h.elim
end Go.Mat

namespace Go.Mat
open Go Go.Den Go.Proofs
abbrev KSt:Type:=St→Prop
abbrev TRC:Ct:=.sl false [.sl true EC]
noncomputable def KJ:Ctx:=(mkC PR bM (aH 46 AA aK) aL aC aq aq).panics fun _ _=>False
noncomputable def nd:Code:=bh Tryz.f76
noncomputable def on0:Array Oper:=ax (piece nd [0])
noncomputable def on1:Array Oper:=ax (piece nd [1,0,0,0])
noncomputable def on2:Array Oper:=ax (piece nd [1,0,0,1,1,0,0,0])
noncomputable def on3:Array Oper:=ax (piece nd [1,0,0,1,1,0,0,1,0])
noncomputable def on4:Array Oper:=ax (piece nd [1,0,0,1,1,0,0,1,1,0])
noncomputable def on5:Array Oper:=ax (piece nd [1,0,0,1,1,1])
theorem Ci (k:KSt) (T:U):(ak KJ on0.toList on0.toList ⟨[(1,.rptr [TRC] [T])],[]⟩ k)=(k (St.mk [(10,vi (U.i 0)),(9,vi (U.i (IntKind.wrap IntKind.i64 ((↑(List.length (U.list (nth (U.i 0) (List.drop (0:Nat) [T]) (0:Nat)))):Int) * 8)))),(8,vi (U.i (↑(List.length (U.list (nth (U.i
 0) (List.drop (0:Nat) [T]) (0:Nat)))):Int))),(7,SV.val (Ct.sl false [Ct.sl true [.int .i64,.int .i64,.int .i64,.int .i64,.int .u32]]) (nth (U.i 0) (List.drop (0:Nat) [T]) (0:Nat))),(6,
 SV.rptr [Ct.sl false [Ct.sl true [.int .i64,.int .i64,.int .i64,.int .i64,.int .u32]]] [T]),(1,SV.rptr [Ct.sl false [Ct.sl true [.int .i64,.int .i64,.int .i64,.int .i64,.int .u32]]] [T])] [])):=by kernel_rfl
theorem B2 (k:KSt) (i n:U):(ak KJ on1.toList on1.toList ⟨[(10,vi i),(9,vi n)],[]⟩ k)=(k (St.mk [(11,SV.val Ct.bool (U.b (decide (i.int < n.int)))),(10,vi i),(9,vi n)] [])):=by kernel_rfl
theorem Dr (k:KSt) (i:U):(ak KJ on2.toList on2.toList ⟨[(10,vi i)],[]⟩ k)=(k (St.mk [(4,vi i),(12,vi i),(10,vi i)] [])):=by kernel_rfl
theorem Dm (k:KSt) (i T:U):(ak KJ on3.toList on3.toList ⟨[(4,vi i),(1,.rptr [TRC] [T])],[]⟩ k)=(k (St.mk [(5,SV.ptr 640 0),(15,SV.agg [vi (aY (0:Nat) T.list i.int),vi (aY (1:Nat) T.list i.int),vi (aY (2:Nat) T.list i.int),vi (aY (3:Nat) T.list i.int),SV.val (.int .u32) (aY
 (4:Nat) T.list i.int)]),(14,vi i),(13,SV.agg [SV.val (Ct.sl false [Ct.sl true [.int .i64,.int .i64,.int .i64,.int .i64,.int .u32]]) T]),(4,vi i),(1,SV.rptr [Ct.sl false [Ct.sl true [.int
 .i64,.int .i64,.int .i64,.int .i64,.int .u32]]] [T])] [(640,Obj.box [vi (aY (0:Nat) T.list i.int),vi (aY (1:Nat) T.list i.int),vi (aY (2:Nat) T.list i.int),vi (aY (3:Nat) T.list
 i.int),SV.val (.int .u32) (aY (4:Nat) T.list i.int)])])):=by kernel_rfl
theorem B1 (k:KSt) (i s a b c d e:U):(ak KJ on4.toList (on4.toList.take 14) ⟨[(0,.own 1),(2,.rptr [.int .i64] [s]),(4,vi i),(5,.rptr EC [a,b,c,d,e])],[]⟩ k)=(bif U.int (nth (.i 0) (List.drop (0:Nat) [a,b,c,d,e]) 0) == 2 then k (St.mk [(29,.agg [vi s,vi i,vi a,vi b,vi c,vi d,.val (.int .u32) e]),(24,.val .bool (U.b true)),(28,.agg [vi a,vi b,vi c,vi d,.val (.int .u32) e]),(24,.val .bool (U.b true)),(27,vi i),(24,.val .bool (U.b true)),(26,vi s),(24,.val .bool (U.b true)),(25,.own 1),(24,.val .bool (U.b true)),(24,.val .bool (U.b true)),(23,.val .bool (U.b true)),(22,.und),(19,.val .bool (U.b true)),(21,.und),(19,.val .bool (U.b true)),(20,.und),(19,.val .bool (U.b true)),(19,.val .bool (U.b (U.int (nth (.i 0) (List.drop (0:Nat) [a,b,c,d,e]) 0) == 2))),(18,.val .bool (U.b (U.int (nth (.i 0) (List.drop (0:Nat) [a,b,c,d,e]) 0) == 2))),(17,vi (nth (.i 0) (List.drop (0:Nat) [a,b,c,d,e]) 0)),(16,.rptr [.int .i64,.int .i64,.int .i64,.int .i64,.int .u32] [a,b,c,d,e]),(0,.own 1),(2,.rptr [.int .i64] [s]),(4,vi i),(5,.rptr [.int .i64,.int .i64,.int .i64,.int .i64,.int .u32] [a,b,c,d,e])] []) else bif U.int (nth (.i 0) (List.drop (0:Nat) [a,b,c,d,e]) 0) == 3 then k (St.mk [(29,.agg [vi s,vi i,vi a,vi b,vi c,vi d,.val (.int .u32) e]),(24,.val .bool (U.b true)),(28,.agg [vi a,vi b,vi c,vi d,.val (.int .u32) e]),(24,.val .bool (U.b true)),(27,vi i),(24,.val .bool (U.b true)),(26,vi s),(24,.val .bool (U.b true)),(25,.own 1),(24,.val .bool (U.b true)),(24,.val .bool (U.b (U.int (nth (.i 0) (List.drop (0:Nat) [a,b,c,d,e]) 0) == 3))),(23,.val .bool (U.b (U.int (nth (.i 0) (List.drop (0:Nat) [a,b,c,d,e]) 0) == 3))),(22,.val .bool (U.b (U.int (nth (.i 0) (List.drop (0:Nat) [a,b,c,d,e]) 0) == 3))),(19,.val .bool (U.b false)),(21,vi (nth (.i 0) (List.drop (0:Nat) [a,b,c,d,e]) 0)),(19,.val .bool (U.b false)),(20,.rptr [.int .i64,.int .i64,.int .i64,.int .i64,.int .u32] [a,b,c,d,e]),(19,.val .bool (U.b false)),(19,.val .bool (U.b (U.int (nth (.i 0) (List.drop (0:Nat) [a,b,c,d,e]) 0) == 2))),(18,.val .bool (U.b (U.int (nth (.i 0) (List.drop (0:Nat) [a,b,c,d,e]) 0) == 2))),(17,vi (nth (.i 0) (List.drop (0:Nat) [a,b,c,d,e]) 0)),(16,.rptr [.int .i64,.int .i64,.int .i64,.int .i64,.int .u32] [a,b,c,d,e]),(0,.own 1),(2,.rptr [.int .i64] [s]),(4,vi i),(5,.rptr [.int .i64,.int .i64,.int .i64,.int .i64,.int .u32] [a,b,c,d,e])] []) else k (St.mk [(29,.und),(24,.val .bool (U.b false)),(28,.und),(24,.val .bool (U.b false)),(27,.und),(24,.val .bool (U.b false)),(26,.und),(24,.val .bool (U.b false)),(25,.und),(24,.val .bool (U.b false)),(24,.val .bool (U.b (U.int (nth (.i 0) (List.drop (0:Nat) [a,b,c,d,e]) 0) == 3))),(23,.val .bool (U.b (U.int (nth (.i 0) (List.drop (0:Nat) [a,b,c,d,e]) 0) == 3))),(22,.val .bool (U.b (U.int (nth (.i 0) (List.drop (0:Nat) [a,b,c,d,e]) 0) == 3))),(19,.val .bool (U.b false)),(21,vi (nth (.i 0) (List.drop (0:Nat) [a,b,c,d,e]) 0)),(19,.val .bool (U.b false)),(20,.rptr [.int .i64,.int .i64,.int .i64,.int .i64,.int .u32] [a,b,c,d,e]),(19,.val .bool (U.b false)),(19,.val .bool (U.b (U.int (nth (.i 0) (List.drop (0:Nat) [a,b,c,d,e]) 0) == 2))),(18,.val .bool (U.b (U.int (nth (.i 0) (List.drop (0:Nat) [a,b,c,d,e]) 0) == 2))),(17,vi (nth (.i 0) (List.drop (0:Nat) [a,b,c,d,e]) 0)),(16,.rptr [.int .i64,.int .i64,.int .i64,.int .i64,.int .u32] [a,b,c,d,e]),(0,.own 1),(2,.rptr [.int .i64] [s]),(4,vi i),(5,.rptr [.int .i64,.int .i64,.int .i64,.int .i64,.int .u32] [a,b,c,d,e])] [])):=by kernel_rfl
theorem Bf (k:KSt):(ak KJ on4.toList (on4.toList.drop 15) ⟨[(30,.val .bool (.b true)),(24,.val .bool (.b true))],[]⟩ k)=(k (St.mk [(32,SV.val Ct.bool (U.b !true)),(31,SV.val Ct.bool (U.b !true)),(24,SV.val Ct.bool (U.b true)),(30,SV.val Ct.bool (U.b true)),(24,SV.val Ct.bool (U.b true))] [])):=by kernel_rfl
theorem AT (k:KSt) (i s a b c d e:U):(ak KJ on4.toList on4.toList ⟨[(0,.own 1),(2,.rptr [.int .i64] [s]),(4,vi i),(5,.rptr EC [a,b,c,d,e])],[]⟩ k)=(bif U.int (nth (.i 0) (List.drop (0:Nat) [a,b,c,d,e]) 0) == 2 then False else bif U.int (nth (.i 0) (List.drop (0:Nat) [a,b,c,d,e]) 0) == 3 then False else k (St.mk [(32,.val .bool (U.b false)),(31,.und),(24,.val .bool (U.b false)),(30,.und),(24,.val .bool (U.b false)),(29,.und),(24,.val .bool (U.b false)),(28,.und),(24,.val .bool (U.b false)),(27,.und),(24,.val .bool (U.b false)),(26,.und),(24,.val .bool (U.b false)),(25,.und),(24,.val .bool (U.b false)),(24,.val .bool (U.b (U.int (nth (.i 0) (List.drop (0:Nat) [a,b,c,d,e]) 0) == 3))),(23,.val .bool (U.b (U.int (nth (.i 0) (List.drop (0:Nat) [a,b,c,d,e]) 0) == 3))),(22,.val .bool (U.b (U.int (nth (.i 0) (List.drop (0:Nat) [a,b,c,d,e]) 0) == 3))),(19,.val .bool (U.b false)),(21,vi (nth (.i 0) (List.drop (0:Nat) [a,b,c,d,e]) 0)),(19,.val .bool (U.b false)),(20,.rptr [.int .i64,.int .i64,.int .i64,.int .i64,.int .u32] [a,b,c,d,e]),(19,.val .bool (U.b false)),(19,.val .bool (U.b (U.int (nth (.i 0) (List.drop (0:Nat) [a,b,c,d,e]) 0) == 2))),(18,.val .bool (U.b (U.int (nth (.i 0) (List.drop (0:Nat) [a,b,c,d,e]) 0) == 2))),(17,vi (nth (.i 0) (List.drop (0:Nat) [a,b,c,d,e]) 0)),(16,.rptr [.int .i64,.int .i64,.int .i64,.int .i64,.int .u32] [a,b,c,d,e]),(0,.own 1),(2,.rptr [.int .i64] [s]),(4,vi i),(5,.rptr [.int .i64,.int .i64,.int .i64,.int .i64,.int .u32] [a,b,c,d,e])] [])):=by kernel_rfl
theorem D6 (k:KSt) (i:U):(ak KJ on5.toList on5.toList ⟨[(10,vi i)],[]⟩ k)=(k (St.mk [(10,vi (U.i (IntKind.wrap IntKind.i64 (i.int + 1)))),(33,vi (U.i (IntKind.wrap IntKind.i64 (i.int + 1)))),(10,vi i)] [])):=by kernel_rfl
end Go.Mat

namespace Go.Mat
open Go Go.Den Go.Proofs Go.RowKit
set_option maxRecDepth 100000
theorem mw:KJ.Ok:=(aB ao af (.cons Im .nil) .nil).panics _
theorem jE:∀ s σ,¬ KJ.pan s σ:=fun _ _ h=>h
abbrev LNC:List Ct:=[.int .i64,.int .i64,.int .i64,.int .i64,.int .i64,.int .i64,.int .u32]
def dK (s:U) (T:List U) (i:Nat):List U:=[s,.i i,aY 0 T i,aY 1 T i,aY 2 T i,aY 3 T i,aY 4 T i]
def gl (T:List U) (i:Nat):Bool:=(aY 0 T i).int == 2 || (aY 0 T i).int == 3
def aQ (s:U) (T:List U) (n:Nat):List (List U):=((List.range n).filter (gl T)).map (dK s T)
def n3 (l:List U):List SV:=[.agg (vals LNC l)]
theorem hH {s:U} {T:List U} {i:Nat} (h:gl T i=true):aQ s T (i + 1)=aQ s T i ++ [dK s T i]:=by
 unfold aQ
 rw [List.range_succ,List.filter_append,List.map_append]
 simp [h]
theorem jn {s:U} {T:List U} {i:Nat} (h:gl T i=false):aQ s T (i + 1)=aQ s T i:=by
 unfold aQ
 rw [List.range_succ,List.filter_append,List.map_append]
 simp [h]
theorem nO {s:U} {T:List U}:∀ (d i:Nat),∃ r,aQ s T (i + d)=aQ s T i ++ r
 | 0,i=>⟨[],by simp⟩
 | d + 1,i=>by
  obtain ⟨r,hr⟩:=nO (s:=s) (T:=T) d i
  cases h:gl T (i + d) with
  | true=>exact ⟨r ++ [dK s T (i + d)],by rw [← Nat.add_assoc,hH h,hr,List.append_assoc]⟩
  | false=>exact ⟨r,by rw [← Nat.add_assoc,jn h,hr]⟩
theorem xy {s:U} {T:List U} {i n:Nat} (h:gl T i=true) (hn:i < n):((aQ s T n).map n3)[(aQ s T i).length]? = some (n3 (dK s T i)):=by
 obtain ⟨r,hr⟩:=nO (s:=s) (T:=T) (n - (i + 1)) (i + 1)
 rw [show i + 1 + (n - (i + 1))=n by omega,hH h,List.append_assoc] at hr
 rw [hr,List.map_append,List.getElem?_append_right (by simp)]
 simp
theorem BE {w:World} {Z Z':Nat→Prop} {G:Nat→Value} {s a b c d e f:U} {vs:List Value} (h:ab w Z G (vals LNC [s,a,b,c,d,e,f]) vs):ab w Z' G (vals LNC [s,a,b,c,d,e,f]) vs:=by
 obtain ⟨v1,t1,e1,r1,v2,t2,e2,r2,v3,t3,e3,r3,v4,t4,e4,r4,v5,t5,e5,r5,v6,t6,e6,r6,v7,t7,e7,r7,r8⟩:=h
 exact ⟨v1,t1,e1,r1,v2,t2,e2,r2,v3,t3,e3,r3,v4,t4,e4,r4,v5,t5,e5,r5,v6,t6,e6,r6,v7,t7,e7,r7,r8⟩
theorem Dp:bh Tryz.f76 = .seq (.region (av (piece nd [0])) on0 false) (.block 0 (.loop (.seq (.region (av (piece nd [1,0,0,0])) on1 false) (.seq (.cond (.tmp 11) .skip (.exit 0))
  (.seq (.block 1 (.seq (.region (av (piece nd [1,0,0,1,1,0,0,0])) on2 false) (.seq (.region (av (piece nd [1,0,0,1,1,0,0,1,0])) on3 false) (.seq (.region (av (piece nd [1,0,0,1,1,0,0,1,1,0])) on4 false) (.cond (.tmp 32) .ret .skip)))))
    (.region (av (piece nd [1,0,0,1,1,1])) on5 false)))))):=by kernel_rfl
noncomputable def Gi:Oper:=(on4[14]?).get (by kernel_rfl)
theorem Gs:on4[14]? = some Gi:=by kernel_rfl
theorem Ga:Gi.op = .call { callee:=.value (.tmp 25),args:=#[.tmp 29],argTypes:=#[72] }:=by kernel_rfl
theorem DB:Gi.dst=some 30:=by kernel_rfl
theorem xb:Gi.guard=some (8,true):=by kernel_rfl
theorem zD (s T:U) (hT:T.list.length≤1048576):Hq PR 76 [.rptr [TRC] [T],.rptr [.int .i64] [s]] ((aQ s T.list (8 * T.list.length)).map n3):=by
 intro w0 Z vs l J hZ hvs hJ0 hfut hround
 obtain ⟨p1,t1,rfl,hp1,p2,t2,rfl,hp2,ht⟩:=hvs
 have ht:t2=[]:=ht
 subst ht
 generalize hNN:8 * T.list.length=N at hround ⊢
 generalize hyv:(Value.func (.yield l) #[] #[])=yv at hround ⊢
 obtain ⟨G,hG⟩:∃ G:Nat→Value,G=fun i=>if i=1 then yv else .pointer none:=⟨_,rfl⟩
 have hflat:∀ i,(G i).oneCell' = true:=fun i=>by
  rw [hG,← hyv]
  by_cases h:i=1
  ·simp only [h,if_true];rfl
  ·simp only [h,if_false];rfl
 have hG1:G 1=yv:=by rw [hG];rfl
 have hf:PR.funcs[(76:Nat)]? = some Tryz.f76:=by kernel_rfl
 have hb:Tryz.f76.body=some (bh Tryz.f76):=by kernel_rfl
 have hnt:Tryz.f76.ntmps=34:=by kernel_rfl
 have hres:∀ (a:Act) (w:World),∃ v,(results Tryz.f76 a.tmps).run PR w = .ok v w:=by
  intro a w
  have hr:Tryz.f76.results = #[]:=by kernel_rfl
  exact ⟨_,results_none hr _ _ _⟩
 refine calls_of_wp hf hb ?_
 rw [Dp,hnt]
 generalize ha0:({ tmps:=(#[yv] ++ [p1,p2].toArray) ++ Array.replicate (34 - (#[yv] ++ [p1,p2].toArray).size) undef,defers:=[] }:Act)=a0
 have a0s:a0.tmps.size=34:=by rw [← ha0];simp
 have a00:a0.tmps.getD 0 undef=yv:=by rw [← ha0];simp [Array.getD_eq_getD_getElem?]
 have a01:a0.tmps.getD 1 undef=p1:=by rw [← ha0];simp [Array.getD_eq_getD_getElem?]
 have a02:a0.tmps.getD 2 undef=p2:=by rw [← ha0];simp [Array.getD_eq_getD_getElem?]
 have a0d:a0.defers=[]:=by rw [← ha0]
 have rpT:∀ {w:World} {Z':Nat→Prop} {G':Nat→Value},(∀ b,Z b→Z' b)→(∀ b,Z b→w.heap[b]? = w0.heap[b]?)→ag w Z' G' (.rptr [TRC] [T]) p1:=fun hs hz=>
  ag.mono ⟨hs,hz⟩ _ _ (show ag w0 Z _ (.rptr [TRC] [T]) p1 from hp1)
 have rpS:∀ {w:World} {Z':Nat→Prop} {G':Nat→Value},(∀ b,Z b→Z' b)→(∀ b,Z b→w.heap[b]? = w0.heap[b]?)→ag w Z' G' (.rptr [.int .i64] [s]) p2:=fun hs hz=>
  ag.mono ⟨hs,hz⟩ _ _ (show ag w0 Z _ (.rptr [.int .i64] [s]) p2 from hp2)
 refine wp_seq (i4 mw jE (n:=34) (G:=G) (Z:=Z) (env:=[(1,.rptr [TRC] [T])]) (k:=fun σ=>get σ.env 9=vi (.i N)∧get σ.env 10=vi (.i 0)) (by kernel_rfl) (by kernel_rfl) a0s (fun t=>?_) hZ hflat ?_ ?_)
 ·rw [aF]
  split
  ·rename_i h;subst h;rw [a01];exact rpT (fun _ h=>h) (fun _ _=>rfl)
  ·trivial
 ·rw [Ci]
  refine ⟨?_,rfl⟩
  show vi (.i (IntKind.wrap .i64 (((T.list.length:Nat):Int) * 8)))=vi (.i N)
  rw [i64_in (by omega) (by omega),show ((T.list.length:Nat):Int) * 8=(N:Int) by omega]
 ·intro σ1 a1 w1 Z1 G1 ⟨hk9,hk10⟩ hs1 hF1 hz1 hd1 _ hkeep
  have e0:a1.tmps.getD 0 undef=yv:=(hkeep 0 (by decide +kernel)).trans a00
  have e1:a1.tmps.getD 1 undef=p1:=(hkeep 1 (by decide +kernel)).trans a01
  have e2:a1.tmps.getD 2 undef=p2:=(hkeep 2 (by decide +kernel)).trans a02
  have e9:a1.tmps.getD 9 undef = .int .i64 (N:Int):=by
   have:=hs1 9
   rw [hk9] at this
   exact this.1
  have e10:a1.tmps.getD 10 undef = .int .i64 ((0:Nat):Int):=by
   have:=hs1 10
   rw [hk10] at this
   exact this.1
  refine wp_block (wp_loop (fun a w=>∃ j,j≤N∧a.tmps.size=34∧a.defers=[]∧a.tmps.getD 0 undef=yv∧a.tmps.getD 1 undef=p1∧a.tmps.getD 2 undef=p2∧a.tmps.getD 9 undef = .int .i64 (N:Int)∧a.tmps.getD 10 undef = .int .i64 ((j:Nat):Int)∧J (aQ s T.list j).length w∧(∀ b,Z b→w.heap[b]? = w0.heap[b]?)∧w0.heap.size≤w.heap.size)
   (fun a _=>N - (match a.tmps.getD 10 undef with | .int _ i=>i.toNat | _=>0)) ⟨0,Nat.zero_le _,hz1,hd1.trans a0d,e0,e1,e2,e9,e10,hfut 0 _ _ hJ0 hF1,fun b hb=>hF1.block b (hZ b hb) id,hF1.size⟩ ?_)
  rintro a w ⟨j,hj,hs,hd,h0,h1,h2,h9,h10,hJ,hz,hsz⟩
  have hZw:∀ b,Z b→b < w.heap.size:=fun b hb=>Nat.lt_of_lt_of_le (hZ b hb) hsz
  refine wp_seq (i4 mw jE (n:=34) (G:=G) (Z:=Z) (env:=[(10,vi (.i j)),(9,vi (.i N))]) (k:=fun σ=>get σ.env 11=vb (.b (decide ((j:Int) < (N:Int))))) (by kernel_rfl) (by kernel_rfl) hs (fun t=>?_) hZw hflat ?_ ?_)
  ·rw [aF,aF]
   split
   ·rename_i h;subst h;rw [h10];exact kE (by omega) (by omega)
   ·split
    ·rename_i h;subst h;rw [h9];exact kE (by omega) (by omega)
    ·trivial
  ·rw [B2]
   rfl
  ·intro σ2 a2 w2 Z2 G2 hk2 hs2 hF2 hz2 hd2 _ hkeep2
   have e20:a2.tmps.getD 0 undef=yv:=(hkeep2 0 (by decide +kernel)).trans h0
   have e21:a2.tmps.getD 1 undef=p1:=(hkeep2 1 (by decide +kernel)).trans h1
   have e22:a2.tmps.getD 2 undef=p2:=(hkeep2 2 (by decide +kernel)).trans h2
   have e29:a2.tmps.getD 9 undef = .int .i64 (N:Int):=(hkeep2 9 (by decide +kernel)).trans h9
   have e2x:a2.tmps.getD 10 undef = .int .i64 ((j:Nat):Int):=(hkeep2 10 (by decide +kernel)).trans h10
   have hzz2:∀ b,Z b→w2.heap[b]? = w0.heap[b]?:=fun b hb=>(hF2.block b (hZw b hb) id).trans (hz b hb)
   have hJ2:=hfut _ _ _ hJ hF2
   have hsz2:w0.heap.size≤w2.heap.size:=Nat.le_trans hsz hF2.size
   have hZ2:∀ b,Z b→b < w2.heap.size:=fun b hb=>Nat.lt_of_lt_of_le (hZ b hb) hsz2
   have hc:a2.eval (.tmp 11) = .bool (decide ((j:Int) < (N:Int))):=by
    have:=hs2 11
    rw [hk2] at this
    exact this
   refine wp_seq (wp_cond_split hc (fun hlt=>wp_skip ?_) (fun hlt=>wp_exit ?_))
   ·have hlt:j < N:=by have:=of_decide_eq_true hlt;omega
    refine wp_seq (wp_block (wp_seq (i4 mw jE (n:=34) (G:=G) (Z:=Z) (env:=[(10,vi (.i j))]) (k:=fun σ=>get σ.env 4=vi (.i j)) (by kernel_rfl) (by kernel_rfl) hz2 (fun t=>?_) hZ2 hflat ?_ ?_)))
    ·rw [aF]
     split
     ·rename_i h;subst h;rw [e2x];exact kE (by omega) (by omega)
     ·trivial
    ·rw [Dr]
     rfl
    intro σ3 a3 w3 Z3 G3 hk3 hs3 hF3 hz3 hd3 _ hkeep3
    have e30:a3.tmps.getD 0 undef=yv:=(hkeep3 0 (by decide +kernel)).trans e20
    have e31:a3.tmps.getD 1 undef=p1:=(hkeep3 1 (by decide +kernel)).trans e21
    have e32:a3.tmps.getD 2 undef=p2:=(hkeep3 2 (by decide +kernel)).trans e22
    have e39:a3.tmps.getD 9 undef = .int .i64 (N:Int):=(hkeep3 9 (by decide +kernel)).trans e29
    have e3x:a3.tmps.getD 10 undef = .int .i64 ((j:Nat):Int):=(hkeep3 10 (by decide +kernel)).trans e2x
    have e34:a3.tmps.getD 4 undef = .int .i64 ((j:Nat):Int):=by
     have:=hs3 4
     rw [hk3] at this
     exact this.1
    have hzz3:∀ b,Z b→w3.heap[b]? = w0.heap[b]?:=fun b hb=>(hF3.block b (hZ2 b hb) id).trans (hzz2 b hb)
    have hJ3:=hfut _ _ _ hJ2 hF3
    have hsz3:w0.heap.size≤w3.heap.size:=Nat.le_trans hsz2 hF3.size
    have hZ3:∀ b,Z b→b < w3.heap.size:=fun b hb=>Nat.lt_of_lt_of_le (hZ b hb) hsz3
    refine wp_seq (bJ mw jE (n:=34) (G:=G) (Z:=Z) (env:=[(4,vi (.i j)),(1,.rptr [TRC] [T])])
     (k:=fun σ=>get σ.env 5 = .ptr 640 0∧az σ.objs 640=some (.box (vals EC [aY 0 T.list j,aY 1 T.list j,aY 2 T.list j,aY 3 T.list j,aY 4 T.list j]))) (by kernel_rfl) (by kernel_rfl) hz3 (fun t=>?_) hZ3 hflat ?_ ?_)
    ·rw [aF,aF]
     split
     ·rename_i h;subst h;rw [e34];exact kE (by omega) (by omega)
     ·split
      ·rename_i h;subst h;rw [e31];exact rpT (fun _ h=>h) hzz3
      ·trivial
    ·rw [Dm]
     exact ⟨rfl,rfl⟩
    intro σ4 a4 w4 Z4 G4 ⟨hk4,ho4⟩ S4 hkeep4
    have e40:a4.tmps.getD 0 undef=yv:=(hkeep4 0 (by decide +kernel)).trans e30
    have e41:a4.tmps.getD 1 undef=p1:=(hkeep4 1 (by decide +kernel)).trans e31
    have e42:a4.tmps.getD 2 undef=p2:=(hkeep4 2 (by decide +kernel)).trans e32
    have e49:a4.tmps.getD 9 undef = .int .i64 (N:Int):=(hkeep4 9 (by decide +kernel)).trans e39
    have e4x:a4.tmps.getD 10 undef = .int .i64 ((j:Nat):Int):=(hkeep4 10 (by decide +kernel)).trans e3x
    have e44:a4.tmps.getD 4 undef = .int .i64 ((j:Nat):Int):=(hkeep4 4 (by decide +kernel)).trans e34
    have hF4:Fut (fun _=>False) w3 w4:=S4.fut
    have hzz4:∀ b,Z b→w4.heap[b]? = w0.heap[b]?:=fun b hb=>(hF4.block b (hZ3 b hb) id).trans (hzz3 b hb)
    have hJ4:=hfut _ _ _ hJ3 hF4
    have hsz4:w0.heap.size≤w4.heap.size:=Nat.le_trans hsz3 hF4.size
    have hd4:a4.defers=[]:=(show a4.defers=a3.defers from S4.calm).trans (hd3.trans (hd2.trans hd))
    have hG4:G4 1=yv:=(S4.odd 1 rfl).trans hG1
    obtain ⟨Z5,hZ5,S5,hptr⟩:=S4.shut (id:=640) (cs:=EC) (us:=[aY 0 T.list j,aY 1 T.list j,aY 2 T.list j,aY 3 T.list j,aY 4 T.list j]) ho4
    have e45:ag w4 Z5 G4 (.rptr EC [aY 0 T.list j,aY 1 T.list j,aY 2 T.list j,aY 3 T.list j,aY 4 T.list j]) (a4.tmps.getD 5 undef):=by
     have:=S4.slot 5
     rw [hk4] at this
     exact hptr _ this
    have hsub:∀ b,Z b→Z5 b:=fun b hb=>hZ5 b (S4.sub b hb)
    have hslots:∀ t,ag w4 Z5 G4 (get [(0,.own 1),(2,.rptr [.int .i64] [s]),(4,vi (.i j)),(5,.rptr EC [aY 0 T.list j,aY 1 T.list j,aY 2 T.list j,aY 3 T.list j,aY 4 T.list j])] t) (a4.tmps.getD t undef):=fun t=>by
     rw [aF,aF,aF,aF]
     split
     ·rename_i h;subst h;rw [e40];exact hG4.symm
     ·split
      ·rename_i h;subst h;rw [e42];exact rpS hsub hzz4
      ·split
       ·rename_i h;subst h;rw [e44];exact kE (by omega) (by omega)
       ·split
        ·rename_i h;subst h;exact e45
        ·trivial
    have hend:∀ (a5:Act) (w5:World),a5.tmps.size=34→a5.defers=[]→(∀ t,(∀ o ∈ on4.toList,o.dst≠some t)→a5.tmps.getD t undef=a4.tmps.getD t undef)→J (aQ s T.list (j + 1)).length w5→(∀ b,Z b→w5.heap[b]? = w0.heap[b]?)→w0.heap.size≤w5.heap.size→
      (Code.region (av (piece nd [1,0,0,1,1,1])) on5 false).wp PR (fun e a' w'=>e = .normal∧(∃ j,j≤N∧a'.tmps.size=34∧a'.defers=[]∧a'.tmps.getD 0 undef=yv∧a'.tmps.getD 1 undef=p1∧a'.tmps.getD 2 undef=p2∧a'.tmps.getD 9 undef = .int .i64 (N:Int)∧a'.tmps.getD 10 undef = .int .i64 ((j:Nat):Int)∧J (aQ s T.list j).length w'∧(∀ b,Z b→w'.heap[b]? = w0.heap[b]?)∧w0.heap.size≤w'.heap.size)∧
        N - (match a'.tmps.getD 10 undef with | .int _ i=>i.toNat | _=>0) < N - (match a.tmps.getD 10 undef with | .int _ i=>i.toNat | _=>0)) a5 w5:=by
     intro a5 w5 hz5 hd5 hk5 hJ5 hzz5 hsz5
     have e50:a5.tmps.getD 0 undef=yv:=(hk5 0 (by decide +kernel)).trans e40
     have e51:a5.tmps.getD 1 undef=p1:=(hk5 1 (by decide +kernel)).trans e41
     have e52:a5.tmps.getD 2 undef=p2:=(hk5 2 (by decide +kernel)).trans e42
     have e59:a5.tmps.getD 9 undef = .int .i64 (N:Int):=(hk5 9 (by decide +kernel)).trans e49
     have e5x:a5.tmps.getD 10 undef = .int .i64 ((j:Nat):Int):=(hk5 10 (by decide +kernel)).trans e4x
     have hZ5:∀ b,Z b→b < w5.heap.size:=fun b hb=>Nat.lt_of_lt_of_le (hZ b hb) hsz5
     refine i4 mw jE (n:=34) (G:=G) (Z:=Z) (env:=[(10,vi (.i j))]) (k:=fun σ=>get σ.env 10=vi (.i ((j:Int) + 1))) (by kernel_rfl) (by kernel_rfl) hz5 (fun t=>?_) hZ5 hflat ?_ ?_
     ·rw [aF]
      split
      ·rename_i h;subst h;rw [e5x];exact kE (by omega) (by omega)
      ·trivial
     ·rw [D6]
      show vi (.i (IntKind.wrap .i64 ((j:Int) + 1)))=_
      rw [i64_in (by omega) (by omega)]
     intro σ6 a6 w6 Z6 G6 hk6 hs6 hF6 hz6 hd6 _ hkeep6
     have e60:a6.tmps.getD 0 undef=yv:=(hkeep6 0 (by decide +kernel)).trans e50
     have e61:a6.tmps.getD 1 undef=p1:=(hkeep6 1 (by decide +kernel)).trans e51
     have e62:a6.tmps.getD 2 undef=p2:=(hkeep6 2 (by decide +kernel)).trans e52
     have e69:a6.tmps.getD 9 undef = .int .i64 (N:Int):=(hkeep6 9 (by decide +kernel)).trans e59
     have e6x:a6.tmps.getD 10 undef = .int .i64 (((j + 1:Nat):Int)):=by
      have:=hs6 10
      rw [hk6] at this
      exact this.1
     refine ⟨rfl,⟨j + 1,hlt,hz6,hd6.trans hd5,e60,e61,e62,e69,e6x,hfut _ _ _ hJ5 hF6,fun b hb=>(hF6.block b (hZ5 b hb) id).trans (hzz5 b hb),Nat.le_trans hsz5 hF6.size⟩,?_⟩
     rw [e6x,h10]
     show N - ((j + 1:Nat):Int).toNat < N - ((j:Nat):Int).toNat
     omega
    have hz4:a4.tmps.size=34:=S4.size
    cases hhit:gl T.list j with
    | false=>
     refine wp_seq (i4 mw jE (n:=34) (G:=G4) (Z:=Z5) (env:=[(0,.own 1),(2,.rptr [.int .i64] [s]),(4,vi (.i j)),(5,.rptr EC [aY 0 T.list j,aY 1 T.list j,aY 2 T.list j,aY 3 T.list j,aY 4 T.list j])]) (k:=fun σ=>get σ.env 32=vb (.b false)) (by kernel_rfl) (by kernel_rfl) hz4 hslots S5.lt S4.flat ?_ ?_)
     ·rw [AT]
      obtain ⟨g1,g2⟩:=Bool.or_eq_false_iff.1 hhit
      exact bf g1 (bf g2 rfl)
     intro σ5 a5 w5 Z6 G6 hk5 hs5 hF5 hz5 hd5 _ hkeep5
     have hc5:a5.eval (.tmp 32) = .bool false:=by
      have:=hs5 32
      rw [hk5] at this
      exact this
     refine wp_cond_false hc5 (wp_skip ?_)
     exact wp_mono (hend a5 w5 hz5 (hd5.trans hd4) hkeep5 (by rw [jn hhit];exact hfut _ _ _ hJ4 hF5) (fun b hb=>(hF5.block b (S5.lt b (hsub b hb)) id).trans (hzz4 b hb)) (Nat.le_trans hsz4 hF5.size)) (fun e a' w' h=>by obtain ⟨rfl,h1,h2⟩:=h;exact ⟨h1,h2⟩)
    | true=>
     refine wp_seq (Co mw jE (n:=34) (j:=14) (dst:=30) (tc:=25) (l:=l) (G:=G4) (Z:=Z5) (env:=[(0,.own 1),(2,.rptr [.int .i64] [s]),(4,vi (.i j)),(5,.rptr EC [aY 0 T.list j,aY 1 T.list j,aY 2 T.list j,aY 3 T.list j,aY 4 T.list j])]) (env2:=[(24,vb (.b true))])
      (k1:=fun σ=>get σ.env 25 = .own 1∧get σ.env 29 = .agg (vals LNC (dK s T.list j))∧get σ.env 24=vb (.b true)) (k2:=fun σ=>get σ.env 32=vb (.b false))
      (Kw:=fun w'=>J (aQ s T.list (j + 1)).length w'∧w4.heap.size≤w'.heap.size∧∀ b,Z b→w'.heap[b]? = w0.heap[b]?)
      (by kernel_rfl) (by kernel_rfl) Gs Ga DB hz4 hslots S5.lt S4.flat ?_ (.inr ⟨8,24,xb,by kernel_rfl,fun σ h=>h.2.2⟩) rfl (fun σ h t=>?_) rfl (fun w' h b hb=>Nat.lt_of_lt_of_le (S5.lt b hb) h.2.1) ?_ ?_ ?_)
     ·rw [B1]
      refine bi (fun _=>⟨rfl,rfl,rfl⟩) (fun h=>?_)
      have hhit:((aY 0 T.list j).int == 2 || (aY 0 T.list j).int == 3)=true:=hhit
      have h:((aY 0 T.list j).int == 2)=false:=h
      rw [h] at hhit
      exact bt hhit ⟨rfl,rfl,rfl⟩
     ·rw [aF]
      split
      ·rename_i e;subst e;exact .inl h.2.2.symm
      ·exact .inr rfl
     ·intro σ5 a5 w5 Z6 G6 ⟨k25,k29,_⟩ hs5 hF5 hodd
      have hcl:a5.eval (.tmp 25)=yv:=by
       have:=hs5 25
       rw [k25] at this
       have this:a5.tmps.getD 25 undef=G6 1:=this
       exact this.trans ((hodd 1 rfl).trans hG4)
      refine ⟨hcl.trans hyv.symm,?_⟩
      have hzz5:∀ b,Z b→w5.heap[b]? = w0.heap[b]?:=fun b hb=>(hF5.block b (S5.lt b (hsub b hb)) id).trans (hzz4 b hb)
      have hs29:=hs5 29
      rw [k29] at hs29
      obtain ⟨fn,tm,as',bd,y1,y2⟩:=hround _ _ w5 [a5.eval (.tmp 29)] (xy hhit hlt) (hfut _ _ _ hJ4 hF5) hzz5 (by
       refine ⟨_,_,rfl,?_,rfl⟩
       obtain ⟨cs,hcs,h16⟩:=hs29
       refine ⟨cs,hcs,?_⟩
       exact ab.okN (G:=G6) (p:=noN) (fun i h=>by cases h) _ _ rfl (BE h16))
      refine ⟨fn,tm,as',bd,y1,y2.mono ?_⟩
      rintro e w6 ⟨rfl,g1,g2,g3⟩
      refine ⟨rfl,?_,Nat.le_trans hF5.size g2,fun b hb=>(g3 b hb).trans (hzz5 b hb)⟩
      rw [hH hhit,List.length_append]
      exact g1
     ·rw [Bf]
      rfl
     ·intro σ5 a5 w5 w6 Z6 G6 hk5 ⟨g1,g2,g3⟩ hs5 hF5 hz5 hd5 hkeep5
      have hc5:a5.eval (.tmp 32) = .bool false:=by
       have:=hs5 32
       rw [hk5] at this
       exact this
      refine wp_cond_false hc5 (wp_skip ?_)
      have hZ6:∀ b,Z b→b < w5.heap.size:=fun b hb=>Nat.lt_of_lt_of_le (S5.lt b (hsub b hb)) g2
      exact wp_mono (hend a5 w6 hz5 (hd5.trans hd4) hkeep5 (hfut _ _ _ g1 hF5) (fun b hb=>(hF5.block b (hZ6 b hb) id).trans (g3 b hb)) (Nat.le_trans hsz4 (Nat.le_trans g2 hF5.size))) (fun e a' w' h=>by obtain ⟨rfl,h1,h2⟩:=h;exact ⟨h1,h2⟩)
   ·have hge:j=N:=by have:=of_decide_eq_false hlt;omega
    subst hge
    simp only [Exit.then,Exit.inBlock,if_true]
    obtain ⟨v,hv⟩:=hres a2 w2
    refine ⟨hd2.trans hd,v,hv,v,rfl,?_⟩
    rw [List.length_map]
    exact hJ2
end Go.Mat

namespace Go.Mat
open Go Go.Den Go.Proofs
noncomputable def K84:Ctx:=mkC PR bM aK aL aC aq aq
noncomputable def asC:Code:=bh Tryz.f65
noncomputable def qp:Code:=piece asC [1,1]
noncomputable def as2:Array Oper:=ax (match piece asC [1,0,1,0] with | .rangeFunc _ _ a _=>a | _=>.skip)
noncomputable def as3:Array Oper:=ax (match piece asC [1,0,1,0] with | .rangeFunc _ _ _ b=>piece b [0] | _=>.skip)
theorem DO (k:KSt) (T s:U):(exec K84 (piece asC [0]) 0 ⟨fa 0 [.nil,.clo 76 [.ptr 2097153 0,.ptr 2097281 0]],[(2097153,.box [.val TRC T]),(2097281,.box [vi s])]⟩ (fun e1 σ1=>e1 = .normal∧exec K84 (piece asC [1,0,0]) 0 σ1 (fun e2 σ2=>e2 = .normal∧k σ2)))=(Ex.normal=Ex.normal∧Ex.normal=Ex.normal∧k (St.mk [(6,SV.clo 76 [SV.ptr 2097153 0,SV.ptr 2097281 0]),(4,SV.own 636),(2,SV.ptr 256 0),(0,SV.nil),(1,SV.clo 76 [SV.ptr 2097153 0,SV.ptr 2097281 0])] [(636,Obj.arr 72 []),(256,Obj.box [SV.own 258]),(258,Obj.arr 72 []),(2097153,Obj.box [SV.val (Ct.sl false [Ct.sl true [.int .i64,.int .i64,.int .i64,.int .i64,.int .u32]]) T]),(2097281,Obj.box [vi s])])):=by kernel_rfl
theorem Cp (k:KSt) (T s:U) (xs:List U):(exec K84 (piece asC [0]) 0 ⟨fa 0 [.own 2097152,.clo 76 [.ptr 2097281 0,.ptr 2097409 0]],[(2097152,.arr 72 xs),(2097281,.box [.val TRC T]),(2097409,.box [vi s])]⟩ (fun e1 σ1=>e1 = .normal∧exec K84 (piece asC [1,0,0]) 0 σ1 (fun e2 σ2=>e2 = .normal∧k σ2)))=(Ex.normal=Ex.normal∧Ex.normal=Ex.normal∧k (St.mk [(6,SV.clo 76 [SV.ptr 2097281 0,SV.ptr 2097409 0]),(4,SV.own 636),(2,SV.ptr 256 0),(0,SV.own 2097152),(1,SV.clo 76 [SV.ptr 2097281 0,SV.ptr 2097409 0])] [(636,Obj.arr 72 []),(256,Obj.box [SV.own 2097152]),(2097152,Obj.arr 72 xs),(2097281,Obj.box [SV.val (Ct.sl false [Ct.sl true [.int .i64,.int .i64,.int .i64,.int .i64,.int .u32]]) T]),(2097409,Obj.box [vi s])])):=by kernel_rfl
theorem DV (k:KSt) (a b c d e f g:U) (xs:List U):(ak KJ as2.toList as2.toList ⟨[(7,.agg [vi a,vi b,vi c,vi d,vi e,vi f,.val (.int .u32) g]),(2,.ptr 641 0)],[(641,.box [.own 642]),(642,.arr 72 xs)]⟩ (fun σ1=>ak KJ as3.toList as3.toList σ1 k))=(bif decide (List.length xs + 1≤room) && true then k (St.mk [(11,SV.own 642),(10,SV.own 1406),(9,SV.agg [vi a,vi b,vi c,vi d,vi e,vi f,SV.val (.int .u32) g]),(8,SV.unk),(5,SV.ptr 640 0),
 (7,SV.agg [vi a,vi b,vi c,vi d,vi e,vi f,SV.val (.int .u32) g]),(2,SV.ptr 641 0)] [(641,Obj.box [SV.own 642]),(642,Obj.arr 72 (xs ++ [U.l [a,b,c,d,e,f,g]])),(1406,Obj.arr 72 [U.l [a,
 b,c,d,e,f,g]]),(640,Obj.box [vi a,vi b,vi c,vi d,vi e,vi f,SV.val (.int .u32) g])]) else False):=by kernel_rfl
theorem D4 (R:RT) (T s:U) (xs:List U):(exec K84 qp 0 ⟨[(2,.ptr 644 0)],[(644,.box [.own 642]),(642,.arr 72 xs)]⟩ (BU PR Tryz.f65 [(2097153,.box [.val TRC T]),(2097281,.box [vi s])] R))=(R (Out.ret [SV.own 2097408]) [(2097408,Obj.arr 72 xs)]):=by kernel_rfl
theorem Dz (R:RT) (T s:U) (xs ys:List U):(exec K84 qp 0 ⟨[(2,.ptr 644 0)],[(644,.box [.own 2097152]),(2097152,.arr 72 xs)]⟩ (BU PR Tryz.f65 [(2097152,.arr 72 ys),(2097281,.box [.val TRC T]),(2097409,.box [vi s])] R))=(R (Out.ret [SV.own 2097152]) [(2097152,Obj.arr 72 xs)]):=by kernel_rfl
end Go.Mat
