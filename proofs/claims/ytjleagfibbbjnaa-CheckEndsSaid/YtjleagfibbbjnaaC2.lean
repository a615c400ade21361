/- A part of the proof of this: behind a mending there are no faults; what was not bad shows the same; a meta without bad entries keeps them all. Conditions: none. Joined of DenL, DenO, DenP, DenQ, DenM, DenT, DenU, DenV, DenW, DenX, DenY, DenZ, DenRF, DenRG, DenRH, DenRI, P1, P2, P3, B1, B2. -/
import Derived.Test.YtjleagfibbbjnaaC1
import Derived.Laws.Small
import Derived.OrdersHeld
import Derived.LoopN
import Derived.Laws.StructEq
import Derived.ProofKit
import Derived.Deep.Slices
import Derived.Below
import Derived.ShutString
import Derived.Carry
import Derived.OpenShut
import Derived.Defers
import Derived.Recover
import Derived.WideLaws
import Derived.RangeFuncRecord
import Derived.RangeFuncSeq
import Derived.OrdersIn
import Derived.Test.YtjleagfibbbjnaaProg
import Derived.KernelRfl
namespace Go.Den
open Go Go.RowKit
section
variable {C:Ctx} {Θ:Anc} {n:Nat} {σ:St} {a:Act} {w:World} {Z:Nat→Prop} {G:Nat→Value} {o:Oper} {K:Act→World→Prop} {Q:Exit→Act→World→Prop} {k:St→Prop}
theorem lst_rep (S:Sim C.P Θ n σ a w Z G) {x:Option Operand} {v:Option Int} (h:lst σ x=some v):(x=none∧v=none)∨∃ y kd i,x=some y∧v=some i∧a.eval y = .int kd i:=by
 unfold lst at h
 split at h
 ·injection h with h;exact .inl ⟨rfl,h.symm⟩
 ·rename_i y
  split at h
  ·rename_i kd u hu
   injection h with h
   have:=S.ev y
   rw [hu] at this
   exact .inr ⟨y,kd,u.int,rfl,h.symm,this.1⟩
  ·cases h
theorem run_bounds {P:Program} {isSlice:Bool} {len cap:Nat} {lo hi mx:Option Operand} {l h m:Option Int} (hcap:len≤cap)
  (hl:(lo=none∧l=none)∨∃ y kd i,lo=some y∧l=some i∧a.eval y = .int kd i) (hh:(hi=none∧h=none)∨∃ y kd i,hi=some y∧h=some i∧a.eval y = .int kd i)
  (hm:(mx=none∧m=none)∨∃ y kd i,mx=some y∧m=some i∧a.eval y = .int kd i) (hmh:m.isSome=true→h.isSome=true)
  (hb:0≤l.getD 0∧l.getD 0≤h.getD len∧h.getD len≤m.getD (h.getD len)∧m.getD (h.getD len)≤len) :
  (Instr.sliceBounds isSlice len cap (lo.map a.eval) (hi.map a.eval) (mx.map a.eval)).run P w = .ok ((l.getD 0).toNat,(h.getD len).toNat,(m.getD cap).toNat) w:=by
 obtain ⟨b1,b2,b3,b4⟩:=hb
 have bound:∀ (k:IntKind) (i:Int) (y:Nat) (code:BoundsCode),0≤i→i≤y→(Instr.sliceBound (.int k i) y code).run P w = .ok i.toNat w:=fun k i y code h0 h1=>run_sliceBound w k i y code h0 h1
 rcases hm with ⟨rfl,rfl⟩ | ⟨ym,km,im,rfl,rfl,em⟩
 ·simp only [Option.getD_none,Option.map_none] at *
  rcases hh with ⟨rfl,rfl⟩ | ⟨yh,kh,ih,rfl,rfl,eh⟩
  ·simp only [Option.getD_none,Option.map_none] at *
   rcases hl with ⟨rfl,rfl⟩ | ⟨yl,kl,il,rfl,rfl,el⟩
   ·simp [Instr.sliceBounds]
   ·simp only [Option.getD_some,Option.map_some] at *
    simp [Instr.sliceBounds,el,bound kl il len _ b1 b2]
  ·simp only [Option.getD_some,Option.map_some] at *
   have c1:ih≤(cap:Int):=by omega
   rcases hl with ⟨rfl,rfl⟩ | ⟨yl,kl,il,rfl,rfl,el⟩
   ·simp only [Option.getD_none,Option.map_none] at *
    simp [Instr.sliceBounds,eh,bound kh ih cap _ (by omega) c1]
   ·simp only [Option.getD_some,Option.map_some] at *
    simp [Instr.sliceBounds,eh,el,bound kh ih cap _ (by omega) c1,bound kl il ih.toNat _ b1 (by omega)]
 ·rcases hh with ⟨rfl,rfl⟩ | ⟨yh,kh,ih,rfl,rfl,eh⟩
  ·exact absurd (hmh rfl) (by simp)
  ·simp only [Option.getD_some,Option.map_some] at *
   have c1:im≤(cap:Int):=by omega
   rcases hl with ⟨rfl,rfl⟩ | ⟨yl,kl,il,rfl,rfl,el⟩
   ·simp only [Option.getD_none,Option.map_none] at *
    simp [Instr.sliceBounds,em,eh,bound km im cap _ (by omega) c1,bound kh ih im.toNat _ (by omega) (by omega)]
   ·simp only [Option.getD_some,Option.map_some] at *
    simp [Instr.sliceBounds,em,eh,el,bound km im cap _ (by omega) c1,bound kh ih im.toNat _ (by omega) (by omega),bound kl il ih.toNat _ b1 (by omega)]
theorem slice_sound {t e:TypeId} {x:Operand} {lo hi mx:Option Operand} {l h m:Option Int} {mm:Bool} {cs:List Ct} {u:U} (S:Sim C.P Θ n σ a w Z G) (hd:∀ t,o.dst=some t→t < n)
  (hk:∀ σ' a' w' Z' G',k σ'→Sim C.P Θ n σ' a' w' Z' G'→K a' w') (ho:o.op = .slice t x lo hi mx) (hu:C.P.underlying t=some (.slice e)) (hs:sizeT C.P e=some cs.length)
  (hl:lst σ lo=some l) (hh:lst σ hi=some h) (hm:lst σ mx=some m) (hmh:m.isSome=true→h.isSome=true) (hx:σ.ev x = .val (.sl mm cs) u)
  (hb:0≤l.getD 0∧l.getD 0≤h.getD u.list.length∧h.getD u.list.length≤m.getD (h.getD u.list.length)∧m.getD (h.getD u.list.length)≤u.list.length)
  (hkk:k (setD σ o.dst (.val (.sl mm cs) (.l ((u.list.take (h.getD u.list.length).toNat).drop (l.getD 0).toNat))))):o.wp C.P a w K Q:=by
 have hv:=S.ev x
 rw [hx] at hv
 obtain ⟨A,c,hv,hc,hcm,hel⟩:=hv
 have hbr:=run_bounds (P:=C.P) (isSlice:=true) (w:=w) hc (lst_rep S hl) (lst_rep S hh) (lst_rep S hm) hmh hb
 obtain ⟨b1,b2,b3,b4⟩:=hb
 have hm':(m.getD c).toNat=c∨(∃ im,m=some im∧(m.getD c).toNat=im.toNat):=by cases m with
  | none=>left;simp
  | some im=>right;exact ⟨im,rfl,rfl⟩
 refine wp_value (v:=.slice (if (m.getD c).toNat=(l.getD 0).toNat then A else A.map (·.add ((l.getD 0).toNat * cs.length))) ((h.getD u.list.length).toNat - (l.getD 0).toNat) ((m.getD c).toNat - (l.getD 0).toNat)) (w':=w) ?_ (hk _ _ _ _ _ hkk (S.put ?_ hd))
 ·simp [execOp,ho,hv,Instr.sliceAt,Instr.slice,run_underlying hu,hbr,run_size hs]
 ·have hlen:((u.list.take (h.getD u.list.length).toNat).drop (l.getD 0).toNat).length=(h.getD u.list.length).toNat - (l.getD 0).toNat:=by
   simp only [List.length_drop,List.length_take];omega
  have hcapm:(h.getD u.list.length).toNat≤(m.getD c).toNat:=by
   cases m with
   | none=>simp only [Option.getD_none] at *;omega
   | some im=>simp only [Option.getD_some] at *;omega
  refine ⟨_,_,by rw [U.list_l,hlen],by rw [U.list_l,hlen];omega,?_,fun i hi=>?_⟩
  ·cases m with
   | none=>simp only [Option.getD_none] at *;omega
   | some im=>simp only [Option.getD_some] at *;omega
  rw [U.list_l,hlen] at hi
  obtain ⟨b,off,hA,hZ,hr⟩:=hel ((l.getD 0).toNat + i) (by omega)
  rw [if_neg (by omega),hA]
  refine ⟨b,off + (l.getD 0).toNat * cs.length,by simp [addr_add],hZ,?_⟩
  have hat:U.at (U.l ((u.list.take (h.getD u.list.length).toNat).drop (l.getD 0).toNat)).list i=U.at u.list ((l.getD 0).toNat + i):=by
   rw [U.list_l,at_getElem _ _ (by rw [hlen];exact hi),at_getElem _ _ (by omega)]
   simp
  rw [hat,Nat.add_assoc,← Nat.add_mul]
  exact hr
theorem sliceOwn_sound {t e e':TypeId} {x:Operand} {lo hi mx:Option Operand} {l:Option Int} {m:Bool} {cs:List Ct} {id:Nat} {xs:List U} (S:Sim C.P Θ n σ a w Z G) (hd:∀ t,o.dst=some t→t < n)
  (hk:∀ σ' a' w' Z' G',k σ'→Sim C.P Θ n σ' a' w' Z' G'→K a' w') (ho:o.op = .slice t x lo hi mx) (hu:C.P.underlying t=some (.slice e)) (hs:sizeT C.P e=some cs.length)
  (hl:lst σ lo=some l) (hh:lst σ hi=some none) (hm:lst σ mx=some none) (hx:σ.ev x = .own id) (hob:getO σ.objs id=some (.arr e' xs)) (hcs:Cs C.P e' = some (m,cs))
  (hb:0≤l.getD 0∧l.getD 0≤xs.length) (hkk:k (setD σ o.dst (.osl id (l.getD 0).toNat cs.length))):o.wp C.P a w K Q:=by
 have hv:a.eval x=G id:=by have:=S.ev x;rw [hx] at this;exact this
 obtain ⟨m2,cs2,vs,h1,h2,h3⟩:=S.obj id _ hob
 obtain ⟨A,c,hG,hc⟩:∃ A c,G id = .slice A xs.length c∧xs.length≤c:=by
  rcases h2.2 with ⟨h4,h5⟩ | ⟨g,cap,cur,h4,_,_,h6,_⟩
  ·exact ⟨none,0,by rw [h4,h5],by omega⟩
  ·exact ⟨_,cap,h4,h6⟩
 rw [hG] at hv
 have hbr:=run_bounds (P:=C.P) (isSlice:=true) (w:=w) hc (lst_rep S hl) (lst_rep S hh) (lst_rep S hm) (by simp) (by simp only [Option.getD_none];omega)
 refine wp_value (v:=slFrom (l.getD 0).toNat cs.length (G id)) (w':=w) ?_ (hk _ _ _ _ _ hkk (S.put (s:=.osl _ _ _) rfl hd))
 simp [execOp,ho,hv,Instr.sliceAt,Instr.slice,run_underlying hu,hbr,run_size hs,slFrom,hG]
theorem RepElems.take1 {w:World} {Z:Nat→Prop} {c:Ct}:∀ {us:List U} {vs:List Value},RepElems w Z false [c] us vs→∀ n,RepElems w Z false [c] (us.take n) (vs.take n)
 | [],vs,h,n=>by have h:vs=[]:=h;subst h;simp;exact rfl
 | u :: us,vs,h,0=>by simp;exact rfl
 | u :: us,vs,h,n + 1=>by
  obtain ⟨p,q,rfl,hp,hq⟩:=h
  have hl:=hp.length
  match p,hl with
  | [x],_=>exact ⟨[x],q.take n,rfl,hp,hq.take1 n⟩
theorem RepElems.drop1 {w:World} {Z:Nat→Prop} {c:Ct}:∀ {us:List U} {vs:List Value},RepElems w Z false [c] us vs→∀ n,RepElems w Z false [c] (us.drop n) (vs.drop n)
 | [],vs,h,n=>by have h:vs=[]:=h;subst h;simp;exact rfl
 | u :: us,vs,h,0=>h
 | u :: us,vs,h,n + 1=>by
  obtain ⟨p,q,rfl,hp,hq⟩:=h
  have hl:=hp.length
  match p,hl with
  | [x],_=>exact hq.drop1 n
theorem source_cells {P:Program} (S:Sim P Θ n σ a w Z G) {s:SV} {v:Value} {ys:List U} (hs:RepSV w Z G s v) (h:source P σ.objs false [.int .u8] false s=some ys) :
  ∃ A c news,v = .slice A ys.length c∧RepElems w Z false [.int .u8] ys news∧(ys≠[]→∃ b o,A=some ⟨b,o,none⟩∧∀ j u,news[j]? = some u→w.cell? ⟨b,o + j,none⟩=some u):=by
 unfold source at h
 simp only at h
 split at h
 ·rename_i u hu
  injection h with h
  subst h
  have plain:RepC w Z (.sl false [.int .u8]) v u→∃ A c news,v = .slice A u.list.length c∧RepElems w Z false [.int .u8] u.list news∧(u.list≠[]→∃ b o,A=some ⟨b,o,none⟩∧∀ j x,news[j]? = some x→w.cell? ⟨b,o + j,none⟩=some x):=by
   rintro ⟨A,c,rfl,hc,_,hk'⟩
   cases hl:u.list with
   | nil=>exact ⟨A,c,[],rfl,rfl,fun h=>absurd rfl h⟩
   | cons x l=>
    rw [← hl]
    obtain ⟨b,o,hA,_⟩:=hk' 0 (by simp [hl])
    subst hA
    obtain ⟨vs,h1,h2⟩:=elems_values (us:=u.list) (o:=o) (b:=b) (fun k hkk=>by
     obtain ⟨b',o',hA,_,hr⟩:=hk' k hkk
     injection hA with hA
     injection hA with hb ho
     subst hb ho
     exact hr)
    exact ⟨_,c,vs,rfl,h1,fun _=>⟨b,o,rfl,h2⟩⟩
  unfold toU at hu
  split at hu
  ·rename_i id
   split at hu
   ·rename_i m1 cs1 e xs heq ho
    split at hu
    ·rename_i m' cs' hcs
     split at hu
     ·rename_i hb
      have hb:=Ct.beq_eq hb
      cases hb
      cases heq
      injection hu with hu
      subst hu
      obtain ⟨m2,cs2,vs,h1,h2,h3⟩:=S.obj id _ ho
      rw [hcs] at h1
      cases h1
      have hs:v=G id:=hs
      subst hs
      rcases h2.2 with ⟨h4,h5⟩ | ⟨g,cap,cur,h4,_⟩
      ·have hx:xs=[]:=List.eq_nil_of_length_eq_zero h5
       subst hx
       exact ⟨none,0,vs,h4,h3,fun h=>absurd rfl h⟩
      ·have hc:=World.ownsRow.cells h2 (g:=g) (by rw [h4];rfl)
       exact ⟨_,cap,vs,h4,h3,fun _=>⟨g,0,rfl,fun j u hj=>by have:=hc j u hj;rwa [addr_add] at this⟩⟩
     ·cases hu
    ·cases hu
   ·cases hu
  ·exact plain (plainU_rep hu hs)
 ·cases h
theorem Sim.setO_same {P:Program} (S:Sim P Θ n σ a w Z G) {id:Nat} {ob:Obj} (h:getO σ.objs id=some ob):Sim P Θ n (σ.setO id ob) a w Z G:=by
 have he:∀ j,getO (σ.setO id ob).objs j=getO σ.objs j:=by
  intro j
  show getO ((id,ob) :: dropO σ.objs id) j=_
  rw [getO_cons]
  by_cases e:id=j
  ·subst e;rw [if_pos rfl,h]
  ·rw [if_neg e,getO_dropO_other _ (Ne.symm e)]
 exact { size:=S.size,calm:=S.calm,slot:=S.slot,obj:=fun i o' hi=>S.obj i o' (by rw [← he i];exact hi),sep:=fun i i' o1 o2 b h1 h2=>S.sep i i' o1 o2 b (by rw [← he i];exact h1) (by rw [← he i'];exact h2),
         free:=fun i o1 b h1=>S.free i o1 b (by rw [← he i];exact h1),keep:=fun i o1 b h1=>S.keep i o1 b (by rw [← he i];exact h1),nlt:=S.nlt,lt:=S.lt,fut:=S.fut,new:=S.new,sub:=S.sub,flat:=S.flat,odd:=S.odd,row:=S.row }
theorem slFrom_zero (z:Nat) (v:Value) (hv:∀ A n c,v = .slice A n c→A=none∨∃ b o,A=some ⟨b,o,none⟩):slFrom 0 z v=v:=by
 cases v<;>try rfl
 rename_i A n c
 show Value.slice (if c=0 then A else A.map (·.add (0 * z))) (n - 0) (c - 0)=_
 have:A.map (·.add (0 * z))=A:=by
  rcases hv _ _ _ rfl with rfl | ⟨b,o,rfl⟩
  ·rfl
  ·simp [addr_add]
 rw [this];simp
theorem copy_sound {t tx e:TypeId} {p q:Operand} {args:Array Operand} {ts:Array TypeId} {id j:Nat} {ys:List U} (S:Sim C.P Θ n σ a w Z G) (hd:∀ t,o.dst=some t→t < n)
  (hk:∀ σ' a' w' Z' G',k σ'→Sim C.P Θ n σ' a' w' Z' G'→K a' w') (ho:o.op = .call { callee:=.builtin .copy,args:=args,argTypes:=ts }) (ha:args.toList=[p,q]) (ht:ts.toList=[t,tx])
  (hka:Θ.ka=false) (hu:C.P.underlying t=some (.slice e)) (hcs:Cs C.P e=some (false,[.int .u8])) (hsz:sizeT C.P e=some 1)
  (hsrc:source C.P σ.objs false [.int .u8] false (σ.ev q)=some ys) (hdst:a.eval p=slFrom j 1 (G id)) (h:opCopy C o e id j ys σ k):o.wp C.P a w K Q:=by
 have ha':args = #[p,q]:=by cases args;simp_all
 have ht':ts = #[t,tx]:=by cases ts;simp_all
 subst ha' ht'
 have hsz':(C.P.info? e).map (·.size)=some 1:=by
  unfold sizeT at hsz
  cases hi:C.P.info? e with
  | none=>rw [hi] at hsz;cases hsz
  | some i=>rw [hi] at hsz;simpa using hsz
 unfold opCopy at h
 split at h
 ·rename_i e' xs hob
  obtain ⟨hb,h⟩:=cond_only h
  simp only [Bool.and_eq_true] at hb
  have hee:=Nat.eq_of_beq_eq_true hb.1
  subst hee
  have hj:j≤xs.length:=of_decide_eq_true hb.2
  obtain ⟨m2,cs2,vs,g1,g2,g3⟩:=S.obj id _ hob
  rw [hcs] at g1
  cases g1
  obtain ⟨A,c,news,hq,hnews,hcells⟩:=source_cells (ys:=ys) S (S.ev q) hsrc
  have hnl:news.length=ys.length:=by have:=hnews.length;simpa using this
  have hvl:vs.length=xs.length:=by have:=g3.length;simpa using this
  have htl:(ys.take (xs.length - j)).length=min (xs.length - j) ys.length:=List.length_take
  have hmax:xs.length≤maxLen:=(S.obj id _ hob).ok.1
  have fin:∀ w',(Builtin.copy_ #[t,tx] o.type #[a.eval p,a.eval q]).run C.P w = .ok (goInt (ys.take (xs.length - j)).length) w'→Sim C.P Θ n (σ.setO id (.arr e' (overU xs j ys))) a w' Z G→o.wp C.P a w K Q:=by
   intro w' hr S'
   refine wp_value (v:=goInt (ys.take (xs.length - j)).length) (w':=w') ?_ (hk _ _ _ _ _ h (S'.put (s:=.val _ _) ?_ hd))
   ·simp [execOp,ho,resolve,invoke,builtin,hr]
   ·refine ⟨rfl,?_,?_⟩
    ·show (-(2:Int) ^ 63)≤_
     simp only [U.int_i];omega
    ·show (((ys.take (xs.length - j)).length:Nat):Int)≤9223372036854775807
     have:(maxLen:Nat)=9223372036854775807:=by decide
     omega
  obtain ⟨gA,gc,hGid⟩:∃ gA gc,G id = .slice gA xs.length gc:=by
   rcases g2.2 with ⟨h4,h5⟩ | ⟨g,cap,cur,h4,_⟩
   ·exact ⟨none,0,by rw [h4,h5]⟩
   ·exact ⟨_,cap,h4⟩
  rw [hGid] at hdst
  have hdst:a.eval p = .slice (if gc=j then gA else gA.map (·.add (j * 1))) (xs.length - j) (gc - j):=hdst
  by_cases hz:min (xs.length - j) ys.length=0
  ·have htk:ys.take (xs.length - j)=[]:=List.eq_nil_of_length_eq_zero (by rw [htl];exact hz)
   have hov:overU xs j ys=xs:=by unfold overU;rw [htk];simp
   have hrun:=run_copy_none (P:=C.P) w t tx o.type e' (if gc=j then gA else gA.map (·.add (j * 1))) A (xs.length - j) (gc - j) ys.length c hu hsz' (by show min ys.length (xs.length - j)=0;omega)
   refine fin w ?_ ?_
   ·rw [hdst,hq,htk];exact hrun
   ·rw [hov];exact S.setO_same hob
  ·rcases g2.2 with ⟨h4,h5⟩ | ⟨g,cap,cur,h4,h40,h5,h6,h7,h8,h9⟩
   ·omega
   rw [hGid] at h4
   injection h4 with hA0 _ hc0
   subst hA0 hc0
   have hyne:ys≠[]:=fun e=>by rw [e] at hz;simp at hz
   obtain ⟨b,off,rfl,hcell⟩:=hcells hyne
   have hjc:¬ gc=j:=by omega
   rw [if_neg hjc] at hdst
   have hdst:a.eval p = .slice (some ⟨g,j,none⟩) (xs.length - j) (gc - j):=by
    rw [hdst];simp [addr_add]
   have hcl:(news.take (xs.length - j)).length=min (xs.length - j) ys.length:=by rw [List.length_take,hnl]
   have h1:∀ v ∈ news.take (xs.length - j),v.oneCell' = true:=fun v hv=>hnews.one v (List.mem_of_mem_take hv)
   have hat:∀ i,i < gc→(w.cell? ⟨g,i,none⟩).isSome=true:=fun i hi=>by
    have:i < cur.size:=by rw [h8];simpa using hi
    simp [World.cell?,h5,this]
   have hfr:∀ i,w.frozen? ⟨g,i,none⟩=false:=fun i=>by simp [World.frozen?,h5]
   have hrun:=run_copy_cells (P:=C.P) w t tx o.type e' g j (xs.length - j) (gc - j) ⟨b,off,none⟩ ys.length c (news.take (xs.length - j)) hu hsz' (by rw [hcl];show _=min ys.length (xs.length - j);omega)
    (fun i v hi=>by
      rw [addr_add]
      refine hcell i v ?_
      rw [List.getElem?_take] at hi
      split at hi
      ·exact hi
      ·cases hi) (fun i hi=>hat _ (by omega)) (fun i _=>hfr _) h1
   have hg:=setCells_grown g (news.take (xs.length - j)) j w
   obtain ⟨cur',k1,k2,k3⟩:=setCells_block g e' (news.take (xs.length - j)) j w cur h5 (by rw [hcl,h8];simp;omega)
   have hbk:blk (G id)=some g:=by rw [hGid];rfl
   have hK:Stays w (w.setCells g j (news.take (xs.length - j))) Z Z:=⟨fun _ h=>h,fun c hc=>hg.block c (S.lt c hc) (fun e=>by
    cases e;exact (S.free id _ g hob hbk).1 hc)⟩
   have hel:RepElems w Z false [.int .u8] (overU xs j ys) (vs.take j ++ news.take (xs.length - j) ++ vs.drop (j + (news.take (xs.length - j)).length)):=by
    have e1:(news.take (xs.length - j)).length=(ys.take (xs.length - j)).length:=by rw [hcl,htl]
    rw [e1]
    exact ((g3.take1 j).app (hnews.take1 _)).app (g3.drop1 _)
   have hol:(overU xs j ys).length=xs.length:=by
    have:=hel.length
    simp only [List.length_append,List.length_take,List.length_drop,List.length_cons,List.length_nil,Nat.mul_one] at this
    omega
   refine fin _ ?_ (S.stored hob hbk hg (setCells_plain g _ _ w).2.2.2 hka ⟨false,[.int .u8],_,hcs,?_,hel.mono hK⟩)
   ·rw [hdst,hq,htl,← hcl];exact hrun
   ·rw [hol,hGid]
    have hel':=hel.length
    refine ⟨by rw [hel',hol],.inr ⟨g,gc,cur',rfl,Nat.zero_le _,k1,h6,h7,by rw [k3,h8],?_⟩⟩
    rw [k2]
    have hcurl:cur.toList.length=gc:=by simp [h8]
    have hcur:cur.toList=vs ++ cur.toList.drop xs.length:=by
     have h9:cur.toList.take xs.length=vs:=by simpa using h9
     rw [← h9,List.take_append_drop]
    generalize cur.toList.drop xs.length=tl at hcur
    rw [hcur]
    have hle:j + (news.take (xs.length - j)).length≤vs.length:=by rw [hcl,hvl];omega
    rw [List.take_append_of_le_length (l₁:=vs) (l₂:=tl) (i:=j) (by omega),List.drop_append_of_le_length hle,← List.append_assoc]
    have htot:(vs.take j ++ news.take (xs.length - j) ++ vs.drop (j + (news.take (xs.length - j)).length)).length=xs.length * [Ct.int IntKind.u8].length:=by rw [hel',hol]
    rw [← htot,List.take_left]
 ·cases h
theorem nth_val {l:List SV} {i:Nat} {c:Ct} {u:U} (h:nth .unk l i = .val c u):i < l.length:=by
 induction l generalizing i with
 | nil=>simp at h
 | cons x r ih=>cases i with
  | zero=>simp
  | succ i=>have:=ih (i:=i) h;simp;omega
theorem ext_sound {f:FuncId} {cf:Operand} {args:Array Operand} {ts:Array TypeId} {e:Ext} (he:ExtOk C.P f e) (hkb:Θ.kb=false) (S:Sim C.P Θ n σ a w Z G) (hd:∀ t,o.dst=some t→t < n)
  (hk:∀ σ' a' w' Z' G',k σ'→Sim C.P Θ n σ' a' w' Z' G'→K a' w')
  (ho:o.op = .call { callee:=.value cf,args:=args,argTypes:=ts }) (hev:a.eval cf = .func (.func f) #[] #[]) (h:opExt o.dst e (evs σ args.toList) σ k):o.wp C.P a w K Q:=by
 unfold opExt at h
 split at h
 ·rename_i id off hargs
  obtain ⟨x,hx,hxv⟩:∃ x,args.toList=[x]∧σ.ev x = .ptr id off:=by
   cases hl:args.toList with
   | nil=>rw [hl] at hargs;cases hargs
   | cons x r=>cases r with
    | nil=>rw [hl] at hargs;exact ⟨x,rfl,by injection hargs⟩
    | cons y s=>rw [hl] at hargs;simp [evs] at hargs
  have hx':args = #[x]:=by apply Array.ext';simpa using hx
  obtain ⟨b,hG,hv⟩:∃ b,G id = .pointer (some ⟨b,0,none⟩)∧a.eval x = .pointer (some ⟨b,off,none⟩):=by have:=S.ev x;rw [hxv] at this;exact this
  split at h
  ·rename_i cells hob
   split at h
   ·rename_i u hc
    obtain ⟨b',ty,cur,h1,h2,h3⟩:=S.obj id _ hob
    rw [hG] at h1
    cases h1
    have hcl:cells.length=cur.size:=by have:=h3.length;simpa using this
    have hlt:off < cur.size:=by have:=nth_val hc;omega
    have hr:=h3.nth off cur[off] (by simp)
    rw [hc] at hr
    have hcell:cur[off] = .int .i64 u.int:=hr.1
    have hw:w.cell? ⟨b,off,none⟩=some (.int .i64 u.int):=by rw [cell_of_row w b off cur ty (0,0) h2,Array.getElem?_eq_getElem hlt,hcell]
    refine wp_value (v:=.int .i64 u.int) (w':=w) ?_ (hk _ _ _ _ _ h (S.put (by rw [← hcell];exact hr) hd))
    have:=he _ _ _ hw
    simp [execOp,ho,resolve,hev,Deferred.ofValue,invoke,hx',hv,this]
   ·cases h
  ·cases h
 ·rename_i id off y hargs
  obtain ⟨x,x2,hx,hxv,hxv2⟩:∃ x x2,args.toList=[x,x2]∧σ.ev x = .ptr id off∧σ.ev x2 = .val (.int .i64) y:=by
   cases hl:args.toList with
   | nil=>rw [hl] at hargs;cases hargs
   | cons x r=>cases r with
    | nil=>rw [hl] at hargs;simp [evs] at hargs
    | cons x2 s=>cases s with
     | nil=>rw [hl] at hargs;simp only [evs,List.cons.injEq,and_true] at hargs;exact ⟨x,x2,rfl,hargs.1,hargs.2⟩
     | cons y s=>rw [hl] at hargs;simp [evs] at hargs
  have hx':args = #[x,x2]:=by apply Array.ext';simpa using hx
  obtain ⟨b,hG,hv⟩:∃ b,G id = .pointer (some ⟨b,0,none⟩)∧a.eval x = .pointer (some ⟨b,off,none⟩):=by have:=S.ev x;rw [hxv] at this;exact this
  have hv2:a.eval x2 = .int .i64 y.int:=by have:=S.ev x2;rw [hxv2] at this;exact this.1
  split at h
  ·rename_i cells hob
   split at h
   ·rename_i u hc
    obtain ⟨b',ty,cur,h1,h2,h3⟩:=S.obj id _ hob
    rw [hG] at h1
    cases h1
    have hcl:cells.length=cur.size:=by have:=h3.length;simpa using this
    have hlt:off < cur.size:=by have:=nth_val hc;omega
    have hr:=h3.nth off cur[off] (by simp)
    rw [hc] at hr
    have hcell:cur[off] = .int .i64 u.int:=hr.1
    have hw:w.cell? ⟨b,off,none⟩=some (.int .i64 u.int):=by rw [cell_of_row w b off cur ty (0,0) h2,Array.getElem?_eq_getElem hlt,hcell]
    have hrun:=he _ _ y.int _ hw (by simp [World.frozen?,h2])
    obtain ⟨cur',g1,g2,g3⟩:=setCells_block b ty [.int .i64 (IntKind.wrap .i64 (u.int + y.int))] off w cur h2 (by simp;omega)
    have hg:=setCells_grown b [.int .i64 (IntKind.wrap .i64 (u.int + y.int))] off w
    have hK:Stays w (w.setCells b off [.int .i64 (IntKind.wrap .i64 (u.int + y.int))]) Z Z:=⟨fun _ h=>h,fun c hc=>hg.block c (S.lt c hc) (fun e=>by
     cases e;exact (S.free id _ b hob (by rw [hG];rfl)).1 hc)⟩
    have hnew:∀ w':World,RepSV w' Z G (.val (.int .i64) (.i (IntKind.wrap .i64 (u.int + y.int)))) (.int .i64 (IntKind.wrap .i64 (u.int + y.int))):=fun w'=>rep_wrap _ _
    have Snew:=S.stored (o':=.box (patch cells off [.val (.int .i64) (.i (IntKind.wrap .i64 (u.int + y.int)))])) hob (by rw [hG];rfl) hg (setCells_plain b _ _ w).2.2.2 hkb ⟨b,ty,cur',hG,g1,by
     rw [g2]
     exact RepSVs.mono hK _ _ (h3.patch (m:=[.val (.int .i64) (.i (IntKind.wrap .i64 (u.int + y.int)))]) ⟨_,[],rfl,hnew w,rfl⟩ off)⟩
    refine wp_value (v:=.int .i64 (IntKind.wrap .i64 (u.int + y.int))) (w':=w.setCells b off [.int .i64 (IntKind.wrap .i64 (u.int + y.int))]) ?_ (hk _ _ _ _ _ h (Snew.put (hnew _) hd))
    simp [execOp,ho,resolve,hev,Deferred.ofValue,invoke,hx',hv,hv2,hrun]
    rfl
   ·cases h
  ·cases h
 ·cases h
theorem call_sound {f:FuncId} {cf:Operand} {args:Array Operand} {ts:Array TypeId} {cs:List SV} (hC:C.Ok) (hT:Θ.lets C o=true) (S:Sim C.P Θ n σ a w Z G) (hd:∀ t,o.dst=some t→t < n)
  (hk:∀ σ' a' w' Z' G',k σ'→Sim C.P Θ n σ' a' w' Z' G'→K a' w') (hp:∀ s σ' w' Z' G' v,C.pan s σ'→Sim C.P Θ n σ' a w' Z' G'→RepSV w' Z' G' s v→Q (.panic [{ v:=v,recovered:=false }]) a w')
  (ho:o.op = .call { callee:=.value cf,args:=args,argTypes:=ts }) (hcf:σ.ev cf = .clo f cs) (h:opCall C o.dst f cf args.toList σ k):o.wp C.P a w K Q:=by
 unfold opCall at h
 split at h
 ·cases h
 rename_i fn hf
 split at h
 ·rename_i e hE
  split at h
  case h_2=>cases h
  rename_i f' hcf2
  rw [hcf] at hcf2
  cases hcf2
  have hev:a.eval cf = .func (.func f) #[] #[]:=by
   have:=S.ev cf
   rw [hcf] at this
   obtain ⟨vs,h1,h2⟩:=this
   have h2:vs.toList=[]:=h2
   have:vs = #[]:=by apply Array.ext';simpa using h2
   rw [h1,this]
  have ht:Θ.kb=false:=by
   have htc:touchC C o=true:=by
    unfold touchC
    rw [ho]
    cases cf with
    | func g=>
     have:g=f:=by
      have:SV.clo g []=SV.clo f []:=hcf
      cases this;rfl
     subst this
     simp [hE]
    | tmp t=>rfl
    | const v=>rfl
    | global g=>rfl
   have hb:touchB C o=true:=by unfold touchB;rw [ho];exact htc
   unfold Anc.lets at hT
   rw [hb] at hT
   simp only [Bool.and_eq_true,Bool.or_eq_true] at hT
   simpa using hT.1
  exact ext_sound (hC.exts f e hE) ht S hd hk ho hev h
 rename_i hE
 split at h
 ·rename_i fs F hF
  have ht:C.calm f=false→Θ.kb=false∧Θ.ka=false:=by
   intro hcalm
   have htc:touchC C o=true:=by
    unfold touchC
    rw [ho]
    cases cf with
    | func g=>
     have:g=f:=by
      have:SV.clo g []=SV.clo f cs:=hcf
      cases this;rfl
     subst this
     simp [hE,hF,hcalm]
    | tmp t=>rfl
    | const v=>rfl
    | global g=>rfl
   have hb:touchB C o=true:=by unfold touchB;rw [ho];exact htc
   have ha:touchA C o=true:=by unfold touchA;rw [ho];exact htc
   unfold Anc.lets at hT
   simpa [hb,ha] using hT
  exact callT_sound hC ht S hd hk hp ho hcf hf hF h
 ·split at h
  case h_2=>cases h
  rename_i f' hcf2
  rw [hcf] at hcf2
  cases hcf2
  have hev:a.eval cf = .func (.func f) #[] #[]:=by
   have:=S.ev cf
   rw [hcf] at this
   obtain ⟨vs,h1,h2⟩:=this
   have h2:vs.toList=[]:=h2
   have:vs = #[]:=by apply Array.ext';simpa using h2
   rw [h1,this]
  split at h
  ·rename_i hsc
   refine call_wp hC S hd hk ho hev hf (g:=toU C.P σ.objs) (Zc:=fun b=>Z b∨Live σ G b) (fun c s u v hu hs=>toU_rep S hu hs) ?_ ?_ h
   ·rintro b (hb | ⟨id,e,ob,h1,h2⟩)
    ·exact S.lt b hb
    ·exact RepO.lt S h1 h2
   ·intro rs svs w' v Z' hsv hrr h1 h2 h3
    refine ⟨fun b=>Z b,fun b hb=>.inl hb,fun b hb=>hb,fun b hb=>h2 b (h3 b (.inl hb)),?_⟩
    unfold RepRes at hrr ⊢
    split at hrr
    ·rename_i s
     obtain ⟨v',t',hv,hs,_⟩:=scalars_rep (Z':=Z) hsc hsv (vs:=[v]) ⟨v,[],rfl,hrr,rfl⟩
     cases hv
     exact hs
    ·rename_i hne
     obtain ⟨vs,rfl,hs⟩:=hrr
     exact ⟨vs,rfl,scalars_rep hsc hsv hs⟩
  ·split at h
   ·rename_i σ' hfr
    obtain ⟨Z',S'⟩:=freezes_sim S hfr
    exact call_wp hC S' hd hk ho hev hf (g:=plainU) (Zc:=Z') (fun c s u v hu hs=>plainU_rep hu hs) S'.lt
     (fun rs svs w' v Z'' hsv hrr h1 h2 h3=>⟨Z'',h1,h3,h2,hrr⟩) h
   ·cases h
theorem op1_sound (hC:C.Ok) (hT:Θ.lets C o=true) (S:Sim C.P Θ n σ a w Z G) (hd:∀ t,o.dst=some t→t < n) (hst:∀ t x y,o.op = .store t x y→o.dst=none) (hst':∀ {t x i v},o.op = .mapUpdate t x i v→o.dst=none) (hst'':∀ {t x i v},o.op = .entryStore t x i v→o.dst=none) (hst3:∀ {t x i v},o.op = .insert t x i v→o.dst=none)
  (h:op1 C o σ k) (hk:∀ σ' a' w' Z' G',k σ'→Sim C.P Θ n σ' a' w' Z' G'→K a' w') (hp:∀ s σ' w' Z' G' v,C.pan s σ'→Sim C.P Θ n σ' a w' Z' G'→RepSV w' Z' G' s v→Q (.panic [{ v:=v,recovered:=false }]) a w'):o.wp C.P a w K Q:=by
 have h0:=h
 unfold op1 at h
 split at h
 ·rename_i x ho
  exact op_move ho (hk _ _ _ _ _ h (S.put (S.ev x) hd))
 ·rename_i x ho
  split at h
  ·rename_i d e hn hdst hnc
   split at h
   ·rename_i hsm
    have hv:a.eval x = .slice none 0 0:=by have:=S.ev x;rw [isNil_eq hn] at this;exact this
    obtain ⟨i,m,cs,z,h1,h2,h3,h4,h5,h6,h7⟩:=smallType_some hsm
    refine op_assign ho ?_
    rw [hv]
    exact new_put (ob:=.arr e []) (s:=.own (2 * (d * 64 + 62))) (id:=2 * (d * 64 + 62)) (row:=none) (v:=.slice none 0 0) S hdst hd hk (by omega) ⟨rfl,rfl,rfl,Nat.le_refl _,fun _ _ _=>rfl⟩ (fun b hb=>by cases hb) (fun b hb=>by cases hb)
     ⟨m,cs,[],h2,by simp only [if_true];exact World.ownsRow_nil w 0 e cs.length,rfl⟩ (by show _=_;simp) h
   ·cases h
  ·exact op_assign ho (hk _ _ _ _ _ h (S.put (S.ev x) hd))
 ·rename_i c x y ho
  split at h
  ·rename_i u hu
   have hc:a.eval c = .bool u.bool:=by have:=S.ev c;rw [hu] at this;exact this
   refine op_pick ho hc ?_
   rcases cond_some h with ⟨hb,h⟩ | ⟨hb,h⟩
   ·rw [hb];exact hk _ _ _ _ _ h (S.put (S.ev x) hd)
   ·rw [hb];exact hk _ _ _ _ _ h (S.put (S.ev y) hd)
  ·cases h
 ·rename_i t x ho
  split at h
  ·rename_i d hdst
   obtain ⟨hb,h⟩:=cond_only h
   exact op_box ho (newBox_sound S hdst hd hk (cellsV_ok S hb).1 h)
  ·cases h
 ·rename_i t ho
  split at h
  ·rename_i d z hdst hz
   unfold zeroCells at hz
   split at hz
   ·rename_i i hi
    split at hz
    ·rename_i zv hzv
     injection hz with hz
     subst hz
     exact op_alloc ho hi hzv (newBox_sound S hdst hd hk (ofConsts_rep _) h)
    ·cases hz
   ·cases hz
  ·cases h
 ·rename_i t ps ho
  split at h
  ·rename_i fs z hu hz
   split at h
   ·rename_i cs hs hf
    exact build_sound S hd hk ho hu hz hs hf h
   ·cases h
  ·cases h
 ·rename_i t ne ps ho
  split at h
  ·rename_i e d hnc hdst
   split at h
   ·rename_i m cs σ' hcs hsm hfr
    obtain ⟨Z',S'⟩:=freezes_sim S hfr
    split at h
    ·rename_i z hz
     split at h
     ·rename_i hps
      exact lit0_sound S' hdst hd hk ho (nilCell_some hnc) hsm hps h
     ·cases h
    ·rename_i z hz
     split at h
     ·rename_i v hps
      split at h
      ·rename_i us hus
       obtain ⟨h1,h2⟩:Nat.ble cs.length 16777216=true∧k ((σ'.new (2 * (d * 64 + 63)) (.arr e [ofElem m us])).set d (.own (2 * (d * 64 + 63)))):=cond_only h
       refine lit_sound S' hdst hd hk ho (nilCell_some hnc) hcs hsm hz (xs:=[ofElem m us]) ?_ (by have:=Nat.le_of_ble_eq_true h1;omega) (by omega) h2
       rw [hps]
       simp only [litElems,hus]
       rfl
      ·cases h
     ·cases h
    ·rename_i z hne hz
     split at h
     ·rename_i xs hl
      obtain ⟨h1,h2⟩:=cond_only h
      simp only [Bool.and_eq_true] at h1
      exact lit_sound S' hdst hd hk ho (nilCell_some hnc) hcs hsm hz hl (by have:=Nat.le_of_ble_eq_true h1.1;omega) (by have:=h1.2;simpa [Nat.blt_eq] using this) h2
     ·cases h
    ·cases h
   ·cases h
  ·cases h
 ·rename_i t l c ho
  split at h
  ·rename_i e d kl ul kc uc hnc hdst hl hc
   split at h
   ·rename_i z hsm hz
    obtain ⟨hb,h⟩:=cond_only h
    exact make_sound S hdst hd hk ho (nilCell_some hnc) hl hc hsm hz (of_decide_eq_true hb) h
   ·cases h
  ·cases h
 ·rename_i t x ho
  exact load_sound S hd hk ho h0
 ·rename_i t x y ho
  have hT:!Θ.kb && !Θ.ka:=by unfold Anc.lets touchB touchA at hT;rw [ho] at hT;exact hT
  simp only [Bool.and_eq_true,Bool.not_eq_true'] at hT
  exact store_sound hT.1 hT.2 S (hst _ _ _ ho) hk ho h0
 ·rename_i x ho
  have hx:=S.ev x
  split at h
  ·rename_i id off hp
   rw [hp] at hx
   obtain ⟨b,hG,hv⟩:=hx
   exact op_nilCheck ho hv (hk _ _ _ _ _ h (S.put ⟨b,hG,rfl⟩ hd))
  ·rename_i id sz j off hp
   rw [hp] at hx
   obtain ⟨b,n',c,hG,hv⟩:=hx
   exact op_nilCheck ho hv (hk _ _ _ _ _ h (S.put ⟨b,n',c,hG,rfl⟩ hd))
  ·rename_i cs us hp
   rw [hp] at hx
   obtain ⟨b,off,hv,hb,hr⟩:=hx
   exact op_nilCheck ho hv (hk _ _ _ _ _ h (S.put ⟨b,off,rfl,hb,hr⟩ hd))
  ·cases h
 ·rename_i op t x y t2 ho
  exact op_bin hC ho (S.ev x) (S.ev y) h (fun s v hs hv=>hk _ _ _ _ _ hs (S.put hv hd))
 ·rename_i t x ho
  split at h
  ·rename_i u hu
   have hx:a.eval x = .bool u.bool:=by have:=S.ev x;rw [hu] at this;exact this
   exact op_not ho hx (hk _ _ _ _ _ h (S.put rfl hd))
  ·cases h
 ·rename_i t x ho
  split at h
  ·rename_i i u hu
   have hx:a.eval x = .int i u.int:=by have:=S.ev x;rw [hu] at this;exact this.1
   exact op_neg ho hx (hk _ _ _ _ _ h (S.put (s:=.val _ _) (rep_wrap _ _) hd))
  ·cases h
 ·rename_i t x ho
  split at h
  ·rename_i i u hu
   have hx:a.eval x = .int i u.int:=by have:=S.ev x;rw [hu] at this;exact this.1
   exact op_compl ho hx (hk _ _ _ _ _ h (S.put (s:=.val _ _) (rep_wrap _ _) hd))
  ·cases h
 ·rename_i s t x ho
  have hx:=S.ev x
  split at h
  ·rename_i i1 i kd u hs ht hp
   rw [hp] at hx
   have hx:a.eval x = .int kd u.int:=hx.1
   refine wp_value (v:=.int i (i.wrap u.int)) (w':=w) ?_ (hk _ _ _ _ _ h (S.put (s:=.val _ _) (rep_wrap _ _) hd))
   simp [execOp,ho,hx,convert,run_underlying hs,run_underlying ht,Conv.intToInt]
  ·rename_i e hs ht
   split at h
   ·rename_i he
    split at h
    ·rename_i u hu
     have hr:=toU_rep S hu hx
     have hrun:=run_toString (C:=C) hr
     refine wp_value (v:=.string ⟨(u.list.map fun x:U=>UInt8.ofNat x.int.toNat).toArray⟩) (w':=w) ?_ (hk _ _ _ _ _ h (S.put (s:=.val .str _) ⟨rfl,by have:=hr.ok.1;simpa [ByteArray.size] using this⟩ hd))
     obtain ⟨A,c,hv,_⟩:=hr
     rw [hv] at hrun
     simp [execOp,ho,hv,convert,run_underlying hs,run_underlying ht,run_underlying he,hrun]
    ·cases h
   ·cases h
  ·rename_i u hs ht hp
   rw [hp] at hx
   obtain ⟨hx,hxs⟩:a.eval x = .string u.str∧u.str.size≤maxLen:=hx
   refine wp_value (v:=.string u.str) (w':=w) ?_ (hk _ _ _ _ _ h (S.put (s:=.val .str _) ⟨rfl,hxs⟩ hd))
   simp [execOp,ho,hx,convert,run_underlying hs,run_underlying ht]
  ·cases h
 ·rename_i s x f ho
  split at h
  ·rename_i fd hf
   split at h
   ·rename_i k' hs
    have hx:=S.ev x
    split at h
    ·rename_i id off hp
     rw [hp] at hx
     obtain ⟨b,hG,hv⟩:=hx
     exact op_fieldAddr ho hf hs hv (hk _ _ _ _ _ h (S.put ⟨b,hG,rfl⟩ hd))
    ·rename_i id sz j off hp
     rw [hp] at hx
     obtain ⟨b,n',c,hG,hv⟩:=hx
     exact op_fieldAddr ho hf hs hv (hk _ _ _ _ _ h (S.put ⟨b,n',c,hG,by rw [Nat.add_assoc]⟩ hd))
    ·rename_i cs us hp
     rw [hp] at hx
     obtain ⟨b,off,hv,hb,hr⟩:=hx
     exact op_fieldAddr ho hf hs hv (hk _ _ _ _ _ h (S.put ⟨b,off + fd.offset,rfl,hb,hr.drop fd.offset⟩ hd))
    ·cases h
   ·cases h
  ·cases h
 ·rename_i s x f ho
  have hx:=S.ev x
  split at h
  ·rename_i fd cells hf hp
   rw [hp] at hx
   obtain ⟨vs,hv,hr⟩:=hx
   split at h
   ·rename_i v hpt
    obtain ⟨v',hrun,hrep⟩:=run_part (P:=C.P) hr hpt
    exact op_field ho hf hv (hrun w) (hk _ _ _ _ _ h (S.put hrep hd))
   ·cases h
  ·cases h
 ·rename_i t x i ho
  have hx:=S.ev x
  have hi:=S.ev i
  split at h
  ·rename_i e m cs u kd j hu hp hj
   rw [hp] at hx
   rw [hj] at hi
   obtain ⟨hb1,h⟩:=cond_only h
   obtain ⟨hb,h⟩:=cond_only h
   obtain ⟨h1,h2⟩:=of_decide_eq_true hb
   obtain ⟨A,c,hv,hc,hcm,hel⟩:=hx
   obtain ⟨b,off,hA,hZ,hr⟩:=hel j.int.toNat (by omega)
   rw [hA] at hv
   exact op_indexAddr ho hu (isSize_some hb1) hv hi.1 h1 h2 (hk _ _ _ _ _ h (S.put ⟨b,_,rfl,hZ,hr⟩ hd))
  ·rename_i e' id kd j hu hp hj
   rw [hp] at hx
   rw [hj] at hi
   split at h
   ·rename_i e xs hob
    split at h
    ·rename_i m cs hcs
     obtain ⟨hb1,h⟩:=cond_only h
     obtain ⟨hb,h⟩:=cond_only h
     obtain ⟨h1,h2⟩:=of_decide_eq_true hb
     obtain ⟨m2,cs2,vs,g1,g2,g3⟩:=S.obj id _ hob
     rw [hcs] at g1
     cases g1
     rcases g2.2 with ⟨_,g4⟩ | ⟨g,cap,cur,g4,_⟩
     ·omega
     have hx:a.eval x=G id:=hx
     rw [g4] at hx
     exact op_indexAddr (off:=0) ho hu (isSize_some hb1) hx hi.1 h1 h2 (hk _ _ _ _ _ h (S.put ⟨g,xs.length,cap,g4,by simp⟩ hd))
    ·cases h
   ·cases h
  ·cases h
 ·rename_i t x i ho
  have hx:=S.ev x
  have hi:=S.ev i
  split at h
  ·rename_i s kd j hu hp hj
   rw [hp] at hx
   rw [hj] at hi
   obtain ⟨hb,h⟩:=cond_only h
   obtain ⟨h1,h2⟩:=of_decide_eq_true hb
   exact op_index ho hu hx.1 hi.1 h1 h2 (hk _ _ _ _ _ h (S.put (s:=.val _ _) (rep_u8 _) hd))
  ·cases h
 ·rename_i x i ho
  have hx:=S.ev x
  split at h
  ·rename_i vs hp
   rw [hp] at hx
   obtain ⟨us,hv,hr⟩:=hx
   obtain ⟨hb,h⟩:=cond_only h
   have hb:i < vs.length:=by simpa [Nat.blt_eq] using hb
   have hl:=hr.length
   have hi:i < us.size:=by simp at hl;omega
   have hget:us[i]? = some us[i]:=Array.getElem?_eq_getElem hi
   exact op_extract ho hv hget (hk _ _ _ _ _ h (S.put (hr.nth i _ (by simp [hi])) hd))
  ·cases h
 ·rename_i t x lo hi mx ho
  split at h
  ·rename_i e l h1 m hu hl hh hm
   split at h
   ·rename_i mm cs u hx
    obtain ⟨hsz,h⟩:=cond_only h
    unfold op1.sliceK at h
    obtain ⟨hb,h⟩:=cond_only h
    simp only [Bool.and_eq_true] at hb
    refine slice_sound S hd hk ho hu (isSize_some hsz) hl hh hm (fun hms=>?_) hx (of_decide_eq_true hb.1) h
    cases m with
    | none=>cases hms
    | some m=>cases h1 with
     | none=>simp at hb
     | some _=>rfl
   ·rename_i id hx
    split at h
    ·rename_i e' xs hob
     split at h
     ·rename_i mm cs hcs
      obtain ⟨hsz,h⟩:=cond_only h
      obtain ⟨hb,h⟩:=cond_only h
      exact sliceOwn_sound S hd hk ho hu (isSize_some hsz) hl hh hm hx hob hcs (of_decide_eq_true hb) h
     ·cases h
    ·cases h
   ·cases h
  ·rename_i l h1 hu hl hh hm
   split at h
   ·rename_i u hx
    obtain ⟨hb,h⟩:=cond_only h
    have hb:=of_decide_eq_true hb
    obtain ⟨hv,hvs⟩:a.eval x = .string u.str∧u.str.size≤maxLen:=by have:=S.ev x;rw [hx] at this;exact this
    have hbr:=run_bounds (P:=C.P) (isSlice:=false) (w:=w) (len:=u.str.size) (cap:=u.str.size) (Nat.le_refl _) (lst_rep S hl) (lst_rep S hh) (.inl ⟨rfl,rfl⟩) (mx:=none) (m:=none) (by simp) ⟨hb.1,hb.2.1,by simp,by simpa using hb.2.2⟩
    have hmx:mx=none:=by
     rcases lst_rep S hm with ⟨h2,_⟩ | ⟨y,kd,i,_,h2,_⟩
     ·exact h2
     ·cases h2
    subst hmx
    refine wp_value (v:=.string (u.str.extract (l.getD 0).toNat (h1.getD u.str.size).toNat)) (w':=w) ?_ (hk _ _ _ _ _ h (S.put (s:=.val .str _) ⟨rfl,by show (u.str.extract _ _).size≤maxLen;rw [ByteArray.size_extract];omega⟩ hd))
    simp only [Option.map_none] at hbr
    simp [execOp,ho,hv,Instr.sliceAt,Instr.slice,run_underlying hu,hbr]
   ·cases h
  ·cases h
 ·rename_i args ts ho
  split at h
  ·rename_i s t hargs hts
   obtain ⟨p,hp,rfl⟩:=evs_one hargs
   have hx:=S.ev p
   split at h
   ·rename_i e m cs u hu hev
    rw [hev] at hx
    have hl:u.list.length≤maxLen:=(RepC.ok (c:=.sl m cs) hx).1
    obtain ⟨A,c,hv,_⟩:=hx
    exact op_len_slice ho hp hts hu hv (hk _ _ _ _ _ h (S.put (s:=.val _ _) (rep_len hl) hd))
   ·rename_i e id hu hev
    rw [hev] at hx
    split at h
    ·rename_i e' xs hob
     obtain ⟨m2,cs2,vs,g1,g2,g3⟩:=S.obj id _ hob
     have hl:xs.length≤maxLen:=(RepO.ok (S.obj id _ hob)).1
     have hx:a.eval p=G id:=hx
     rcases g2.2 with ⟨g4,g5⟩ | ⟨g,cap,cur,g4,_⟩
     ·rw [g4] at hx
      rw [g5] at h
      exact op_len_slice ho hp hts hu hx (hk _ _ _ _ _ h (S.put (s:=.val _ _) (rep_len (Nat.zero_le _)) hd))
     ·rw [g4] at hx
      exact op_len_slice ho hp hts hu hx (hk _ _ _ _ _ h (S.put (s:=.val _ _) (rep_len hl) hd))
    ·cases h
   ·rename_i e hu hev
    rw [hev] at hx
    exact op_len_slice ho hp hts hu hx (hk _ _ _ _ _ h (S.put (s:=.val _ _) (rep_len (n:=0) (Nat.zero_le _)) hd))
   ·rename_i kt vt id hu hev
    rw [hev] at hx
    split at h
    ·rename_i t' es hob
     obtain ⟨b',ents,kt',vt',km,kcs,vm,vcs,g1,g2,g3,g4,g5,g6⟩:=S.obj id _ hob
     obtain ⟨b,hG,hv⟩:=hx
     rw [hG] at g1
     cases g1
     have hl:ents.size=es.length:=by simpa using RepEnts.length g6
     obtain ⟨hb,h⟩:=cond_only h
     have hb:=Nat.le_of_ble_eq_true hb
     refine op_len_map ho hp hts hu hv g2 ?_
     rw [hl]
     exact hk _ _ _ _ _ h (S.put (s:=.val _ _) (rep_len (by unfold room at hb;unfold maxLen;omega)) hd)
    ·cases h
   ·rename_i u hu hev
    rw [hev] at hx
    exact op_len_string ho hp hts hu hx.1 (hk _ _ _ _ _ h (S.put (s:=.val _ _) (rep_len hx.2) hd))
   ·cases h
  ·cases h
 ·rename_i args ts ho
  split at h
  ·rename_i i x j y hargs
   obtain ⟨p,q,hp,hx,hy⟩:=evs_two hargs
   obtain ⟨hs,h'⟩:=cond_only h
   have hij:=same_eq hs
   subst hij
   have hvx:RepC w Z (.int i) (a.eval p) x:=by have:=S.ev p;rw [← hx] at this;exact this
   have hvy:RepC w Z (.int i) (a.eval q) y:=by have:=S.ev q;rw [← hy] at this;exact this
   have ha':args = #[p,q]:=by cases args;simp_all
   subst ha'
   refine wp_value (v:=.int i (bif decide (y.int < x.int) then y.int else x.int)) (w':=w) ?_ (hk _ _ _ _ _ h' (S.put (s:=.val (.int i) (.i _)) ⟨rfl,?_⟩ hd))
   ·simp [execOp,ho,resolve,invoke,builtin,hvx.1,hvy.1,run_min_int2]
   ·have h1:=hvx.2
    have h2:=hvy.2
    show i.min≤(bif decide (y.int < x.int) then y.int else x.int)∧(bif decide (y.int < x.int) then y.int else x.int)≤i.max
    cases decide (y.int < x.int)<;>first | exact h1 | exact h2
  ·cases h
 ·rename_i args ts ho
  split at h
  ·rename_i i x j y hargs
   obtain ⟨p,q,hp,hx,hy⟩:=evs_two hargs
   obtain ⟨hs,h'⟩:=cond_only h
   have hij:=same_eq hs
   subst hij
   have hvx:RepC w Z (.int i) (a.eval p) x:=by have:=S.ev p;rw [← hx] at this;exact this
   have hvy:RepC w Z (.int i) (a.eval q) y:=by have:=S.ev q;rw [← hy] at this;exact this
   have ha':args = #[p,q]:=by cases args;simp_all
   subst ha'
   refine wp_value (v:=.int i (bif decide (x.int < y.int) then y.int else x.int)) (w':=w) ?_ (hk _ _ _ _ _ h' (S.put (s:=.val (.int i) (.i _)) ⟨rfl,?_⟩ hd))
   ·simp [execOp,ho,resolve,invoke,builtin,hvx.1,hvy.1,run_max_int2]
   ·have h1:=hvx.2
    have h2:=hvy.2
    show i.min≤(bif decide (x.int < y.int) then y.int else x.int)∧(bif decide (x.int < y.int) then y.int else x.int)≤i.max
    cases decide (x.int < y.int)<;>first | exact h1 | exact h2
  ·cases h
 ·rename_i args ts ho
  split at h
  ·rename_i s x t tx d hargs hts hdst
   obtain ⟨p,q,hp,rfl,rfl⟩:=evs_two hargs
   have hka:Θ.ka=false:=by unfold Anc.lets touchB touchA at hT;rw [ho] at hT;simp at hT;exact hT.2
   split at h
   ·rename_i e e' hnc hu
    exact append_sound (str:=false) S hdst hd hk ho hp hts hka (nilCell_some hnc) (by simpa using ⟨e',hu⟩) h
   ·rename_i e hnc hu
    exact append_sound (str:=true) S hdst hd hk ho hp hts hka (nilCell_some hnc) (by simpa using hu) h
   ·cases h
  ·cases h
 ·rename_i cf args ts ho
  split at h
  ·rename_i f cs hcf
   exact call_sound hC hT S hd hk hp ho hcf h
  ·cases h
 ·rename_i t x i ok ho
  exact lookup_sound S hd hk ho h0
 ·rename_i t x i v ho
  have hT:Θ.kb=false:=by unfold Anc.lets touchB at hT;rw [ho] at hT;simp at hT;exact hT.1
  exact update_sound hT S (hst' ho) hk ho h0
 ·rename_i t x i v ho
  have hT:Θ.kb=false:=by unfold Anc.lets touchB at hT;rw [ho] at hT;simp at hT;exact hT.1
  exact insert_sound hT S (hst3 ho) hk ho h0
 ·rename_i t x i ho
  have hT:Θ.kb=false:=by unfold Anc.lets touchB at hT;rw [ho] at hT;simp at hT;exact hT.1
  exact entry_sound hT S hd hk ho h0
 ·rename_i t x i v ho
  have hT:Θ.kb=false:=by unfold Anc.lets touchB at hT;rw [ho] at hT;simp at hT;exact hT.1
  exact entryStore_sound hT S (hst'' ho) hk ho h0
 ·rename_i f first caps ho
  split at h
  ·rename_i hfi
   refine wp_value (v:=.func (.func f) #[] (caps.map a.eval)) (w':=w) ?_ (hk _ _ _ _ _ h (S.put ⟨_,rfl,by simpa using S.evs_rep caps.toList⟩ hd))
   have:first = #[]:=by apply Array.ext';simpa using hfi
   simp [execOp,ho,Instr.makeFunc,this]
  ·cases h
 ·rename_i t x ho
  split at h
  ·cases h
  ·rename_i d hni hu
   refine wp_value (v:=.iface t (a.eval x)) (w':=w) ?_ (hk _ _ _ _ _ h (S.put ⟨_,rfl,S.ev x⟩ hd))
   simp only [execOp,ho,Instr.makeInterface,Sem.run_bind,run_underlying hu,Result.andThen]
   cases d<;>first | rfl | (exact absurd hu (hni _))
  ·cases h
 ·rename_i x ho
  split at h
  ·rename_i t s hx
   have hr:=S.ev x
   rw [hx] at hr
   have hr':=hr
   obtain ⟨y,hv,_⟩:=hr
   unfold Oper.wp
   have hrun:(execOp a.eval o).run C.P w = .halt (.panic (.iface t y)) w:=by simp [execOp,ho,hv,Instr.panic,goPanic]
   rw [hrun]
   have:=hp _ _ _ _ _ _ h S hr'
   rw [hv] at this
   exact this
  ·cases h
 ·rename_i t ho
  split at h
  ·rename_i d kt vt hdst hu
   have hrun:(execOp a.eval o).run C.P w = .ok (.value (.map (some w.heap.size))) (w.alloc (.map #[] 0)):=by
    simp only [execOp,ho,Instr.makeMap,newObj]
    rfl
   obtain ⟨⟨km,kcs⟩,hk1⟩:∃ x,Cs C.P kt=some x:=by
    cases hx:Cs C.P kt with
    | none=>rw [hx] at h;exact h.elim
    | some x=>exact ⟨x,rfl⟩
   rw [hk1] at h
   obtain ⟨⟨vm,vcs⟩,hk2⟩:∃ x,Cs C.P vt=some x:=by
    cases hx:Cs C.P vt with
    | none=>rw [hx] at h;exact h.elim
    | some x=>exact ⟨x,rfl⟩
   rw [hk2] at h
   have hg:w.grownBy (w.alloc (.map #[] 0)) none:=World.grownBy_alloc w _ none
   have S':=S.newO (id:=2 * (d * 64)) (o:=.map t []) (v:=.pointer (some ⟨w.heap.size,0,none⟩)) (row:=none) (by omega) hg (fun b hb=>by cases hb) (fun b hb=>.inr (by simp [blk] at hb;omega))
    ⟨w.heap.size,#[],kt,vt,km,kcs,vm,vcs,by simp,heap_alloc_new w _,hu,hk1,hk2,rfl⟩
   have S'':=S'.put (d:=o.dst) (s:=.mp (2 * (d * 64))) (v:=.map (some w.heap.size)) ⟨w.heap.size,by simp,rfl⟩ hd
   refine wp_value hrun ?_
   rw [hdst] at S'' ⊢
   exact hk _ _ _ _ _ h S''
  ·cases h
 ·rename_i args ts ho
  split at h
  ·rename_i d s t tx hev hts
   split at h
   ·rename_i e e2 hne hux
    split at h
    ·rename_i ys hcs hsrc
     obtain ⟨hsz,h⟩:=cond_only h
     obtain ⟨p,q,hpq,hp,hq⟩:=evs_two hev
     subst hp hq
     have hka:Θ.ka=false:=by unfold Anc.lets touchB touchC touchA at hT;rw [ho] at hT;simpa using hT
     split at h
     ·rename_i id hd0
      have hx:a.eval p=G id:=by have:=S.ev p;rw [hd0] at this;exact this
      refine copy_sound S hd hk ho hpq hts hka (nilCell_some hne) hcs (isSize_some hsz) hsrc ?_ h
      rw [hx,slFrom_zero]
      intro A n' c' hG
      have hob:∃ e' xs,getO σ.objs id=some (.arr e' xs):=by
       unfold opCopy at h
       split at h
       ·exact ⟨_,_,by assumption⟩
       ·cases h
      obtain ⟨e',xs,hob⟩:=hob
      obtain ⟨_,_,_,_,h2,_⟩:=S.obj id _ hob
      rcases h2.2 with ⟨h3,_⟩ | ⟨g,cap,cur,h3,_⟩
      ·rw [hG] at h3;injection h3 with h3;exact .inl h3
      ·rw [hG] at h3;injection h3 with h3;exact .inr ⟨_,_,h3⟩
     ·rename_i id j hd0
      have hx:a.eval p=slFrom j 1 (G id):=by have:=S.ev p;rw [hd0] at this;exact this
      exact copy_sound S hd hk ho hpq hts hka (nilCell_some hne) hcs (isSize_some hsz) hsrc hx h
     ·cases h
    ·cases h
   ·cases h
  ·cases h
 ·cases h
end
end Go.Den

namespace Go.Den
open Go Go.RowKit
section
variable {P:Program} {ops:Array Oper} {Q:Exit→Act→World→Prop} {md:Region.Mode}
def AnyR (P:Program) (md:Region.Mode) (ops:Array Oper) (Q:Exit→Act→World→Prop):Nat→Array Bool→Act→World→(Nat→Prop)→Prop
 | 0,listed,a,w,_=>Region.ready md ops listed=[]∧Q .normal a w
 | fuel + 1,listed,a,w,H=>(Region.ready md ops listed=[]→Q .normal a w)∧
  ∀ i ∈ Region.ready md ops listed,wpOp P ops Q i (fun a' w'=>∃ H':Nat→Prop,(∀ b,H b→H' b)∧(∀ b,H b→w'.heap[b]? = w.heap[b]?)∧AnyR P md ops Q fuel (listed.setIfInBounds i true) a' w' H') a w
theorem AnyR.any:∀ (fuel:Nat) (listed:Array Bool) (a:Act) (w:World) (H:Nat→Prop),AnyR P md ops Q fuel listed a w H→wpAny P md ops Q fuel listed a w
 | 0,_,_,_,_,h=>h
 | fuel + 1,_,_,_,_,h=>⟨h.1,fun i hi=>wpOp_mono (fun a' w' ⟨_,_,_,h'⟩=>AnyR.any fuel _ a' w' _ h') (h.2 i hi)⟩
theorem yields_less {o:Oper} {v:Value} {a:Act} {S S':World→Prop} (h:∀ w,S' w→S w) (hy:YieldsIf P ops S o v a):YieldsIf P ops S' o v a:=
 hy.imp (fun ⟨h1,h2⟩=>⟨h1,fun w hw=>h2 w (h w hw)⟩) id
theorem AnyR.first {i:Nat} {oi:Oper} {v:Value} (hi:ops[i]? = some oi) (hsel:Region.noSelect ops=true) (hQ:∀ c a w d v,Q (.panic c) (a.put d v) w→Q (.panic c) a w) :
  ∀ (fuel:Nat) (listed:Array Bool) (a:Act) (w:World) (H:Nat→Prop),
   (∀ j oj,ops[j]? = some oj→j≠i→listed.getD j true=false→(∀ e ∈ oj.after,Region.binds md e=true→e.on≠i)→oi.apart ops oj=true)→
   i ∈ Region.ready md ops listed→YieldsIf P ops (fun w'=>∀ b,H b→w'.heap[b]? = w.heap[b]?) oi v a→AnyR P md ops Q fuel (listed.setIfInBounds i true) (a.put oi.dst v) w H→AnyR P md ops Q (fuel + 1) listed a w H:=by
 intro fuel
 induction fuel with
 | zero=>
  intro listed a w H _ hr hy h
  refine ⟨fun h=>(by rw [h] at hr;cases hr),fun j hj=>?_⟩
  by_cases hji:j=i
  ·subst hji;exact hy.wpOp hi (fun _ _=>rfl) ⟨H,fun _ h=>h,fun _ _=>rfl,h⟩
  ·have:=ready_mono hj hji
   rw [h.1] at this
   cases this
 | succ fuel ih=>
  intro listed a w H hfree hr hy h
  refine ⟨fun h=>(by rw [h] at hr;cases hr),fun j hj=>?_⟩
  by_cases hji:j=i
  ·subst hji;exact hy.wpOp hi (fun _ _=>rfl) ⟨H,fun _ h=>h,fun _ _=>rfl,h⟩
  ·have hjr:=ready_mono hj hji
   obtain ⟨hun,oj,hoj,hall⟩:=mem_ready.1 hj
   have hwait:∀ e ∈ oj.after,Region.binds md e=true→e.on≠i:=by
    intro e he hb heq
    have h1:=hall e he hb
    have h2:=(mem_ready.1 hr).1
    rw [heq] at h1
    by_cases hlt:i < listed.size
    ·simp [hlt] at h1 h2;rw [h1] at h2;cases h2
    ·simp [Array.getElem?_eq_none (Nat.le_of_not_lt hlt)] at h1
   have hput:=wpOp_putIf hoj (hfree j oj hoj hji hun hwait) (fun cs b=>Region.noSelect_spec hsel i oi cs b hi) (fun cs b=>Region.noSelect_spec hsel j oj cs b hoj)
    (fun c a w h=>hQ c a w _ _ h) hy (h.2 j hjr)
   refine wpOp_mono ?_ hput
   rintro a' w' ⟨hy',H',hsub,hsame,h'⟩
   refine ⟨H',hsub,hsame,ih (listed.setIfInBounds j true) a' w' H' ?_ (ready_mono hr (Ne.symm hji)) (yields_less (fun w'' h b hb=>(h b (hsub b hb)).trans (hsame b hb)) hy') ?_⟩
   ·intro k ok hk hki hkun hkw
    refine hfree k ok hk hki ?_ hkw
    by_cases hjk:j=k
    ·subst hjk;exact hun
    ·rw [getD_set_ne true hjk] at hkun;exact hkun
   ·rw [Array.setIfInBounds_comm _ _ hji]
    exact h'
theorem wp_region_R {id:Nat} {a:Act} {w:World} {H:Nat→Prop} (hm:P.follows .mixedOrders=true) (h:AnyR P .any ops Q ops.size (Array.replicate ops.size false) a { w with drawn:=w.drawn + 1 } H):(Code.region id ops true).wp P Q a w:=
 wp_region_any hm (AnyR.any _ _ _ _ _ h)
end
end Go.Den

namespace Go.Den
open Go Go.RowKit
section
variable {C:Ctx} {a:Act} {w:World} {Z:Nat→Prop} {G:Nat→Value} {o:Oper}
theorem bin_ints {op:BinOp} {t:TypeId} {x y:Operand} {i j:IntKind} {m n:Int} {v:Value} (hx:a.eval x = .int i m) (hy:a.eval y = .int j n)
  (h:∀ w':World,(binOp op t (.int i m) (.int j n)).run C.P w' = .ok v w'):∀ w':World,(do eqGuard op t x y (a.eval x) (a.eval y);binOp op t (a.eval x) (a.eval y)).run C.P w' = .ok v w':=by
 intro w'
 rw [hx,hy]
 simp only [Sem.run_bind,eqGuard_int,Result.andThen,h]
theorem bin_all (hC:C.Ok) {op:BinOp} {t:TypeId} {x y:Operand} {sx sy:SV} {k:SV→Prop} (hx:RepSV w Z G sx (a.eval x)) (hy:RepSV w Z G sy (a.eval y))
  (h:bin C op t sx sy k):∃ s v,k s∧RepSV w Z G s v∧∀ w':World,(do eqGuard op t x y (a.eval x) (a.eval y);binOp op t (a.eval x) (a.eval y)).run C.P w' = .ok v w':=by
 unfold bin at h
 split at h
 ·rename_i i m j n
  obtain ⟨hx,hmr⟩:a.eval x = .int i m.int∧i.min≤m.int∧m.int≤i.max:=hx
  have hy:a.eval y = .int j n.int:=hy.1
  split at h
  ·rcases cond_some h with ⟨_,h⟩ | ⟨hb,h⟩
   ·cases h
   ·have hb:¬ n.int < 0:=of_decide_eq_false hb
    refine ⟨_,.int i (i.wrap (m.int * 2 ^ (min n.int.toNat i.bits))),h,rep_wrap _ _,bin_ints hx hy fun w'=>?_⟩
    simp [binOp,Op.shift,hb]
  ·rcases cond_some h with ⟨_,h⟩ | ⟨hb,h⟩
   ·cases h
   ·have hb:¬ n.int < 0:=of_decide_eq_false hb
    refine ⟨_,.int i (m.int.fdiv (2 ^ (min n.int.toNat i.bits))),h,rep_div hmr _,bin_ints hx hy fun w'=>?_⟩
    simp [binOp,Op.shift,hb]
  ·rename_i hnl hnr
   split at h
   ·cases h
   ·rename_i hs
    have:=same_eq hs
    subst this
    split at h
    ·rcases cond_some h with ⟨_,h⟩ | ⟨hb,h⟩
     ·cases h
     ·have hb:¬ n.int=0:=of_decide_eq_false hb
      refine ⟨_,.int i (i.wrap (m.int.tdiv n.int)),h,rep_wrap _ _,bin_ints hx hy fun w'=>?_⟩
      simp [binOp,Op.intDiv,hb]
    ·rcases cond_some h with ⟨_,h⟩ | ⟨hb,h⟩
     ·cases h
     ·have hb:¬ n.int=0:=of_decide_eq_false hb
      refine ⟨_,.int i (m.int.tmod n.int),h,rep_mod hmr _,bin_ints hx hy fun w'=>?_⟩
      simp [binOp,Op.intDiv,hb]
    ·rename_i hnq hnm
     split at h
     ·rename_i z hz
      refine ⟨_,.int i z,h,arith_rep hz,bin_ints hx hy fun w'=>?_⟩
      cases op<;>simp [arith] at hz<;>subst hz<;>simp [binOp,Op.intArith,Op.intBits]
     ·rename_i hz
      split at h
      ·rename_i b hb
       refine ⟨_,.bool b,h,rfl,bin_ints hx hy fun w'=>?_⟩
       cases op<;>simp [cmp] at hb<;>subst hb<;>simp [binOp,Op.intCmp]
      ·cases h
 ·rename_i m n
  have hx:a.eval x = .string m.str:=hx.1
  have hy:a.eval y = .string n.str:=hy.1
  split at h
  ·refine ⟨_,.bool (m.str.toList == n.str.toList),h,rfl,fun w'=>?_⟩
   rw [hx,hy]
   simp [eqGuard,binOp,Op.stringOp]
  ·refine ⟨_,.bool !(m.str.toList == n.str.toList),h,rfl,fun w'=>?_⟩
   rw [hx,hy]
   simp [eqGuard,binOp,Op.stringOp]
  ·cases h
 ·rename_i m n
  have hx:a.eval x = .bool m.bool:=hx
  have hy:a.eval y = .bool n.bool:=hy
  split at h
  ·rename_i hu
   split at h
   ·refine ⟨_,.bool (m.bool == n.bool),h,rfl,fun w'=>?_⟩
    rw [hx,hy]
    simp [eqGuard,binOp,run_equal_bool hu]
   ·refine ⟨_,.bool !(m.bool == n.bool),h,rfl,fun w'=>?_⟩
    rw [hx,hy]
    simp [eqGuard,binOp,run_equal_bool hu]
   ·cases h
  ·cases h
 ·rename_i xs ys
  split at h
  ·rename_i ks hks
   split at h
   ·rename_i b hb
    obtain ⟨vs,hvx,hrx⟩:=hx
    obtain ⟨us,hvy,hry⟩:=hy
    obtain ⟨is,js,l1,l2,e1,e2,rfl⟩:=eqCells_ints hb hrx hry
    have h12:=fun w'=>hC.eqs t ks hks x y is js w' l1 l2
    have hx:a.eval x=aggI ks is:=by rw [hvx];unfold aggI;rw [← e1]
    have hy:a.eval y=aggI ks js:=by rw [hvy];unfold aggI;rw [← e2]
    split at h
    ·refine ⟨_,.bool (decide (is=js)),h,rfl,fun w'=>?_⟩
     rw [hx,hy];exact (h12 w').1
    ·refine ⟨_,.bool (!decide (is=js)),h,rfl,fun w'=>?_⟩
     rw [hx,hy];exact (h12 w').2
    ·cases h
   ·cases h
  ·cases h
 ·rename_i mm cs u
  split at h
  ·rename_i el hu
   obtain ⟨A,c,hx,_,_,hel⟩:=hx
   have hy:a.eval y = .slice none 0 0:=hy
   cases A with
   | none=>
    have h0:=nil_of_none (fun h=>let ⟨b,o,e,_⟩:=hel 0 h;⟨b,o,e⟩)
    split at h
    ·refine ⟨_,.bool true,h.t h0,rfl,fun w'=>?_⟩
     rw [hx,hy]
     simp [eqGuard,binOp,run_equal_nil hu]
    ·refine ⟨_,.bool false,h.t h0,rfl,fun w'=>?_⟩
     rw [hx,hy]
     simp [eqGuard,binOp,run_equal_nil hu]
    ·cases h
   | some p=>
    split at h
    ·refine ⟨_,.bool false,h.f,rfl,fun w'=>?_⟩
     rw [hx,hy]
     simp [eqGuard,binOp,run_equal_nil hu]
    ·refine ⟨_,.bool true,h.f,rfl,fun w'=>?_⟩
     rw [hx,hy]
     simp [eqGuard,binOp,run_equal_nil hu]
    ·cases h
  ·cases h
 ·cases h
end
def kept (kb ka:Bool):Obj→Bool
 | .arr _ _=>ka
 | _=>kb
def Held (kb ka:Bool) (σ:St) (G:Nat→Value) (Z:Nat→Prop) (b:Nat):Prop:=Z b∨∃ id ob,getO σ.objs id=some ob∧blk (G id)=some b∧kept kb ka ob=true
section
variable {C:Ctx} {Θ:Anc} {n:Nat} {σ:St} {a:Act} {w:World} {Z:Nat→Prop} {G:Nat→Value} {o:Oper} {k:St→Prop}
theorem quiet_sound (hC:C.Ok) (S:Sim C.P Θ n σ a w Z G) {kb ka:Bool} (hq:quietOp C.P kb ka σ o=true) (h:op1 C o σ k) :
  ∃ s v,k (setD σ o.dst s)∧RepSV w Z G s v∧∀ w':World,(∀ b,Held kb ka σ G Z b→w'.heap[b]? = w.heap[b]?)→(execOp a.eval o).run C.P w' = .ok (.value v) w':=by
 have h0:=h
 unfold quietOp at hq
 unfold op1 at h
 split at hq
 ·rename_i x ho
  simp only [ho] at h
  exact ⟨_,_,h,S.ev x,fun w' _=>by simp [execOp,ho]⟩
 ·rename_i x ho
  simp only [ho] at h
  have hn:isNil (σ.ev x)=false:=by simpa using hq
  split at h
  ·rename_i h1 _ _;rw [hn] at h1;cases h1
  ·exact ⟨_,_,h,S.ev x,fun w' _=>by simp [execOp,ho]⟩
 ·rename_i c x y ho
  simp only [ho] at h
  split at h
  ·rename_i u hu
   have hc:a.eval c = .bool u.bool:=by have:=S.ev c;rw [hu] at this;exact this
   rcases cond_some h with ⟨hb,h⟩ | ⟨hb,h⟩
   ·exact ⟨_,_,h,S.ev x,fun w' _=>by simp [execOp,ho,hc,asBool,hb]⟩
   ·exact ⟨_,_,h,S.ev y,fun w' _=>by simp [execOp,ho,hc,asBool,hb]⟩
  ·cases h
 ·rename_i t x ho
  simp only [ho] at h
  have hx:=S.ev x
  split at h
  ·rename_i id off hp
   rw [hp] at hx
   simp only [hp] at hq
   obtain ⟨b,hG,hv⟩:=hx
   split at h
   ·rename_i cells hob
    split at h
    ·rename_i s hs
     obtain ⟨b',ty,c,h1,h2,h3⟩:=S.obj id _ hob
     rw [hG] at h1
     cases h1
     obtain ⟨v,hl,hrep⟩:=run_load_all (P:=C.P) (o:=0) (b:=b) h3 (fun j v hj=>by rw [Nat.zero_add,cell_of_row w b j c ty (0,0) h2];simpa using hj) hs
     refine ⟨_,v,h,hrep,fun w' hw'=>?_⟩
     have:=hl w' (hw' b (.inr ⟨id,_,hob,by rw [hG];rfl,hq⟩))
     rw [Nat.zero_add] at this
     simp [execOp,ho,hv,Instr.loadAt,Instr.sureAddr,this]
    ·cases h
   ·cases h
  ·rename_i id sz j off hp
   rw [hp] at hx
   simp only [hp] at hq
   obtain ⟨b,n',c,hG,hv⟩:=hx
   split at h
   ·rename_i e xs hob
    split at h
    ·rename_i m cs hcs
     obtain ⟨hb,h'⟩:=cond_only h
     clear h
     simp only [Bool.and_eq_true] at hb
     have hsz:=Nat.eq_of_beq_eq_true hb.1
     have hj:j < xs.length:=by simpa [Nat.blt_eq] using hb.2
     subst hsz
     split at h'
     ·rename_i s hs
      obtain ⟨m2,cs2,vs,h1,h2,h3⟩:=S.obj id _ hob
      rw [hcs] at h1
      cases h1
      obtain ⟨p,q,r',hvs,hpl,hq'⟩:=h3.at_ j hj
      have hcell:=World.ownsRow.cells h2 (g:=b) (by rw [hG];rfl)
      obtain ⟨v,hl,hrep⟩:=run_load_all (P:=C.P) (o:=j * cs.length) (b:=b) (G:=G) (RepL.vals hq') (fun i v hi=>by
       have:=hcell (p.length + i) v (by rw [hvs,List.append_assoc,List.getElem?_append_right (by omega),Nat.add_sub_cancel_left,List.getElem?_append_left (by
        have:=(List.getElem?_eq_some_iff.1 hi).1;omega)];exact hi)
       rw [addr_add,hpl] at this
       simpa using this) hs
      refine ⟨_,v,h',hrep,fun w' hw'=>?_⟩
      have:=hl w' (hw' b (.inr ⟨id,_,hob,by rw [hG];rfl,hq⟩))
      simp [execOp,ho,hv,Instr.loadAt,Instr.sureAddr,this]
     ·cases h'
    ·cases h
   ·cases h
  ·rename_i cs us hp
   rw [hp] at hx
   obtain ⟨b,off,hv,hb,hr⟩:=hx
   split at h
   ·rename_i s hs
    obtain ⟨vs,hl,hvs,hcell⟩:=RepCs.vals (G:=G) hr
    obtain ⟨v,hl',hrep⟩:=run_load_all (P:=C.P) (o:=off) (b:=b) hvs hcell hs
    refine ⟨_,v,h,hrep,fun w' hw'=>?_⟩
    have:=hl' w' (hw' b (.inl hb))
    simp only [Nat.add_zero] at this
    simp [execOp,ho,hv,Instr.loadAt,Instr.sureAddr,this]
   ·cases h
  ·cases h
 ·rename_i x ho
  simp only [ho] at h
  have hx:=S.ev x
  split at h
  ·rename_i id off hp
   rw [hp] at hx
   obtain ⟨b,hG,hv⟩:=hx
   exact ⟨_,_,h,⟨b,hG,rfl⟩,fun w' _=>by simp [execOp,ho,hv]⟩
  ·rename_i id sz j off hp
   rw [hp] at hx
   obtain ⟨b,n',c,hG,hv⟩:=hx
   exact ⟨_,_,h,⟨b,n',c,hG,rfl⟩,fun w' _=>by simp [execOp,ho,hv]⟩
  ·rename_i cs us hp
   rw [hp] at hx
   obtain ⟨b,off,hv,hb,hr⟩:=hx
   exact ⟨_,_,h,⟨b,off,rfl,hb,hr⟩,fun w' _=>by simp [execOp,ho,hv]⟩
  ·cases h
 ·rename_i op t x y t2 ho
  simp only [ho] at h
  obtain ⟨s,v,h1,h2,h3⟩:=bin_all (a:=a) (x:=x) (y:=y) hC (S.ev x) (S.ev y) h
  refine ⟨s,v,h1,h2,fun w' _=>?_⟩
  have h3:=h3 w'
  simp only [Sem.run_bind] at h3
  simp only [execOp,ho,Sem.run_bind]
  cases hg:(eqGuard op t x y (a.eval x) (a.eval y)).run C.P w' with
  | ok u w1=>
   rw [hg] at h3
   simp only [Result.andThen] at h3 ⊢
   rw [h3]
   rfl
  | halt e w1=>rw [hg] at h3;simp [Result.andThen] at h3
 ·rename_i op t x ho
  simp only [ho] at h
  cases op<;>first | (exact h.elim) | dsimp only at h
  ·split at h
   ·rename_i i u hu
    have hx:a.eval x = .int i u.int:=by have:=S.ev x;rw [hu] at this;exact this.1
    exact ⟨_,.int i (i.wrap (0 - u.int)),h,rep_wrap _ _,fun w' _=>by simp [execOp,ho,hx,Op.unary,Op.intArith]⟩
   ·cases h
  ·split at h
   ·rename_i i u hu
    have hx:a.eval x = .int i u.int:=by have:=S.ev x;rw [hu] at this;exact this.1
    exact ⟨_,.int i (compl i u.int),h,rep_wrap _ _,fun w' _=>by simp [execOp,ho,hx,run_compl]⟩
   ·cases h
  ·split at h
   ·rename_i u hu
    have hx:a.eval x = .bool u.bool:=by have:=S.ev x;rw [hu] at this;exact this
    exact ⟨_,.bool !u.bool,h,rfl,fun w' _=>by simp [execOp,ho,hx,Op.unary]⟩
   ·cases h
 ·rename_i s t x ho
  simp only [ho] at h
  have hx:=S.ev x
  split at h
  ·rename_i i1 i kd u hs ht hp
   rw [hp] at hx
   have hx:a.eval x = .int kd u.int:=hx.1
   exact ⟨_,.int i (i.wrap u.int),h,rep_wrap _ _,fun w' _=>by simp [execOp,ho,hx,convert,run_underlying hs,run_underlying ht,Conv.intToInt]⟩
  ·rename_i e hs ht
   split at h
   ·rename_i he
    split at h
    ·rename_i u hu
     have hpl:plainU (.sl false [.int .u8]) (σ.ev x)=some u:=by
      unfold toU at hu
      split at hu
      ·rename_i id hid
       simp only [hs,hid] at hq
       cases hq
      ·exact hu
     have hr:=plainU_rep hpl hx
     refine ⟨_,.string ⟨(u.list.map fun x:U=>UInt8.ofNat x.int.toNat).toArray⟩,h,⟨rfl,by have:=hr.ok.1;simpa [ByteArray.size] using this⟩,fun w' hw'=>?_⟩
     have hr':=RepC.mono (w':=w') (Z':=Z) ⟨fun _ h=>h,fun b hb=>hw' b (.inl hb)⟩ _ _ _ hr
     have hrun:=run_toString (C:=C) hr'
     obtain ⟨A,c,hv,_⟩:=hr
     rw [hv] at hrun
     simp [execOp,ho,hv,convert,run_underlying hs,run_underlying ht,run_underlying he,hrun]
    ·cases h
   ·cases h
  ·rename_i u hs ht hp
   rw [hp] at hx
   obtain ⟨hx,hxs⟩:a.eval x = .string u.str∧u.str.size≤maxLen:=hx
   exact ⟨_,.string u.str,h,⟨rfl,hxs⟩,fun w' _=>by simp [execOp,ho,hx,convert,run_underlying hs,run_underlying ht]⟩
  ·cases h
 ·rename_i s x f ho
  simp only [ho] at h
  split at h
  ·rename_i fd hf
   split at h
   ·rename_i k' hs
    have hx:=S.ev x
    have hf0:=hf
    unfold fieldOf at hf
    split at hf
    ·rename_i fs hu
     split at h
     ·rename_i id off hp
      rw [hp] at hx
      obtain ⟨b,hG,hv⟩:=hx
      exact ⟨_,.pointer (some ⟨b,off + fd.offset,none⟩),h,⟨b,hG,rfl⟩,fun w' _=>by simp [execOp,ho,hv,Instr.fieldAt,run_underlying hu,hf,Instr.sureAddr,fieldPlace,run_size hs,addr_add]⟩
     ·rename_i id sz j off hp
      rw [hp] at hx
      obtain ⟨b,n',c,hG,hv⟩:=hx
      exact ⟨_,.pointer (some ⟨b,(j * sz + off) + fd.offset,none⟩),h,⟨b,n',c,hG,by rw [Nat.add_assoc]⟩,fun w' _=>by simp [execOp,ho,hv,Instr.fieldAt,run_underlying hu,hf,Instr.sureAddr,fieldPlace,run_size hs,addr_add]⟩
     ·rename_i cs us hp
      rw [hp] at hx
      obtain ⟨b,off,hv,hb,hr⟩:=hx
      exact ⟨_,.pointer (some ⟨b,off + fd.offset,none⟩),h,⟨b,off + fd.offset,rfl,hb,hr.drop fd.offset⟩,fun w' _=>by simp [execOp,ho,hv,Instr.fieldAt,run_underlying hu,hf,Instr.sureAddr,fieldPlace,run_size hs,addr_add]⟩
     ·cases h
    ·cases hf
   ·cases h
  ·cases h
 ·rename_i s x f ho
  simp only [ho] at h
  have hx:=S.ev x
  split at h
  ·rename_i fd cells hf hp
   rw [hp] at hx
   obtain ⟨vs,hv,hr⟩:=hx
   split at h
   ·rename_i v hpt
    obtain ⟨v',hrun,hrep⟩:=run_part (P:=C.P) hr hpt
    unfold fieldOf at hf
    split at hf
    ·rename_i fs hu
     exact ⟨_,v',h,hrep,fun w' _=>by simp [execOp,ho,hv,Instr.field,run_underlying hu,hf,asAgg,hrun w']⟩
    ·cases hf
   ·cases h
  ·cases h
 ·rename_i t x i ho
  simp only [ho] at h
  have hx:=S.ev x
  have hi:=S.ev i
  split at h
  ·rename_i e m cs u kd j hu hp hj
   rw [hp] at hx
   rw [hj] at hi
   have hi:a.eval i = .int kd j.int:=hi.1
   obtain ⟨hb1,h⟩:=cond_only h
   obtain ⟨hb,h⟩:=cond_only h
   obtain ⟨h1,h2⟩:=of_decide_eq_true hb
   obtain ⟨A,c,hv,hc,hcm,hel⟩:=hx
   obtain ⟨b,off,hA,hZ,hr⟩:=hel j.int.toNat (by omega)
   rw [hA] at hv
   exact ⟨_,.pointer (some ⟨b,off + j.int.toNat * cs.length,none⟩),h,⟨b,_,rfl,hZ,hr⟩,fun w' _=>by simp [execOp,ho,hv,hi,Instr.indexAt,asIntOf,run_underlying hu,run_size (isSize_some hb1),addr_add,h1,h2]⟩
  ·rename_i e' id kd j hu hp hj
   rw [hp] at hx
   rw [hj] at hi
   have hi:a.eval i = .int kd j.int:=hi.1
   split at h
   ·rename_i e xs hob
    split at h
    ·rename_i m cs hcs
     obtain ⟨hb1,h⟩:=cond_only h
     obtain ⟨hb,h⟩:=cond_only h
     obtain ⟨h1,h2⟩:=of_decide_eq_true hb
     obtain ⟨m2,cs2,vs,g1,g2,g3⟩:=S.obj id _ hob
     rw [hcs] at g1
     cases g1
     rcases g2.2 with ⟨_,g4⟩ | ⟨g,cap,cur,g4,_⟩
     ·omega
     have hx:a.eval x=G id:=hx
     rw [g4] at hx
     exact ⟨_,.pointer (some ⟨g,0 + j.int.toNat * cs.length,none⟩),h,⟨g,xs.length,cap,g4,by simp⟩,fun w' _=>by simp [execOp,ho,hx,hi,Instr.indexAt,asIntOf,run_underlying hu,run_size (isSize_some hb1),addr_add,h1,h2]⟩
    ·cases h
   ·cases h
  ·cases h
 ·rename_i t x i ho
  simp only [ho] at h
  have hx:=S.ev x
  have hi:=S.ev i
  split at h
  ·rename_i s kd j hu hp hj
   rw [hp] at hx
   rw [hj] at hi
   have hx:a.eval x = .string s.str:=hx.1
   have hi:a.eval i = .int kd j.int:=hi.1
   obtain ⟨hb,h⟩:=cond_only h
   obtain ⟨h1,h2⟩:=of_decide_eq_true hb
   have hj':j.int.toNat < s.str.size:=by omega
   have hget:s.str[j.int.toNat]? = some s.str[j.int.toNat]:=by simp [hj']
   have hdata:s.str.data[j.int.toNat]? = some s.str[j.int.toNat]:=Array.getElem?_eq_getElem hj'
   exact ⟨_,.int .u8 (s.str.data.toList.getD j.int.toNat 0).toNat,h,rep_u8 _,fun w' _=>by simp [execOp,ho,hx,hi,Instr.index,asIntOf,run_underlying hu,h1,hget,hdata]⟩
  ·cases h
 ·rename_i x i ho
  simp only [ho] at h
  have hx:=S.ev x
  split at h
  ·rename_i vs hp
   rw [hp] at hx
   obtain ⟨us,hv,hr⟩:=hx
   obtain ⟨hb,h⟩:=cond_only h
   have hb:i < vs.length:=by simpa [Nat.blt_eq] using hb
   have hl:=hr.length
   have hi:i < us.size:=by simp at hl;omega
   have hget:us[i]? = some us[i]:=Array.getElem?_eq_getElem hi
   exact ⟨_,us[i],h,hr.nth i _ (by simp [hi]),fun w' _=>by simp [execOp,ho,hv,Instr.extract,hget]⟩
  ·cases h
 ·rename_i t x lo hi mx ho
  simp only [ho] at h
  split at h
  ·rename_i e l h1 m hu hl hh hm
   split at h
   ·rename_i mm cs u hx
    obtain ⟨hsz,h⟩:=cond_only h
    unfold op1.sliceK at h
    obtain ⟨hb,h⟩:=cond_only h
    simp only [Bool.and_eq_true] at hb
    have hmh:m.isSome=true→h1.isSome=true:=fun hms=>by
     cases m with
     | none=>cases hms
     | some m=>cases h1 with
      | none=>simp at hb
      | some _=>rfl
    have hb:=of_decide_eq_true hb.1
    have hs:=isSize_some hsz
    have hv:=S.ev x
    rw [hx] at hv
    obtain ⟨A,c,hv,hc,hcm,hel⟩:=hv
    have hbr:=fun w':World=>run_bounds (P:=C.P) (isSlice:=true) (w:=w') hc (lst_rep S hl) (lst_rep S hh) (lst_rep S hm) hmh hb
    obtain ⟨b1,b2,b3,b4⟩:=hb
    have hm':(m.getD c).toNat=c∨(∃ im,m=some im∧(m.getD c).toNat=im.toNat):=by cases m with
     | none=>left;simp
     | some im=>right;exact ⟨im,rfl,rfl⟩
    refine ⟨_,.slice (if (m.getD c).toNat=(l.getD 0).toNat then A else A.map (·.add ((l.getD 0).toNat * cs.length))) ((h1.getD u.list.length).toNat - (l.getD 0).toNat) ((m.getD c).toNat - (l.getD 0).toNat),h,?_,fun w' _=>?_⟩
    ·have hlen:((u.list.take (h1.getD u.list.length).toNat).drop (l.getD 0).toNat).length=(h1.getD u.list.length).toNat - (l.getD 0).toNat:=by
      simp only [List.length_drop,List.length_take];omega
     have hcapm:(h1.getD u.list.length).toNat≤(m.getD c).toNat:=by
      cases m with
      | none=>simp only [Option.getD_none] at *;omega
      | some im=>simp only [Option.getD_some] at *;omega
     refine ⟨_,_,by rw [U.list_l,hlen],by rw [U.list_l,hlen];omega,?_,fun i hi=>?_⟩
     ·cases m with
      | none=>simp only [Option.getD_none] at *;omega
      | some im=>simp only [Option.getD_some] at *;omega
     rw [U.list_l,hlen] at hi
     obtain ⟨b,off,hA,hZ,hr⟩:=hel ((l.getD 0).toNat + i) (by omega)
     rw [if_neg (by omega),hA]
     refine ⟨b,off + (l.getD 0).toNat * cs.length,by simp [addr_add],hZ,?_⟩
     have hat:U.at (U.l ((u.list.take (h1.getD u.list.length).toNat).drop (l.getD 0).toNat)).list i=U.at u.list ((l.getD 0).toNat + i):=by
      rw [U.list_l,at_getElem _ _ (by rw [hlen];exact hi),at_getElem _ _ (by omega)]
      simp
     rw [hat,Nat.add_assoc,← Nat.add_mul]
     exact hr
    ·simp [execOp,ho,hv,Instr.sliceAt,Instr.slice,run_underlying hu,hbr w',run_size hs]
   ·rename_i id hx
    simp [hx] at hq
   ·cases h
  ·rename_i l h1 hu hl hh hm
   split at h
   ·rename_i u hx
    obtain ⟨hb,h⟩:=cond_only h
    have hb:=of_decide_eq_true hb
    obtain ⟨hv,hvs⟩:a.eval x = .string u.str∧u.str.size≤maxLen:=by have:=S.ev x;rw [hx] at this;exact this
    have hbr:=fun w':World=>run_bounds (P:=C.P) (isSlice:=false) (w:=w') (len:=u.str.size) (cap:=u.str.size) (Nat.le_refl _) (lst_rep S hl) (lst_rep S hh) (.inl ⟨rfl,rfl⟩) (mx:=none) (m:=none) (by simp) ⟨hb.1,hb.2.1,by simp,by simpa using hb.2.2⟩
    have hmx:mx=none:=by
     rcases lst_rep S hm with ⟨h2,_⟩ | ⟨y,kd,i,_,h2,_⟩
     ·exact h2
     ·cases h2
    subst hmx
    refine ⟨_,.string (u.str.extract (l.getD 0).toNat (h1.getD u.str.size).toNat),h,⟨rfl,by show (u.str.extract _ _).size≤maxLen;rw [ByteArray.size_extract];omega⟩,fun w' _=>?_⟩
    have hbr:=hbr w'
    simp only [Option.map_none] at hbr
    simp [execOp,ho,hv,Instr.sliceAt,Instr.slice,run_underlying hu,hbr]
   ·cases h
  ·cases h
 ·rename_i t ps ho
  simp only [ho] at h
  split at h
  ·rename_i fs z hu hz
   split at h
   ·rename_i cs hs hf
    obtain ⟨out,hr,hrep⟩:=run_build_rep (w:=w) (Z:=Z) (G:=G) S.flat (vs:=ps.map fun x=>(x.1,a.eval x.2)) hu hz hs hf (by simpa using evps_parts S ps.toList)
    refine ⟨_,.agg out,h,⟨out,rfl,hrep⟩,fun w' _=>?_⟩
    have heq:(ps.map fun (i,x)=>(i,a.eval x))=ps.map fun x=>(x.1,a.eval x.2):=rfl
    simp only [execOp,ho,Sem.run_bind]
    rw [heq,hr w']
    rfl
   ·cases h
  ·cases h
 ·rename_i f first caps ho
  simp only [ho] at h
  split at h
  ·rename_i hfi
   refine ⟨_,.func (.func f) #[] (caps.map a.eval),h,⟨_,rfl,by simpa using S.evs_rep caps.toList⟩,fun w' _=>?_⟩
   have:first = #[]:=by apply Array.ext';simpa using hfi
   simp [execOp,ho,Instr.makeFunc,this]
  ·cases h
 ·rename_i t x ho
  simp only [ho] at h
  split at h
  ·cases h
  ·rename_i d hni hu
   refine ⟨_,.iface t (a.eval x),h,⟨_,rfl,S.ev x⟩,fun w' _=>?_⟩
   simp only [execOp,ho,Instr.makeInterface,Sem.run_bind,run_underlying hu,Result.andThen]
   cases d<;>first | rfl | (exact absurd hu (hni _))
  ·cases h
 ·rename_i args ts ho
  simp only [ho] at h
  split at h
  ·rename_i s t hargs hts
   obtain ⟨p,hp,rfl⟩:=evs_one hargs
   have hx:=S.ev p
   have ha':args = #[p]:=by cases args;simp_all
   have ht':ts = #[t]:=by cases ts;simp_all
   subst ha' ht'
   split at h
   ·rename_i e m cs u hu hev
    rw [hev] at hx
    have hl:u.list.length≤maxLen:=(RepC.ok (c:=.sl m cs) hx).1
    obtain ⟨A,c,hv,_⟩:=hx
    exact ⟨_,.int .i64 (u.list.length:Int),h,rep_len hl,fun w' _=>by simp [execOp,ho,resolve,invoke,builtin,Builtin.len_,run_underlying hu,hv,goInt]⟩
   ·rename_i e id hu hev
    rw [hev] at hx
    split at h
    ·rename_i e' xs hob
     obtain ⟨m2,cs2,vs,g1,g2,g3⟩:=S.obj id _ hob
     have hl:xs.length≤maxLen:=(RepO.ok (S.obj id _ hob)).1
     have hx:a.eval p=G id:=hx
     rcases g2.2 with ⟨g4,g5⟩ | ⟨g,cap,cur,g4,_⟩
     ·rw [g4] at hx
      exact ⟨_,.int .i64 (xs.length:Int),h,rep_len hl,fun w' _=>by simp [execOp,ho,resolve,invoke,builtin,Builtin.len_,run_underlying hu,hx,goInt,g5]⟩
     ·rw [g4] at hx
      exact ⟨_,.int .i64 (xs.length:Int),h,rep_len hl,fun w' _=>by simp [execOp,ho,resolve,invoke,builtin,Builtin.len_,run_underlying hu,hx,goInt]⟩
    ·cases h
   ·rename_i e hu hev
    rw [hev] at hx
    have hx:a.eval p = .slice none 0 0:=hx
    exact ⟨_,.int .i64 0,h,rep_len (n:=0) (Nat.zero_le _),fun w' _=>by simp [execOp,ho,resolve,invoke,builtin,Builtin.len_,run_underlying hu,hx,goInt]⟩
   ·rename_i id hu hev
    rw [hargs,hev] at hq
    cases hq
   ·rename_i u hu hev
    rw [hev] at hx
    obtain ⟨hx,hxs⟩:a.eval p = .string u.str∧u.str.size≤maxLen:=hx
    exact ⟨_,.int .i64 (u.str.size:Int),h,rep_len hxs,fun w' _=>by simp [execOp,ho,resolve,invoke,builtin,Builtin.len_,run_underlying hu,hx,goInt]⟩
   ·cases h
  ·cases h
 ·cases hq
end
end Go.Den

namespace Go.Den
open Go Go.RowKit
def operOk (n:Nat) (o:Oper):Bool:=match o.dst with
 | some t=>(match o.op with | .store _ _ _=>false | .mapUpdate _ _ _ _=>false | .entryStore _ _ _ _=>false | .insert _ _ _ _=>false | _=>true) && Nat.blt t n
 | none=>true
def opersOk (n:Nat):List Oper→Bool
 | []=>true
 | o :: r=>match operOk n o with | true=>opersOk n r | false=>false
theorem operOk_dst {n:Nat} {o:Oper} (h:operOk n o=true):(∀ t,o.dst=some t→t < n)∧(∀ t x y,o.op = .store t x y→o.dst=none)∧(∀ {t x i v},o.op = .mapUpdate t x i v→o.dst=none)∧(∀ {t x i v},o.op = .entryStore t x i v→o.dst=none)∧(∀ {t x i v},o.op = .insert t x i v→o.dst=none):=by
 unfold operOk at h
 split at h
 ·rename_i t ht
  simp only [Bool.and_eq_true] at h
  refine ⟨fun t' ht'=>?_,fun t' x y ho=>?_,fun ho=>?_,fun ho=>?_,fun ho=>?_⟩
  ·rw [ht] at ht';cases ht';simpa [Nat.blt_eq] using h.2
  all_goals (rw [ho] at h;simp at h)
 ·rename_i ht
  exact ⟨fun t' ht'=>(by rw [ht] at ht';cases ht'),fun _ _ _ _=>ht,fun _=>ht,fun _=>ht,fun _=>ht⟩
theorem nth_map_some:∀ (l:List Oper) (j:Nat),nth none (l.map some) j=l[j]?
 | [],0=>rfl
 | [],_ + 1=>rfl
 | _ :: _,0=>rfl
 | _ :: l,j + 1=>nth_map_some l j
theorem guard_slot {ops:Array Oper} {j t:Nat} {a:Act} (hgs:gslot ops.toList j=some t):(∀ b,a.tmps.getD t undef = .bool b→yielded ops a.tmps j=some b)∧(a.tmps.getD t undef=undef→yielded ops a.tmps j=none):=by
 have hops:(ops[j]?).bind (·.dst)=some t:=by
  unfold gslot at hgs
  rw [nth_map_some] at hgs
  rw [← Array.getElem?_toList]
  cases hj:ops.toList[j]? with
  | none=>rw [hj] at hgs;cases hgs
  | some oj=>rw [hj] at hgs;exact hgs
 constructor
 ·intro b hb
  unfold yielded
  rw [hops]
  simp only [Option.bind_some]
  have:a.tmps[t]? = some (.bool b):=by
   rw [Array.getD_eq_getD_getElem?] at hb
   cases ht:a.tmps[t]? with
   | none=>rw [ht] at hb;cases hb
   | some v=>rw [ht] at hb;simp at hb;rw [hb]
  rw [this]
 ·intro hb
  unfold yielded
  rw [hops]
  simp only [Option.bind_some]
  rw [Array.getD_eq_getD_getElem?] at hb
  cases ht:a.tmps[t]? with
  | none=>rfl
  | some v=>rw [ht] at hb;simp at hb;rw [hb];rfl
theorem opersOk_mem {n:Nat}:∀ {l:List Oper},opersOk n l=true→∀ o ∈ l,operOk n o=true
 | [],_,_,h=>by cases h
 | p :: r,hok,o,h=>by
  unfold opersOk at hok
  split at hok
  ·rename_i hp
   rcases List.mem_cons.1 h with rfl | h
   ·exact hp
   ·exact opersOk_mem hok o h
  ·cases hok
theorem opersOk_at {n:Nat} {ops:Array Oper} (hok:opersOk n ops.toList=true) {i:Nat} {o:Oper} (hi:ops[i]? = some o):operOk n o=true:=
 opersOk_mem hok o (by have:=Array.mem_of_getElem? hi;simpa using this)
theorem noneB_mem {C:Ctx}:∀ {l:List Oper},noneB C l=true→∀ o ∈ l,touchB C o=false
 | [],_,_,h=>by cases h
 | p :: r,hok,o,h=>by
  unfold noneB at hok
  split at hok
  ·cases hok
  ·rename_i hp
   rcases List.mem_cons.1 h with rfl | h
   ·exact hp
   ·exact noneB_mem hok o h
theorem noneA_mem {C:Ctx}:∀ {l:List Oper},noneA C l=true→∀ o ∈ l,touchA C o=false
 | [],_,_,h=>by cases h
 | p :: r,hok,o,h=>by
  unfold noneA at hok
  split at hok
  ·cases hok
  ·rename_i hp
   rcases List.mem_cons.1 h with rfl | h
   ·exact hp
   ·exact noneA_mem hok o h
section
variable {C:Ctx} {Θ:Anc} {n:Nat} {K:Act→World→Prop} {Q:Exit→Act→World→Prop}
theorem one_sound (hC:C.Ok) {ops:Array Oper} {i:Nat} {o:Oper} {l:List Oper} {σ:St} {a:Act} {w:World} {Z:Nat→Prop} {G:Nat→Value} {k:St→Prop} (hi:ops[i]? = some o) (hok:operOk n o=true) (hT:Θ.lets C o=true)
  (S:Sim C.P Θ n σ a w Z G) (h:execOps C ops.toList (o :: l) σ k)
  (hrest:∀ σ' a' w' Z' G',execOps C ops.toList l σ' k→Sim C.P Θ n σ' a' w' Z' G'→K a' w') (hp:∀ s σ' w' Z' G' v,C.pan s σ'→Sim C.P Θ n σ' a w' Z' G'→RepSV w' Z' G' s v→Q (.panic [{ v:=v,recovered:=false }]) a w'):wpOp C.P ops Q i K a w:=by
 obtain ⟨hd,hst,hst1,hst2,hst3⟩:=operOk_dst hok
 simp only [wpOp,hi]
 unfold execOps at h
 split at h
 ·rename_i hg
  have hw:Region.wanted o (yielded ops a.tmps)=true:=by simp [Region.wanted,hg]
  rw [if_pos hw]
  exact .inl (op1_sound hC hT S hd hst hst1 hst2 hst3 h hrest hp)
 ·rename_i j want hg
  split at h
  ·cases h
  ·rename_i t hgs
   have hops:(ops[j]?).bind (·.dst)=some t:=by
    unfold gslot at hgs
    rw [nth_map_some] at hgs
    rw [← Array.getElem?_toList]
    cases hj:ops.toList[j]? with
    | none=>rw [hj] at hgs;cases hgs
    | some oj=>rw [hj] at hgs;exact hgs
   have hyes:∀ b,a.tmps.getD t undef = .bool b→yielded ops a.tmps j=some b:=by
    intro b hb
    unfold yielded
    rw [hops]
    simp only [Option.bind_some]
    have:a.tmps[t]? = some (.bool b):=by
     rw [Array.getD_eq_getD_getElem?] at hb
     cases ht:a.tmps[t]? with
     | none=>rw [ht] at hb;cases hb
     | some v=>rw [ht] at hb;simp at hb;rw [hb]
    rw [this]
   have hno:a.tmps.getD t undef=undef→yielded ops a.tmps j=none:=by
    intro hb
    unfold yielded
    rw [hops]
    simp only [Option.bind_some]
    rw [Array.getD_eq_getD_getElem?] at hb
    cases ht:a.tmps[t]? with
    | none=>rfl
    | some v=>rw [ht] at hb;simp at hb;rw [hb];rfl
   have hslot:=S.slot t
   split at h
   ·rename_i u hu
    rw [hu] at hslot
    have hv:a.tmps.getD t undef = .bool u.bool:=hslot
    rcases cond_some h with ⟨hb,h⟩ | ⟨hb,h⟩
    ·have S':=S.know (t:=t) (s:=.val .bool (.b true)) (by rw [hv,hb];rfl)
     have hw:Region.wanted o (yielded ops a.tmps)=true:=by simp [Region.wanted,hg,hyes _ hv,hb]
     rw [if_pos hw]
     exact .inl (op1_sound hC hT S' hd hst hst1 hst2 hst3 h hrest hp)
    ·have S':=S.know (t:=t) (s:=.val .bool (.b false)) (by rw [hv,hb];rfl)
     have hw:¬ Region.wanted o (yielded ops a.tmps)=true:=by simp [Region.wanted,hg,hyes _ hv,hb]
     rw [if_neg hw]
     exact hrest _ _ _ _ _ h (S'.put (s:=.und) rfl hd)
   ·rename_i u hu
    rw [hu] at hslot
    have hv:a.tmps.getD t undef = .bool u.bool:=hslot
    rcases cond_some h with ⟨hb,h⟩ | ⟨hb,h⟩
    ·have S':=S.know (t:=t) (s:=.val .bool (.b true)) (by rw [hv,hb];rfl)
     have hw:¬ Region.wanted o (yielded ops a.tmps)=true:=by simp [Region.wanted,hg,hyes _ hv,hb]
     rw [if_neg hw]
     exact hrest _ _ _ _ _ h (S'.put (s:=.und) rfl hd)
    ·have S':=S.know (t:=t) (s:=.val .bool (.b false)) (by rw [hv,hb];rfl)
     have hw:Region.wanted o (yielded ops a.tmps)=true:=by simp [Region.wanted,hg,hyes _ hv,hb]
     rw [if_pos hw]
     exact .inl (op1_sound hC hT S' hd hst hst1 hst2 hst3 h hrest hp)
   ·rename_i hu
    rw [hu] at hslot
    have hv:a.tmps.getD t undef=undef:=hslot
    have hw:¬ Region.wanted o (yielded ops a.tmps)=true:=by simp [Region.wanted,hg,hno hv]
    rw [if_neg hw]
    exact hrest _ _ _ _ _ h (S.put (s:=.und) rfl hd)
   ·cases h
structure Inv (P:Program) (Θ:Anc) (kb ka:Bool) (n:Nat) (σ:St) (a:Act) (w:World) (Z:Nat→Prop) (G:Nat→Value) (L:Nat→Prop):Prop where
 sim:Sim P Θ n σ a w Z G
 old:∀ b,L b→Θ.M b∨Θ.w.heap.size≤b
 lt:∀ b,L b→b < w.heap.size
 keep:∀ id o b,getO σ.objs id=some o→blk (G id)=some b→L b→kept kb ka o=true
def anchor (ds:List Deferred) (kb ka:Bool) (σ:St) (w:World) (Z:Nat→Prop) (G:Nat→Value) (L:Nat→Prop):Anc where
 w:=w
 M:=fun b=>∃ id o,getO σ.objs id=some o∧blk (G id)=some b∧kept kb ka o=false
 N:=fun b=>L b∨∃ id o,getO σ.objs id=some o∧blk (G id)=some b∧kept kb ka o=true
 Z0:=Z
 kb:=kb
 ka:=ka
 G0:=G
 ds:=ds
theorem lets_of {kb ka:Bool} {σ:St} {w:World} {Z:Nat→Prop} {G:Nat→Value} {L:Nat→Prop} {ops:Array Oper} (hkb:noneB C ops.toList=kb) (hka:noneA C ops.toList=ka) {i:Nat} {o:Oper} {ds:List Deferred} (hi:ops[i]? = some o):(anchor ds kb ka σ w Z G L).lets C o=true:=by
 have hm:o ∈ ops.toList:=by have:=Array.mem_of_getElem? hi;simpa using this
 unfold Anc.lets
 simp only [Bool.and_eq_true,Bool.or_eq_true,Bool.not_eq_true']
 constructor
 ·show touchB C o=false∨kb=false
  cases kb with
  | true=>exact .inl (noneB_mem hkb o hm)
  | false=>exact .inr rfl
 ·show touchA C o=false∨ka=false
  cases ka with
  | true=>exact .inl (noneA_mem hka o hm)
  | false=>exact .inr rfl
theorem keeps_kept (Θ:Anc) (o:Obj):Θ.keeps o=kept Θ.kb Θ.ka o:=by cases o<;>rfl
theorem Inv.enter {P:Program} {kb ka:Bool} {σ:St} {a:Act} {w:World} {Z:Nat→Prop} {G:Nat→Value} {L:Nat→Prop} (I:Inv P Θ kb ka n σ a w Z G L):Sim P (anchor Θ.ds kb ka σ w Z G L) n σ a w Z G:=
 {size:=I.sim.size,calm:=I.sim.calm,slot:=I.sim.slot,obj:=I.sim.obj,sep:=I.sim.sep,lt:=I.sim.lt,flat:=I.sim.flat,fut:=Fut.refl _ w,odd:=fun _ _=>rfl,row:=fun _ hb=>.inl hb
  free:=fun id o b h hb=>⟨(I.sim.free id o b h hb).1,by
   cases hk:kept kb ka o with
   | true=>exact .inr (.inl (.inr ⟨id,o,h,hb,hk⟩))
   | false=>exact .inl ⟨id,o,h,hb,hk⟩⟩
  keep:=fun id o b h hb hN=>by
   rw [keeps_kept]
   rcases hN with hN | ⟨id',o',h',hb',hk'⟩
   ·exact I.keep id o b h hb hN
   ·have:=I.sim.sep id id' o o' b h h' hb hb'
    subst this
    rw [h] at h'
    cases h'
    exact hk'
  nlt:=fun b hN=>by
   rcases hN with hN | ⟨id',o',h',hb',hk'⟩
   ·exact I.lt b hN
   ·exact RepO.lt I.sim h' hb'
  new:=fun b hb=>.inl hb
  sub:=fun b hb=>hb }
theorem Inv.leave {P:Program} {kb ka:Bool} {σ σ':St} {a a':Act} {w w':World} {Z Z':Nat→Prop} {G G':Nat→Value} {L:Nat→Prop} (hN:∀ b,¬ Θ.N b) (I:Inv P Θ kb ka n σ a w Z G L)
  (S:Sim P (anchor Θ.ds kb ka σ w Z G L) n σ' a' w' Z' G'):Inv P Θ kb ka n σ' a' w' Z' G' (anchor Θ.ds kb ka σ w Z G L).N∧
    (∀ b,(Held kb ka σ G Z b∨L b)→(Held kb ka σ' G' Z' b∨(anchor Θ.ds kb ka σ w Z G L).N b))∧∀ b,(Held kb ka σ G Z b∨L b)→w'.heap[b]? = w.heap[b]?:=by
 have live0:∀ id o b,getO σ.objs id=some o→blk (G id)=some b→Θ.M b∨Θ.w.heap.size≤b:=fun id o b h hb=>by
  rcases (I.sim.free id o b h hb).2 with h1 | h1 | h1
  ·exact .inl h1
  ·exact absurd h1 (hN b)
  ·exact .inr h1
 have hM:∀ b,(anchor Θ.ds kb ka σ w Z G L).M b→Θ.M b∨Θ.w.heap.size≤b:=fun b ⟨id,o,h,hb,_⟩=>live0 id o b h hb
 have hNN:∀ b,(anchor Θ.ds kb ka σ w Z G L).N b→Θ.M b∨Θ.w.heap.size≤b:=fun b hb=>by
  rcases hb with hb | ⟨id,o,h,hb,_⟩
  ·exact I.old b hb
  ·exact live0 id o b h hb
 have hsz:Θ.w.heap.size≤w.heap.size:=I.sim.fut.size
 have hsame:∀ b,(Held kb ka σ G Z b∨L b)→w'.heap[b]? = w.heap[b]?:=by
  intro b hb
  refine S.fut.block b ?_ ?_
  ·rcases hb with (hb | ⟨id,o,h,hb,_⟩) | hb
   ·exact I.sim.lt b hb
   ·exact RepO.lt I.sim h hb
   ·exact I.lt b hb
  ·rintro ⟨id,o,h,hbo,hk⟩
   rcases hb with (hb | ⟨id',o',h',hb',hk'⟩) | hb
   ·exact (I.sim.free id o b h hbo).1 hb
   ·have:=I.sim.sep id id' o o' b h h' hbo hb'
    subst this
    rw [h] at h'
    cases h'
    rw [hk] at hk';cases hk'
   ·have:=I.keep id o b h hbo hb
    rw [hk] at this;cases this
 refine ⟨⟨?_,hNN,fun b hb=>Nat.lt_of_lt_of_le (S.nlt b hb) S.fut.size,fun id o b h hb hL=>by have:=S.keep id o b h hb hL;rw [keeps_kept] at this;exact this⟩,?_,hsame⟩
 ·refine { size:=S.size,calm:=S.calm,slot:=S.slot,obj:=S.obj,sep:=S.sep,lt:=S.lt,flat:=S.flat,odd:=fun i hi=>(S.odd i hi).trans (I.sim.odd i hi),row:=fun b hb=>(S.row b hb).elim (fun h=>(I.sim.row b h).imp (fun h=>h) fun h2=>h2.of (hsame b (.inl (.inl h)))) .inr,fut:=?_,free:=?_,keep:=?_,nlt:=I.sim.nlt,new:=?_,sub:=fun b hb=>S.sub b (I.sim.sub b hb) }
  ·intro id o b h hb
   refine ⟨(S.free id o b h hb).1,?_⟩
   rcases (S.free id o b h hb).2 with h1 | h1 | h1
   ·exact (hM b h1).elim .inl (fun h=>.inr (.inr h))
   ·exact (hNN b h1).elim .inl (fun h=>.inr (.inr h))
   ·exact .inr (.inr (Nat.le_trans hsz h1))
  ·exact fun id o b _ _ h=>absurd h (hN b)
  ·exact I.sim.fut.trans S.fut (fun _ h=>h) (fun b hb hm=>by
    rcases hM b hm with h | h
    ·exact h
    ·omega)
  ·intro b hb
   rcases S.new b hb with h1 | h1 | h1 | h1
   ·exact I.sim.new b h1
   ·exact (hM b h1).elim (fun h=>.inr (.inl h)) (fun h=>.inr (.inr (.inr h)))
   ·exact (hNN b h1).elim (fun h=>.inr (.inl h)) (fun h=>.inr (.inr (.inr h)))
   ·exact .inr (.inr (.inr (Nat.le_trans hsz h1)))
 ·rintro b ((hb | hb) | hb)
  ·exact .inl (.inl (S.sub b hb))
  ·exact .inr (.inr hb)
  ·exact .inr (.inl hb)
theorem firstQ_some {P:Program} {kb ka:Bool} {ops:Array Oper} {listed:Array Bool} {σ:St}:∀ {rs:List Nat} {i:Nat} {o:Oper},firstQ P kb ka ops listed σ rs=some (i,o)→
  i ∈ rs∧ops[i]? = some o∧quietG P kb ka ops.toList σ o=true∧Region.free .any ops listed i=true
 | [],i,o,h=>by cases h
 | j :: r,i,o,h=>by
  unfold firstQ at h
  split at h
  ·cases h
  ·rename_i oj hj
   split at h
   ·rename_i h1 h2
    injection h with h
    injection h with h3 h4
    subst h3 h4
    exact ⟨List.mem_cons_self ..,hj,h1,h2⟩
   ·obtain ⟨h1,h2⟩:=firstQ_some h
    exact ⟨List.mem_cons_of_mem _ h1,h2⟩
theorem allK_mem {f:Nat→Prop}:∀ {l:List Nat},allK f l→∀ i ∈ l,f i
 | [],_,i,hi=>by cases hi
 | [j],h,i,hi=>by
  have:i=j:=by simpa using hi
  subst this;exact h
 | j :: j' :: r,h,i,hi=>by
  rcases List.mem_cons.1 hi with rfl | hi
  ·exact h.l
  ·exact allK_mem (l:=j' :: r) h.r i hi
theorem draw_sound (hC:C.Ok) {ops:Array Oper} {kb ka:Bool} (hkb:noneB C ops.toList=kb) (hka:noneA C ops.toList=ka) (hsel:Region.noSelect ops=true) (hok:opersOk n ops.toList=true) (hN:∀ b,¬ Θ.N b)
  (hQ:∀ c a w d v,Q (.panic c) (a.put d v) w→Q (.panic c) a w) (hp:∀ s σ' a' w' Z' G' v,C.pan s σ'→Sim C.P Θ n σ' a' w' Z' G'→RepSV w' Z' G' s v→Q (.panic [{ v:=v,recovered:=false }]) a' w') {k:St→Prop} (hk:∀ σ' a' w' Z' G',k σ'→Sim C.P Θ n σ' a' w' Z' G'→Q .normal a' w'):∀ (fuel:Nat) (listed:Array Bool) {σ:St} {a:Act} {w:World} {Z:Nat→Prop} {G:Nat→Value} {L:Nat→Prop},
    Inv C.P Θ kb ka n σ a w Z G L→drawK C ops kb ka fuel listed σ k→AnyR C.P .any ops Q fuel listed a w (fun b=>Held kb ka σ G Z b∨L b)
 | 0,listed,σ,a,w,Z,G,L,I,h=>by
  unfold drawK at h
  split at h
  ·rename_i hr
   exact ⟨hr,hk _ _ _ _ _ h I.sim⟩
  ·exact h.elim
 | fuel + 1,listed,σ,a,w,Z,G,L,I,h=>by
  have heavy:∀ i o,ops[i]? = some o→execOps C ops.toList [o] σ (fun σ'=>drawK C ops kb ka fuel (listed.setIfInBounds i true) σ' k)→
    wpOp C.P ops Q i (fun a' w'=>∃ H':Nat→Prop,(∀ b,(Held kb ka σ G Z b∨L b)→H' b)∧(∀ b,(Held kb ka σ G Z b∨L b)→w'.heap[b]? = w.heap[b]?)∧AnyR C.P .any ops Q fuel (listed.setIfInBounds i true) a' w' H') a w:=by
   intro i o hi h
   refine one_sound hC hi (opersOk_at hok hi) (lets_of hkb hka hi) I.enter h ?_ (fun s σ' w' Z' G' v h' S' hr=>hp s σ' a w' Z' G' v h' (I.leave hN S').1.sim hr)
   intro σ' a' w' Z' G' h' S'
   obtain ⟨I',h1,h2⟩:=I.leave hN S'
   exact ⟨_,h1,h2,draw_sound hC hkb hka hsel hok hN hQ hp hk fuel (listed.setIfInBounds i true) I' h'⟩
  unfold drawK at h
  split at h
  ·rename_i hr
   exact ⟨fun _=>hk _ _ _ _ _ h I.sim,fun i hi=>by rw [hr] at hi;cases hi⟩
  ·rename_i hrs
   split at h
   ·rename_i i o hf
    obtain ⟨hir,hi,hq,hfree⟩:=firstQ_some hf
    have hd:=(operOk_dst (opersOk_at hok hi)).1
    have take:∀ {σ1:St} (S1:Sim C.P Θ n σ1 a w Z G) (ho:σ1.objs=σ.objs) (s:SV) (v:Value),RepSV w Z G s v→YieldsIf C.P ops (fun w'=>∀ b,(Held kb ka σ G Z b∨L b)→w'.heap[b]? = w.heap[b]?) o v a→
      drawK C ops kb ka fuel (listed.setIfInBounds i true) (setD σ1 o.dst s) k→AnyR C.P .any ops Q (fuel + 1) listed a w (fun b=>Held kb ka σ G Z b∨L b):=by
     intro σ1 S1 ho s v hrep hy hk'
     have S2:=S1.put (s:=s) hrep hd
     have hobj:(setD σ1 o.dst s).objs=σ.objs:=by cases o.dst<;>exact ho
     have I2:Inv C.P Θ kb ka n (setD σ1 o.dst s) (a.put o.dst v) w Z G L:=⟨S2,I.old,I.lt,by rw [hobj];exact I.keep⟩
     refine AnyR.first hi hsel hQ fuel listed a w _ (Region.free_spec hi hfree) hir hy ?_
     have:=draw_sound hC hkb hka hsel hok hN hQ hp hk fuel (listed.setIfInBounds i true) I2 hk'
     unfold Held at this ⊢
     rw [hobj] at this
     exact this
    have held:∀ {σ1:St} (_:σ1.objs=σ.objs) {w':World},(∀ b,(Held kb ka σ G Z b∨L b)→w'.heap[b]? = w.heap[b]?)→∀ b,Held kb ka σ1 G Z b→w'.heap[b]? = w.heap[b]?:=by
     intro σ1 ho w' hw b hb
     refine hw b (.inl ?_)
     unfold Held at hb ⊢
     rwa [ho] at hb
    unfold execOps at h
    unfold quietG at hq
    split at h
    ·rename_i hg
     rw [hg] at hq
     have hw:Region.wanted o (yielded ops a.tmps)=true:=by simp [Region.wanted,hg]
     obtain ⟨s,v,h1,h2,h3⟩:=quiet_sound hC I.sim hq h
     exact take I.sim rfl s v h2 (.inl ⟨hw,fun w' hw'=>h3 w' (held rfl hw')⟩) h1
    ·rename_i j want hg
     rw [hg] at hq
     simp only at hq
     split at h
     ·cases h
     ·rename_i t hgs
      rw [hgs] at hq
      simp only at hq
      obtain ⟨hyes,hno⟩:=guard_slot (a:=a) hgs
      have hslot:=I.sim.slot t
      split at h
      ·rename_i u hu
       rw [hu] at hslot hq
       simp only at hq
       have hv:a.tmps.getD t undef = .bool u.bool:=hslot
       rcases cond_some h with ⟨hb,h⟩ | ⟨hb,h⟩
       ·have S':=I.sim.know (t:=t) (s:=.val .bool (.b true)) (by rw [hv,hb];rfl)
        have hw:Region.wanted o (yielded ops a.tmps)=true:=by simp [Region.wanted,hg,hyes _ hv,hb]
        obtain ⟨s,v,h1,h2,h3⟩:=quiet_sound hC S' hq h
        exact take S' rfl s v h2 (.inl ⟨hw,fun w' hw'=>h3 w' (held rfl hw')⟩) h1
       ·have S':=I.sim.know (t:=t) (s:=.val .bool (.b false)) (by rw [hv,hb];rfl)
        have hw:Region.wanted o (yielded ops a.tmps)=false:=by simp [Region.wanted,hg,hyes _ hv,hb]
        exact take S' rfl .und undef rfl (.inr ⟨hw,rfl⟩) h
      ·rename_i u hu
       rw [hu] at hslot hq
       simp only at hq
       have hv:a.tmps.getD t undef = .bool u.bool:=hslot
       rcases cond_some h with ⟨hb,h⟩ | ⟨hb,h⟩
       ·have S':=I.sim.know (t:=t) (s:=.val .bool (.b true)) (by rw [hv,hb];rfl)
        have hw:Region.wanted o (yielded ops a.tmps)=false:=by simp [Region.wanted,hg,hyes _ hv,hb]
        exact take S' rfl .und undef rfl (.inr ⟨hw,rfl⟩) h
       ·have S':=I.sim.know (t:=t) (s:=.val .bool (.b false)) (by rw [hv,hb];rfl)
        have hw:Region.wanted o (yielded ops a.tmps)=true:=by simp [Region.wanted,hg,hyes _ hv,hb]
        obtain ⟨s,v,h1,h2,h3⟩:=quiet_sound hC S' hq h
        exact take S' rfl s v h2 (.inl ⟨hw,fun w' hw'=>h3 w' (held rfl hw')⟩) h1
      ·rename_i hu
       rw [hu] at hslot
       have hv:a.tmps.getD t undef=undef:=hslot
       have hw:Region.wanted o (yielded ops a.tmps)=false:=by simp [Region.wanted,hg,hno hv]
       exact take I.sim rfl .und undef rfl (.inr ⟨hw,rfl⟩) h
      ·cases h
   ·refine ⟨fun h0=>absurd h0 hrs,fun i hi=>?_⟩
    have hone:=allK_mem h i hi
    unfold oneK at hone
    split at hone
    ·rename_i o hi'
     exact heavy i o hi' hone
    ·exact hone.elim
end
end Go.Den

namespace Go.Den
open Go Go.RowKit
def codeOk (n:Nat):Code→Bool
 | .region _ ops draw=>match draw with | true=>opersOk n ops.toList && Region.noSelect ops | false=>opersOk n ops.toList
 | .seq a b=>match codeOk n a with | true=>codeOk n b | false=>false
 | .cond _ a b=>match codeOk n a with | true=>codeOk n b | false=>false
 | .block _ a=>codeOk n a
 | .loop a=>codeOk n a
 | _=>true
def LoopOk (C:Ctx) (c:Nat) (body:Code):Prop:=∀ ts os F,C.loops c=some (ts,os,F)→∃ μ:List SV→List Obj→Nat,∀ (pan:SV→St→Prop) (svs:List SV) (l:List Obj) (k:Ex→St→Prop),
 svs.length=ts.length→l.length=os.length→okS.okSs svs→okOs C.P l→F pan svs l k→exec (C.panics pan) body c ⟨ts.zip svs,os.zip l⟩ (again C.P (C.lout c) (C.lout (c + 1048576)) pan ts os F μ (μ svs l) k)
def LoopsOk (C:Ctx):Code→Nat→Prop
 | .seq a b,c=>LoopsOk C a c∧LoopsOk C b c
 | .cond _ a b,c=>LoopsOk C a c∧LoopsOk C b c
 | .block id a,_=>LoopsOk C a id
 | .loop a,c=>LoopsOk C a c∧LoopOk C c a
 | _,_=>True
theorem get_keepE (env:List (Nat × SV)):∀ (ts:List Nat) (t:Nat),get (keepE env ts) t=get env t∨get (keepE env ts) t = .unk
 | [],_=>.inr rfl
 | s :: ts,t=>by
  have e:get (keepE env (s :: ts)) t=if s=t then get env s else get (keepE env ts) t:=get_cons s t _ _
  rw [e]
  by_cases h:s=t
  ·rw [if_pos h,h];exact .inl rfl
  ·rw [if_neg h];exact get_keepE env ts t
theorem getO_keepO (objs:List (Nat × Obj)):∀ (ts:List Nat) (t:Nat) (o:Obj),getO (keepO objs ts) t=some o→getO objs t=some o
 | [],_,_,h=>by cases h
 | s :: ts,t,o,h=>by
  unfold keepO at h
  split at h
  ·rename_i o' ho
   rw [getO_cons] at h
   by_cases hs:s=t
   ·rw [if_pos hs] at h;rw [← hs,ho];exact h
   ·rw [if_neg hs] at h;exact getO_keepO objs ts t o h
  ·exact getO_keepO objs ts t o h
theorem get_zip (env:List (Nat × SV)):∀ (ts:List Nat) (t:Nat),get (ts.zip (gets env ts)) t=get env t∨get (ts.zip (gets env ts)) t = .unk
 | [],_=>.inr rfl
 | s :: ts,t=>by
  have e:get ((s :: ts).zip (gets env (s :: ts))) t=if s=t then get env s else get (ts.zip (gets env ts)) t:=get_cons s t _ _
  rw [e]
  by_cases h:s=t
  ·rw [if_pos h,h];exact .inl rfl
  ·rw [if_neg h];exact get_zip env ts t
theorem getO_zip (objs:List (Nat × Obj)):∀ (ts:List Nat) (l:List Obj),getOs objs ts=some l→∀ (t:Nat) (o:Obj),getO (ts.zip l) t=some o→getO objs t=some o
 | [],l,_,_,_,h=>by cases l<;>cases h
 | s :: ts,l,hl,t,o,h=>by
  unfold getOs at hl
  split at hl
  ·rename_i o' os ho hos
   injection hl with hl
   subst hl
   have h:getO ((s,o') :: ts.zip os) t=some o:=h
   rw [getO_cons] at h
   by_cases hs:s=t
   ·rw [if_pos hs] at h;rw [← hs,ho];exact h
   ·rw [if_neg hs] at h;exact getO_zip objs ts os hos t o h
  ·cases hl
theorem gets_length (env:List (Nat × SV)):∀ ts:List Nat,(gets env ts).length=ts.length
 | []=>rfl
 | _ :: ts=>by simp [gets,gets_length env ts]
theorem getOs_length (objs:List (Nat × Obj)):∀ (ts:List Nat) (l:List Obj),getOs objs ts=some l→l.length=ts.length
 | [],l,h=>by simp only [getOs,Option.some.injEq] at h;subst h;rfl
 | s :: ts,l,h=>by
  unfold getOs at h
  split at h
  ·rename_i o os ho hos
   injection h with h
   subst h
   simp [getOs_length objs ts os hos]
  ·cases h
section
variable {C:Ctx} {Θ:Anc} {n:Nat} {Q:Exit→Act→World→Prop}
theorem mask_sim {P:Program} {σ:St} {a:Act} {w:World} {Z:Nat→Prop} {G:Nat→Value} {x:Option (List Nat × List Nat)} (S:Sim P Θ n σ a w Z G):Sim P Θ n (mask σ x) a w Z G:=by
 unfold mask
 split
 ·exact S
 ·rename_i ts os
  exact S.less (get_keepE _ ts) (getO_keepO _ os)
theorem gets_ok {P:Program} {σ:St} {a:Act} {w:World} {Z:Nat→Prop} {G:Nat→Value} (S:Sim P Θ n σ a w Z G):∀ ts:List Nat,okS.okSs (gets σ.env ts)
 | []=>trivial
 | t :: ts=>⟨RepSV.ok (S.slot t),gets_ok S ts⟩
theorem getOs_ok {P:Program} {σ:St} {a:Act} {w:World} {Z:Nat→Prop} {G:Nat→Value} (S:Sim P Θ n σ a w Z G):∀ (os:List Nat) (l:List Obj),getOs σ.objs os=some l→okOs P l
 | [],l,h=>by simp only [getOs,Option.some.injEq] at h;subst h;trivial
 | o :: os,l,h=>by
  unfold getOs at h
  split at h
  ·rename_i x xs h1 h2
   injection h with h
   subst h
   exact ⟨RepO.ok (S.obj _ _ h1),getOs_ok S os _ h2⟩
  ·cases h
def Pans (C:Ctx) (Θ:Anc) (n:Nat) (Q:Exit→Act→World→Prop):Prop:=∀ s σ' a' w' Z' G' v,C.pan s σ'→Sim C.P Θ n σ' a' w' Z' G'→RepSV w' Z' G' s v→Q (.panic [{ v:=v,recovered:=false }]) a' w'
theorem execOps_sound (hC:C.Ok) (hp:Pans C Θ n Q) (hkb:Θ.kb=false) (hka:Θ.ka=false) {ops:Array Oper} {k:St→Prop} (hk:∀ σ' a' w' Z' G',k σ'→Sim C.P Θ n σ' a' w' Z' G'→Q .normal a' w') :
  ∀ (l:List Oper) (i:Nat) {σ:St} {a:Act} {w:World} {Z:Nat→Prop} {G:Nat→Value},ops.toList.drop i=l→opersOk n l=true→Sim C.P Θ n σ a w Z G→execOps C ops.toList l σ k→
   wpOps C.P ops Q (List.range' i l.length) a w
 | [],i,σ,a,w,Z,G,_,_,S,h=>hk _ _ _ _ _ h S
 | o :: l,i,σ,a,w,Z,G,hl,hok,S,h=>by
  unfold opersOk at hok
  split at hok
  ·rename_i hoo
   have hi:ops[i]? = some o:=by
    rw [← Array.getElem?_toList]
    have:=List.getElem?_drop (xs:=ops.toList) (i:=i) (j:=0)
    rw [hl] at this
    simpa using this.symm
   rw [List.length_cons,List.range'_succ,wpOps_cons]
   refine one_sound hC hi hoo (by simp [Anc.lets,hkb,hka]) S h (fun σ' a' w' Z' G' h' S'=>execOps_sound hC hp hkb hka hk l (i + 1) ?_ hok S' h') (fun s σ' w' Z' G' v h' S' hr=>hp s σ' _ w' Z' G' v h' S' hr)
   rw [← List.tail_drop,hl]
   rfl
  ·cases hok
def toExit:Ex→Exit
 | .normal=>.normal
 | .ret=>.ret
 | .exit n=>.exit n
def hasDraw:Code→Bool
 | .region _ _ draw=>draw
 | .seq a b=>hasDraw a || hasDraw b
 | .cond _ a b=>hasDraw a || hasDraw b
 | .block _ a=>hasDraw a
 | .loop a=>hasDraw a
 | _=>false
theorem exec_sound (hC:C.Ok) (hkb:Θ.kb=false) (hka:Θ.ka=false) (hN:∀ b,¬ Θ.N b):∀ (code:Code) (c:Nat) {Q:Exit→Act→World→Prop} {σ:St} {a:Act} {w:World} {Z:Nat→Prop} {G:Nat→Value} {k:Ex→St→Prop},codeOk n code=true→LoopsOk C code c→Sim C.P Θ n σ a w Z G→
  exec C code c σ k→(∀ e σ' a' w' Z' G',k e σ'→Sim C.P Θ n σ' a' w' Z' G'→Q (toExit e) a' w')→Pans C Θ n Q→(hasDraw code=true→∀ c a w d v,Q (.panic c) (a.put d v) w→Q (.panic c) a w)→code.wp C.P Q a w
 | .skip,c,Q,σ,a,w,Z,G,k,_,_,S,h,hk,_,_=>wp_skip (hk .normal _ _ _ _ _ h S)
 | .ret,c,Q,σ,a,w,Z,G,k,_,_,S,h,hk,_,_=>wp_ret (hk .ret _ _ _ _ _ h S)
 | .exit m,c,Q,σ,a,w,Z,G,k,_,_,S,h,hk,_,_=>wp_exit (hk (.exit m) _ _ _ _ _ h S)
 | .seq x y,c,Q,σ,a,w,Z,G,k,hok,hl,S,h,hk,hp,hQ=>by
  unfold codeOk at hok
  split at hok
  ·rename_i hx
   refine wp_seq (exec_sound hC hkb hka hN x c hx hl.1 S h ?_ hp (fun h=>hQ (by simp [hasDraw,h])))
   intro e σ' a' w' Z' G' he S'
   cases e with
   | normal=>exact exec_sound hC hkb hka hN y c hok hl.2 S' he hk hp (fun h=>hQ (by simp [hasDraw,h]))
   | ret=>exact hk .ret _ _ _ _ _ he S'
   | exit m=>exact hk (.exit m) _ _ _ _ _ he S'
  ·cases hok
 | .cond x y z,c,Q,σ,a,w,Z,G,k,hok,hl,S,h,hk,hp,hQ=>by
  unfold codeOk at hok
  split at hok
  ·rename_i hx
   unfold exec at h
   split at h
   ·rename_i u hu
    have hv:a.eval x = .bool u.bool:=by have:=S.ev x;rw [hu] at this;exact this
    refine wp_cond hv ?_
    rcases cond_some h with ⟨hb,h⟩ | ⟨hb,h⟩
    ·rw [hb];exact exec_sound hC hkb hka hN y c hx hl.1 S h hk hp (fun h=>hQ (by simp [hasDraw,h]))
    ·rw [hb];exact exec_sound hC hkb hka hN z c hok hl.2 S h hk hp (fun h=>hQ (by simp [hasDraw,h]))
   ·cases h
  ·cases hok
 | .block id x,c,Q,σ,a,w,Z,G,k,hok,hl,S,h,hk,hp,hQ=>by
  refine wp_block (exec_sound hC hkb hka hN x id hok hl S h ?_ hp hQ)
  have hmask:∀ σ' a' w' Z' G',Sim C.P Θ n σ' a' w' Z' G'→Sim C.P Θ n (mask σ' (C.kout id)) a' w' Z' G':=fun _ _ _ _ _ S'=>mask_sim S'
  intro e σ' a' w' Z' G' he S'
  cases e with
  | normal=>exact hk .normal _ _ _ _ _ he (hmask _ _ _ _ _ S')
  | ret=>exact hk .ret _ _ _ _ _ he S'
  | exit m=>
   show (if m=id then Q .normal a' w' else Q (.exit m) a' w')
   unfold outOf at he
   rcases cond_some he with ⟨hb,he⟩ | ⟨hb,he⟩
   ·rw [if_pos (Nat.eq_of_beq_eq_true hb)]
    exact hk .normal _ _ _ _ _ he (hmask _ _ _ _ _ S')
   ·rw [if_neg (Nat.ne_of_beq_eq_false hb)]
    exact hk (.exit m) _ _ _ _ _ he S'
 | .loop x,c,Q,σ,a,w,Z,G,k,hok,hl,S,h,hk,hp,hQ=>by
  unfold exec at h
  split at h
  ·rename_i ts os F hF
   split at h
   ·rename_i σ1 hfr
    obtain ⟨Z1,S1⟩:=freezes_sim S hfr
    split at h
    case h_2=>cases h
    rename_i l hos
    obtain ⟨μ,hμ⟩:=hl.2 ts os F hF
    have key:∀ (N:Nat) (svs:List SV) (l:List Obj) (a:Act) (w:World) (Z:Nat→Prop) (G:Nat→Value),μ svs l < N→svs.length=ts.length→l.length=os.length→okS.okSs svs→okOs C.P l→F C.pan svs l k→
      Sim C.P Θ n ⟨ts.zip svs,os.zip l⟩ a w Z G→Code.rounds C.P x Q N a w:=by
     intro N
     induction N with
     | zero=>intro svs l a w Z G hlt;omega
     | succ N ih=>
      intro svs l a w Z G hlt h1 h2 ho1 ho2 hFk S1
      rw [rounds_succ]
      refine exec_sound hC hkb hka hN x c hok hl.1 S1 (hμ C.pan svs l k h1 h2 ho1 ho2 hFk) ?_ hp hQ
      intro e σ' a' w' Z' G' he S'
      cases e with
      | normal=>
       simp only [again] at he
       split at he
       ·rename_i σ2 hfr2
        obtain ⟨Z2,S2⟩:=freezes_sim S' hfr2
        split at he
        ·rename_i l' hl'
         obtain ⟨hb,he⟩:=cond_only he
         have hb:μ (gets σ2.env ts) l' < μ svs l:=by simpa [Nat.blt_eq] using hb
         exact ih _ _ _ _ _ _ (by omega) (gets_length _ _) (getOs_length _ _ _ hl') (gets_ok S2 ts) (getOs_ok S2 os l' hl') he (S2.less (get_zip _ ts) (getO_zip _ os l' hl'))
        ·cases he
       ·cases he
      | ret=>exact hk .ret _ _ _ _ _ he (mask_sim S')
      | exit m=>exact hk (.exit m) _ _ _ _ _ he (mask_sim S')
    exact wp_loop_rounds (μ (gets σ1.env ts) l + 1) (key _ _ _ _ _ _ _ (Nat.lt_succ_self _) (gets_length _ _) (getOs_length _ _ _ hos) (gets_ok S1 ts) (getOs_ok S1 os l hos) h (S1.less (get_zip _ ts) (getO_zip _ os l hos)))
   ·cases h
  ·cases h
 | .region id ops draw,c,Q,σ,a,w,Z,G,k,hok,_,S,h,hk,hp,hQ=>by
  unfold codeOk at hok
  unfold exec at h
  cases draw with
  | true=>
   simp only [Bool.and_eq_true] at hok
   have I:Inv C.P Θ (noneB C ops.toList) (noneA C ops.toList) n σ a { w with drawn:=w.drawn + 1 } Z G (fun _=>False):=⟨S.drew _,fun _ h=>h.elim,fun _ h=>h.elim,fun _ _ _ _ _ h=>h.elim⟩
   have:=draw_sound (Q:=Q) hC rfl rfl hok.2 hok.1 hN (hQ rfl) (fun s σ' a' w' Z' G' v h' S' hr=>hp s σ' a' w' Z' G' v h' S' hr) (k:=fun σ'=>k .normal σ') (fun σ' a' w' Z' G' h' S'=>hk .normal _ _ _ _ _ h' S') _ _ I h
   exact wp_region_R hC.mixed this
  | false=>
   refine wp_region ?_
   have:=execOps_sound (Q:=Q) hC hp hkb hka (k:=fun σ'=>k .normal σ') (fun σ' a' w' Z' G' h' S'=>hk .normal _ _ _ _ _ h' S') ops.toList 0 rfl hok S h
   rw [List.range_eq_range']
   simpa using this
end
theorem Ctx.Ok.panics {C:Ctx} (h:C.Ok) (pan:SV→St→Prop):(C.panics pan).Ok:=⟨h.fns,h.trs,h.eqs,h.mixed,h.exts⟩
theorem LoopsOk.panics {C:Ctx} (pan:SV→St→Prop):∀ {code:Code} {c:Nat},LoopsOk C code c→LoopsOk (C.panics pan) code c
 | .seq _ _,_,h=>⟨LoopsOk.panics pan h.1,LoopsOk.panics pan h.2⟩
 | .cond _ _ _,_,h=>⟨LoopsOk.panics pan h.1,LoopsOk.panics pan h.2⟩
 | .block _ x,c,h=>LoopsOk.panics (code:=x) pan h
 | .loop _,_,h=>⟨LoopsOk.panics pan h.1,h.2⟩
 | .skip,_,_=>trivial
 | .region _ _ _,_,_=>trivial
 | .rangeFunc _ _ _ _,_,_=>trivial
 | .exit _,_,_=>trivial
 | .scope _,_,_=>trivial
 | .label _,_,_=>trivial
 | .goto _,_,_=>trivial
 | .ret,_,_=>trivial
 | .refuse _,_,_=>trivial
theorem args_rep {P:Program} {w:World} {Z:Nat→Prop} {G:Nat→Value}:∀ {ts:List TypeId} {us:List (List U)} {svs:List SV} {vs:List Value} {env:List (Nat × SV)} {i:Nat},unflats P ts us=some svs→args P i ts us=some env→RepSVs w Z none_ svs vs→
  vs.length=ts.length∧∀ t,(get env t = .unk∨∃ v,i≤t∧vs[t - i]? = some v∧RepSV w Z G (get env t) v)
 | [],[],svs,vs,env,i,h,he,hr=>by
  simp only [unflats,Option.some.injEq] at h
  subst h
  have hr:vs=[]:=hr
  subst hr
  simp only [args,Option.some.injEq] at he
  subst he
  exact ⟨rfl,fun t=>.inl rfl⟩
 | [],_ :: _,svs,vs,env,i,h,he,hr=>by simp [unflats] at h
 | _ :: _,[],svs,vs,env,i,h,he,hr=>by simp [unflats] at h
 | t :: ts,u :: us,svs,vs,env,i,h,he,hr=>by
  unfold unflats at h
  unfold args at he
  split at h
  ·rename_i s l h1 h2
   injection h with h
   subst h
   rw [h1] at he
   split at he
   ·rename_i s' env' hs' henv
    injection he with he
    subst he
    injection hs' with hs'
    subst hs'
    obtain ⟨v,r,rfl,hv,hr⟩:=hr
    obtain ⟨hl,ih⟩:=args_rep h2 henv hr
    refine ⟨by simp [hl],fun t'=>?_⟩
    rw [get_cons]
    by_cases ht:i=t'
    ·subst ht
     rw [if_pos rfl]
     exact .inr ⟨v,Nat.le_refl _,by simp,unflat_any h1 hv⟩
    ·rw [if_neg ht]
     rcases ih t' with h3 | ⟨v',h3,h4,h5⟩
     ·exact .inl h3
     ·refine .inr ⟨v',by omega,?_,h5⟩
      rw [show t' - i=(t' - (i + 1)) + 1 by omega]
      simpa using h4
   ·cases he
  ·cases h
def resOf (tmps:Array Value):ResultVar→Sem Value
 | .tmp t=>pure (tmps.getD t undef)
 | .cell x t=>do loadVar t (← asAddr (tmps.getD x undef))
theorem results_of (fn:Func) (tmps:Array Value):results fn tmps=(do let vs ← fn.results.mapM (resOf tmps);pure (if h:vs.size=1 then vs[0] else .tuple vs)):=by
 unfold results
 congr 1
theorem resVals_rep {P:Program} {Θ:Anc} {n:Nat} {σ:St} {a:Act} {w:World} {Z:Nat→Prop} {G:Nat→Value} (S:Sim P Θ n σ a w Z G):∀ {l:List ResultVar} {svs:List SV},resVals P σ l=some svs→
  ∃ vs:List Value,(l.mapM (resOf a.tmps)).run P w = .ok vs w∧RepSVs w Z G svs vs
 | [],svs,h=>by
  simp only [resVals,Option.some.injEq] at h
  subst h
  exact ⟨[],rfl,rfl⟩
 | .tmp t :: l,svs,h=>by
  unfold resVals at h
  split at h
  ·rename_i r hr
   injection h with h
   subst h
   obtain ⟨vs,h1,h2⟩:=resVals_rep S hr
   have h0:(resOf a.tmps (.tmp t)).run P w = .ok (a.tmps.getD t undef) w:=rfl
   refine ⟨a.tmps.getD t undef :: vs,?_,⟨_,_,rfl,S.slot t,h2⟩⟩
   simp only [List.mapM_cons,Sem.run_bind,h0,h1,Result.andThen,Sem.run_pure]
  ·cases h
 | .cell x t :: l,svs,h=>by
  unfold resVals at h
  split at h
  ·rename_i id off r hp hr
   split at h
   ·rename_i cells hob
    split at h
    ·rename_i s hs
     injection h with h
     subst h
     obtain ⟨vs,h1,h2⟩:=resVals_rep S hr
     have hx:=S.slot x
     rw [hp] at hx
     obtain ⟨b,hG,hv⟩:=hx
     obtain ⟨b',ty,c,g1,g2,g3⟩:=S.obj id _ hob
     rw [hG] at g1
     cases g1
     obtain ⟨v,hl,hrep⟩:=run_load_part (P:=P) (o:=0) (b:=b) g3 (fun j v hj=>by rw [Nat.zero_add,cell_of_row w b j c ty (0,0) g2];simpa using hj) hs
     rw [Nat.zero_add] at hl
     have h0:(resOf a.tmps (.cell x t)).run P w = .ok v w:=by
      simp only [resOf,Sem.run_bind,hv,asAddr,Sem.run_pure,Result.andThen,hl]
     refine ⟨v :: vs,?_,⟨_,_,rfl,hrep,h2⟩⟩
     simp only [List.mapM_cons,Sem.run_bind,h0,h1,Result.andThen,Sem.run_pure]
    ·cases h
   ·cases h
  ·cases h
def okArgs (P:Program) (ts:List TypeId) (us:List (List U)):Prop:=shapeOk P ts us∧∀ svs,unflats P ts us=some svs→okS.okSs svs
theorem run_sound {C:Ctx} (hC:C.Ok) {f:FuncId} {fn:Func} {code:Code} {us rs:List (List U)} (hf:C.P.funcs[f]? = some fn) (hbody:fn.body=some code) (hname:(fn.name == "runtime.NumGoroutine")=false)
  (hparams:fn.params.size≤fn.ntmps) (hok:codeOk fn.ntmps code=true) (hloops:LoopsOk C code 0) (hrun:okArgs C.P fn.params.toList us→run C fn us (· = rs)):FnOk C.P f fn us rs where
 body:=by rw [hbody];rfl
 name:=hname
 calls:=by
  intro w Z vs hZ hsh ⟨svs,hsvs,hrep⟩
  have hrun:=hrun ⟨hsh,fun svs' h=>by rw [hsvs] at h;cases h;exact hrep.ok⟩
  unfold run at hrun
  split at hrun
  ·rename_i env henv
   obtain ⟨hl,hargs⟩:=args_rep (G:=fun _=>.pointer none) hsvs henv hrep
   have hbd:bodyOf fn=code:=by unfold bodyOf;rw [hbody]
   rw [hbd] at hrun
   have hlen:vs.toArray.size=fn.params.size:=by simpa using hl
   have S:Sim C.P ⟨w,fun _=>False,fun _=>False,Z,false,false,fun _=>.pointer none,[]⟩ fn.ntmps ⟨env,[]⟩ { tmps:=vs.toArray ++ Array.replicate (fn.ntmps - vs.toArray.size) undef,defers:=[] } w Z (fun _=>.pointer none):=
    {size:=by simp only [Array.size_append,Array.size_replicate,hlen];omega
     calm:=rfl
     slot:=fun t=>by
      rcases hargs t with h | ⟨v,_,h2,h3⟩
      ·show RepSV w Z _ (get env t) _
       rw [h];trivial
      ·show RepSV w Z _ (get env t) _
       have ht:t < vs.length:=by
        have:=(List.getElem?_eq_some_iff.1 h2).1;omega
       have hv:(vs.toArray ++ Array.replicate (fn.ntmps - vs.toArray.size) undef).getD t undef=v:=by
        rw [Array.getD_eq_getD_getElem?,Array.getElem?_append_left (by simpa using ht)]
        simp only [Nat.sub_zero] at h2
        simp [h2]
       rw [hv]
       exact h3
     obj:=fun id o h=>by cases h
     sep:=fun id id' o o' b h=>by cases h
     free:=fun id o b h=>by cases h
     keep:=fun id o b h=>by cases h
     nlt:=fun _ h=>h.elim
     lt:=hZ
     fut:=Fut.refl _ w
     new:=fun b hb=>.inl hb
     sub:=fun b hb=>hb
     flat:=fun _=>rfl
     odd:=fun _ _=>rfl
     row:=fun _ hb=>.inl hb }
   refine calls_of_wp hf hbody (exec_sound (hC.panics fun _ _=>False) rfl rfl (fun _ h=>h) code 0 hok (hloops.panics _) S hrun ?_ (fun _ _ _ _ _ _ _ h _ _=>False.elim h) (fun _ c a w d v h=>by cases d<;>exact h))
   intro e σ' a' w' Z' G' he S'
   have S':Sim C.P _ _ _ _ _ _ _:=S'
   have hfin:(match resVals C.P σ' fn.results.toList with | some vs=>flats C.P (toU C.P σ'.objs) fn.resultTypes.toList vs | none=>none)=some rs∧(toExit e = .normal∨toExit e = .ret):=by
    unfold finK at he
    split at he
    ·rename_i rs' hrs'
     have he:rs' = rs:=he
     subst he
     cases e with
     | normal=>exact ⟨hrs',.inl rfl⟩
     | ret=>exact ⟨hrs',.inr rfl⟩
     | exit m=>cases hrs'
    ·exact he.elim
   obtain ⟨hfin,hexit⟩:=hfin
   have hpost:∀ R,(∃ v,(results fn a'.tmps).run C.P w' = .ok v w'∧R (Ending.returned v) w')→bodyPost C.P fn R (toExit e) a' w':=by
    intro R ⟨v,h1,h2⟩
    rcases hexit with h | h<;>(rw [h];exact ⟨S'.calm,v,h1,h2⟩)
   refine hpost _ ?_
   split at hfin
   ·rename_i rvs hrv
    obtain ⟨rv,hrun',hrr⟩:=resVals_rep S' hrv
    obtain ⟨svs',hu,hreps⟩:=flats_rep (Zc:=fun b=>Z' b∨Live σ' G' b) (fun c s u v hu hs=>toU_rep S' hu hs) hfin hrr
    have hres:(results fn a'.tmps).run C.P w' = .ok (if h:rv.toArray.size=1 then rv.toArray[0] else .tuple rv.toArray) w':=by
     rw [results_of,Array.mapM_eq_mapM_toList]
     simp [hrun']
    refine ⟨_,hres,_,fun b=>Z' b∨Live σ' G' b,rfl,S'.fut,fun b hb=>.inl (S'.sub b hb),?_,?_,svs',hu,?_⟩
    ·rintro b (hb | ⟨id,e,xs,h1,h2⟩)
     ·rcases S'.new b hb with h | h | h | h
      ·exact .inl h
      ·exact h.elim
      ·exact h.elim
      ·exact (S'.row b hb).imp (fun h=>h) fun h2=>⟨h,h2⟩
     ·rcases (S'.free id _ b h1 h2).2 with h3 | h3
      ·exact h3.elim
      ·exact .inr ⟨h3.elim False.elim (fun h=>h),arr_plain (S'.obj id _ h1) h2⟩
    ·rintro b (hb | ⟨id,e,xs,h1,h2⟩)
     ·exact S'.lt b hb
     ·exact RepO.lt S' h1 h2
    ·unfold RepRes
     split
     ·rename_i s
      obtain ⟨v,t,rfl,hv,ht⟩:=hreps
      have ht:t=[]:=ht
      subst ht
      exact hv
     ·rename_i hne
      have hl2:=hreps.length
      have h1:¬ rv.toArray.size=1:=by
       intro h
       have h:rv.length=1:=by simpa using h
       rw [h] at hl2
       obtain ⟨s,hs⟩:=List.length_eq_one_iff.1 hl2
       exact hne s hs
      rw [dif_neg h1]
      exact ⟨_,rfl,by simpa using hreps⟩
   ·cases hfin
  ·cases hrun
theorem argsT_get:∀ {vs:List SV} {k t:Nat},get (argsT k vs) t = .unk∨(k≤t∧∃ s,vs[t - k]? = some s∧get (argsT k vs) t=s)
 | [],_,_=>.inl rfl
 | s :: vs,k,t=>by
  have e:get (argsT k (s :: vs)) t=if k=t then s else get (argsT (k + 1) vs) t:=get_cons k t _ _
  rw [e]
  by_cases h:k=t
  ·subst h
   rw [if_pos rfl]
   exact .inr ⟨Nat.le_refl _,s,by simp,rfl⟩
  ·rw [if_neg h]
   rcases argsT_get (vs:=vs) (k:=k + 1) (t:=t) with h1 | ⟨h1,s',h2,h3⟩
   ·exact .inl h1
   ·refine .inr ⟨by omega,s',?_,h3⟩
    rw [show t - k=(t - (k + 1)) + 1 by omega]
    simpa using h2
theorem clear_mem {objs0:Objs}:∀ {m:List (Nat × Nat)} {i j:Nat},finT.clear objs0 m=true→(i,j) ∈ m→i=j∨j ∉ keysO objs0
 | (a,b) :: r,i,j,hc,h=>by
  unfold finT.clear at hc
  cases hb:(Nat.beq a b || !memB b (keysO objs0)) with
  | false=>rw [hb] at hc;cases hc
  | true=>
   rw [hb] at hc
   rcases List.mem_cons.1 h with h | h
   ·cases h
    simp only [Bool.or_eq_true,Bool.not_eq_true'] at hb
    rcases hb with hb | hb
    ·exact .inl (Nat.eq_of_beq_eq_true hb)
    ·exact .inr (fun hm=>by rw [memB_iff.2 hm] at hb;cases hb)
   ·exact clear_mem hc h
theorem finT_sound {P:Program} {w w':World} {Z Z':Nat→Prop} {G G':Nat→Value} {n:Nat} {a:Act} {objs0:Objs} {σ:St} {ds:List Deferred} {R:Out→Objs→Prop} {out:Out} {e:Ending}
  (S:Sim P ⟨w,Blocks G objs0,fun _=>False,Z,false,false,G,ds⟩ n σ a w' Z' G') (hflat:∀ id,(G id).oneCell' = true) (hout:RepOut w' Z' G' out e) (h:finT objs0 R out σ.objs) :
  ∃ out objs' Z' G',R out objs'∧RepOut w' Z' G' out e∧After P w Z G objs0 w' Z' G' objs':=by
 unfold finT at h
 simp only at h
 generalize finMap objs0 σ.objs objs0.length (reach σ.objs 400 (keysO objs0 ++ out.hs) [])=m at h
 obtain ⟨hb,h⟩:=cond_only h
 simp only [Bool.and_eq_true] at hb
 obtain ⟨⟨h1,h2⟩,h3⟩:=hb
 let G2:Nat→Value:=fun j=>match lk (swaps m) j with | some i=>G' i | none=>G j
 have hG2:∀ i j,lk m i=some j→G2 j=G' i:=fun i j hij=>by show (match lk (swaps m) j with | some i=>G' i | none=>G j)=_;rw [lk_swaps h2 hij]
 have hL:∀ j o',getO (pickR σ.objs m m) j=some o'→∃ i p,lk m i=some j∧getO σ.objs i=some p∧o' = p.ren m∧G2 j=G' i:=fun j o' hj=>by
  obtain ⟨i,p,g1,g2,g3⟩:=getO_pickR hj
  exact ⟨i,p,lk_of_mem h1 g1,g2,g3,hG2 i j (lk_of_mem h1 g1)⟩
 have hpos:0≤w.heap.size:=Nat.zero_le _
 have hodd:∀ id,id % 2=1→(∃ o,getO objs0 id=some o)→G2 id=G id:=fun id hid ⟨o,ho⟩=>by
  show (match lk (swaps m) id with | some i=>G' i | none=>G id)=_
  split
  ·rename_i i hi
   have hm:(i,id) ∈ m:=mem_swaps.1 (lk_mem hi)
   rcases clear_mem h3 hm with hc | hc
   ·subst hc;exact S.odd i hid
   ·exact absurd (mem_keysO (getO_mem ho)) hc
  ·rfl
 ·refine ⟨_,_,Z',G2,h,?_,?_⟩
  ·cases out with
   | ret vs=>
    match vs,hout with
    | [v],⟨x,he,hx⟩=>exact ⟨x,he,RepSV.ren hG2 _ _ hx⟩
    | [],⟨x,he,hx⟩=>exact ⟨x,he,RepSV.ren hG2 (.tup []) _ hx⟩
    | v :: v' :: vs,⟨x,he,hx⟩=>exact ⟨x,he,RepSV.ren hG2 (.tup (v :: v' :: vs)) _ hx⟩
   | pan s=>
    obtain ⟨x,he,hx⟩:=hout
    exact ⟨x,he,RepSV.ren hG2 _ _ hx⟩
  ·exact
    {stand:=
      {lt:=S.lt
       flat:=fun j=>by
        show (match lk (swaps m) j with | some i=>G' i | none=>G j).oneCell' = true
        split
        ·exact S.flat _
        ·exact hflat _
       obj:=fun j o' hj=>by
        obtain ⟨i,p,g1,g2,rfl,_⟩:=hL j o' hj
        exact RepO.ren hG2 g1 (S.obj i p g2)
       sep:=fun j j' o1 o2 b hj hj' hb hb'=>by
        obtain ⟨i,p,g1,g2,_,g3⟩:=hL j o1 hj
        obtain ⟨i',p',g1',g2',_,g3'⟩:=hL j' o2 hj'
        rw [g3] at hb
        rw [g3'] at hb'
        have:=S.sep i i' p p' b g2 g2' hb hb'
        subst this
        rw [g1] at g1'
        exact Option.some.inj g1'
       free:=fun j o' b hj hb=>by
        obtain ⟨i,p,g1,g2,_,g3⟩:=hL j o' hj
        rw [g3] at hb
        exact (S.free i p b g2 hb).1 }
     fut:=S.fut
     sub:=S.sub
     new:=fun b hb=>by
      rcases S.new b hb with g | g | g | g
      ·exact .inl g
      ·exact .inr (.inl g)
      ·exact g.elim
      ·exact .inr (.inr g)
     row:=fun b hb=>S.row b hb
     own:=fun j o' b hj hb=>by
      obtain ⟨i,p,g1,g2,_,g3⟩:=hL j o' hj
      rw [g3] at hb
      rcases (S.free i p b g2 hb).2 with g | g | g
      ·exact .inl g
      ·exact g.elim
      ·exact .inr g
     keep:=fun id o ho hid=>hodd id hid ⟨o,ho⟩ }
theorem runT_sound {C:Ctx} (hC:C.Ok) {f:FuncId} {fn:Func} {code:Code} (hf:C.P.funcs[f]? = some fn) (hbody:fn.body=some code) (hname:(fn.name == "runtime.NumGoroutine")=false)
  (hparams:fn.params.size + fn.nfree≤fn.ntmps) (hok:codeOk fn.ntmps code=true) (hloops:LoopsOk C code 0):FnTr C.P f fn (runD C fn) where
 body:=by rw [hbody];rfl
 name:=hname
 calls:=by
  intro vs objs R _ h w Z G args hargs hst
  unfold runD at h
  obtain ⟨hb,h⟩:=cond_only h
  have hvl:vs.length=fn.params.size + fn.nfree:=Nat.eq_of_beq_eq_true hb
  have hal:args.length=vs.length:=hargs.length.symm
  have hbd:bodyOf fn=code:=by unfold bodyOf;rw [hbody]
  rw [hbd] at h
  have S:Sim C.P ⟨w,Blocks G objs,fun _=>False,Z,false,false,G,[]⟩ fn.ntmps ⟨argsT 0 vs,objs⟩ { tmps:=args.toArray ++ Array.replicate (fn.ntmps - args.toArray.size) undef,defers:=[] } w Z G:=
   {size:=by simp only [Array.size_append,Array.size_replicate,List.size_toArray];omega
    calm:=rfl
    slot:=fun t=>by
     rcases argsT_get (vs:=vs) (k:=0) (t:=t) with h1 | ⟨_,s,h2,h3⟩
     ·show RepSV w Z _ (get (argsT 0 vs) t) _
      rw [h1];trivial
     ·show RepSV w Z _ (get (argsT 0 vs) t) _
      simp only [Nat.sub_zero] at h2
      have ht:t < args.length:=by have:=(List.getElem?_eq_some_iff.1 h2).1;omega
      have hv:(args.toArray ++ Array.replicate (fn.ntmps - args.toArray.size) undef).getD t undef=args[t]:=by
       rw [Array.getD_eq_getD_getElem?,Array.getElem?_append_left (by simpa using ht)]
       simp [ht]
      rw [hv,h3]
      have:=hargs.nth t args[t] (List.getElem?_eq_getElem ht)
      rwa [nth_getElem h2] at this
    obj:=hst.obj
    sep:=hst.sep
    free:=fun id o b h1 h2=>⟨hst.free id o b h1 h2,.inl ⟨id,o,h1,h2⟩⟩
    keep:=fun id o b _ _ h=>h.elim
    nlt:=fun _ h=>h.elim
    lt:=hst.lt
    fut:=Fut.refl _ w
    new:=fun b hb=>.inl hb
    sub:=fun b hb=>hb
    flat:=hst.flat
    odd:=fun _ _=>rfl
    row:=fun _ hb=>.inl hb }
  refine calls_of_wp hf hbody (exec_sound (hC.panics fun v σ=>finT objs R (.pan v) σ.objs) rfl rfl (fun _ h=>h) code 0 hok (hloops.panics _) S h ?_ ?_ (fun _ c a w d v h=>by cases d<;>exact h))
  ·intro e σ' a' w' Z' G' he S'
   have S':Sim C.P _ _ _ _ _ _ _:=S'
   have hexit:toExit e = .normal∨toExit e = .ret:=by
    cases e with
    | normal=>exact .inl rfl
    | ret=>exact .inr rfl
    | exit m=>exact he.elim
   have hfin:∃ rs,resVals C.P σ' fn.results.toList=some rs∧finT objs R (.ret rs) σ'.objs:=by
    unfold endT at he
    split at he
    ·exact he.elim
    ·split at he
     ·rename_i rs hrs;exact ⟨rs,hrs,he⟩
     ·exact he.elim
   obtain ⟨rs,hrs,hfin⟩:=hfin
   obtain ⟨rv,hrun',hrr⟩:=resVals_rep S' hrs
   have hres:(results fn a'.tmps).run C.P w' = .ok (if h:rv.toArray.size=1 then rv.toArray[0] else .tuple rv.toArray) w':=by
    rw [results_of,Array.mapM_eq_mapM_toList]
    simp [hrun']
   have hout:RepOut w' Z' G' (.ret rs) (.returned (if h:rv.toArray.size=1 then rv.toArray[0] else .tuple rv.toArray)):=by
    have hl:=hrr.length
    match rs,hrr with
    | [s],hrr=>
     obtain ⟨v,t,rfl,hv,ht⟩:=hrr
     have ht:t=[]:=ht
     subst ht
     exact ⟨_,rfl,hv⟩
    | [],hrr=>
     have hrr:rv=[]:=hrr
     subst hrr
     exact ⟨_,rfl,#[],rfl,rfl⟩
    | s :: s' :: rs,hrr=>
     refine ⟨_,rfl,rv.toArray,?_,by simpa using hrr⟩
     rw [dif_neg]
     simp at hl ⊢
     omega
   have:=finT_sound S' hst.flat hout hfin
   rcases hexit with h | h<;>(rw [h];exact ⟨S'.calm,_,hres,this⟩)
  ·intro s σ' a' w' Z' G' v h' S' hr
   exact ⟨S'.calm,finT_sound (out:=.pan s) (e:=.panicked [{ v:=v,recovered:=false }]) S' hst.flat ⟨v,rfl,hr⟩ h'⟩
theorem loopsOk_of {C:Ctx}:∀ {code:Code} {c:Nat},(∀ p ∈ loopsOf code c,LoopOk C p.1 p.2)→LoopsOk C code c
 | .seq _ _,_,h=>⟨loopsOk_of fun p hp=>h p (List.mem_append.2 (.inl hp)),loopsOk_of fun p hp=>h p (List.mem_append.2 (.inr hp))⟩
 | .cond _ _ _,_,h=>⟨loopsOk_of fun p hp=>h p (List.mem_append.2 (.inl hp)),loopsOk_of fun p hp=>h p (List.mem_append.2 (.inr hp))⟩
 | .block id a,_,h=>loopsOk_of (code:=a) (c:=id) h
 | .loop a,c,h=>⟨loopsOk_of (code:=a) (c:=c) fun p hp=>h p (List.mem_cons_of_mem _ hp),h (c,a) (List.mem_cons_self ..)⟩
 | .skip,_,_=>trivial
 | .region _ _ _,_,_=>trivial
 | .rangeFunc _ _ _ _,_,_=>trivial
 | .exit _,_,_=>trivial
 | .scope _,_,_=>trivial
 | .label _,_,_=>trivial
 | .goto _,_,_=>trivial
 | .ret,_,_=>trivial
 | .refuse _,_,_=>trivial
def fnCk (fn:Func):Bool:=fn.body.isSome && !(fn.name == "runtime.NumGoroutine") && Nat.ble fn.params.size fn.ntmps && codeOk fn.ntmps (bodyOf fn)
theorem fn_ok {C:Ctx} (hC:C.Ok) {f:FuncId} {fn:Func} {us rs:List (List U)} (hf:C.P.funcs[f]? = some fn) (hck:fnCk fn=true) (hl:∀ p ∈ loopsOf (bodyOf fn) 0,LoopOk C p.1 p.2) (hrun:okArgs C.P fn.params.toList us→run C fn us (· = rs)):FnOk C.P f fn us rs:=by
 unfold fnCk at hck
 simp only [Bool.and_eq_true] at hck
 obtain ⟨⟨⟨h1,h2⟩,h3⟩,h4⟩:=hck
 cases hb:fn.body with
 | none=>rw [hb] at h1;cases h1
 | some code=>
  have hbd:bodyOf fn=code:=by unfold bodyOf;rw [hb]
  rw [hbd] at h4 hl
  exact run_sound hC hf hb (by simpa using h2) (Nat.le_of_ble_eq_true h3) h4 (loopsOk_of hl) hrun
def fnCkT (fn:Func):Bool:=fn.body.isSome && !(fn.name == "runtime.NumGoroutine") && Nat.ble (fn.params.size + fn.nfree) fn.ntmps && codeOk fn.ntmps (bodyOf fn)
theorem fnT_ok {C:Ctx} (hC:C.Ok) {f:FuncId} {fn:Func} (hf:C.P.funcs[f]? = some fn) (hck:fnCkT fn=true) (hl:∀ p ∈ loopsOf (bodyOf fn) 0,LoopOk C p.1 p.2):FnTr C.P f fn (runD C fn):=by
 unfold fnCkT at hck
 simp only [Bool.and_eq_true] at hck
 obtain ⟨⟨⟨h1,h2⟩,h3⟩,h4⟩:=hck
 cases hb:fn.body with
 | none=>rw [hb] at h1;cases h1
 | some code=>
  have hbd:bodyOf fn=code:=by unfold bodyOf;rw [hb]
  rw [hbd] at h4 hl
  exact runT_sound hC hf hb (by simpa using h2) (Nat.le_of_ble_eq_true h3) h4 (loopsOk_of hl)
def SpecF (P:Program) (f:FuncId) (S:List (List U)→List (List U)):Prop:=∀ fn us,P.funcs[f]? = some fn→FnOk P f fn us (S us)
def SpecT (P:Program) (f:FuncId) (F:Tr):Prop:=∀ fn,P.funcs[f]? = some fn→FnTr P f fn F
abbrev FnTab:Type:=FuncId→List (List U)→Option (Option Prop × List (List U))
def fnsNil:FnTab:=fun _ _=>none
def fnsCons (g:FuncId) (S:List (List U)→List (List U)) (r:FnTab):FnTab:=fun f us=>bif Nat.beq f g then some (none,S us) else r f us
def fnsConsP (g:FuncId) (p:List (List U)→Prop) (S:List (List U)→List (List U)) (r:FnTab):FnTab:=fun f us=>bif Nat.beq f g then some (some (p us),S us) else r f us
def SpecFP (P:Program) (f:FuncId) (p:List (List U)→Prop) (S:List (List U)→List (List U)):Prop:=∀ fn us,P.funcs[f]? = some fn→p us→FnOk P f fn us (S us)
def trsNil:FuncId→Option (List Bool × Tr):=fun _=>none
def trsCons (g:FuncId) (fs:List Bool) (F:Tr) (r:FuncId→Option (List Bool × Tr)):FuncId→Option (List Bool × Tr):=fun f=>bif Nat.beq f g then some (fs,F) else r f
def OkF (P:Program) (T:FnTab):Prop:=∀ f fn us p rs,P.funcs[f]? = some fn→T f us=some (p,rs)→withP p True→FnOk P f fn us rs
def OkT (P:Program) (T:FuncId→Option (List Bool × Tr)):Prop:=∀ f fn fs F,P.funcs[f]? = some fn→T f=some (fs,F)→FnTr P f fn F
theorem OkF.nil {P:Program}:OkF P fnsNil:=fun _ _ _ _ _ _ h=>by cases h
theorem OkT.nil {P:Program}:OkT P trsNil:=fun _ _ _ _ _ h=>by cases h
theorem OkF.cons {P:Program} {g:FuncId} {S:List (List U)→List (List U)} {r:FnTab} (h:SpecF P g S) (hr:OkF P r):OkF P (fnsCons g S r):=fun f fn us p rs hf h' hp=>by
 unfold fnsCons at h'
 cases hb:Nat.beq f g with
 | true=>
  rw [hb] at h'
  have:=Nat.eq_of_beq_eq_true hb
  subst this
  injection h' with h'
  cases h'
  exact h fn us hf
 | false=>rw [hb] at h';exact hr f fn us p rs hf h' hp
theorem OkF.consP {P:Program} {g:FuncId} {pre:List (List U)→Prop} {S:List (List U)→List (List U)} {r:FnTab} (h:SpecFP P g pre S) (hr:OkF P r):OkF P (fnsConsP g pre S r):=fun f fn us p rs hf h' hp=>by
 unfold fnsConsP at h'
 cases hb:Nat.beq f g with
 | true=>
  rw [hb] at h'
  have:=Nat.eq_of_beq_eq_true hb
  subst this
  injection h' with h'
  cases h'
  exact h fn us hf hp.1
 | false=>rw [hb] at h';exact hr f fn us p rs hf h' hp
theorem OkT.cons {P:Program} {g:FuncId} {fs:List Bool} {F:Tr} {r:FuncId→Option (List Bool × Tr)} (h:SpecT P g F) (hr:OkT P r):OkT P (trsCons g fs F r):=fun f fn fs' F' hf h'=>by
 unfold trsCons at h'
 cases hb:Nat.beq f g with
 | true=>
  rw [hb] at h'
  have:=Nat.eq_of_beq_eq_true hb
  subst this
  injection h' with h'
  cases h'
  exact h fn hf
 | false=>rw [hb] at h';exact hr f fn fs' F' hf h'
def mkC (P:Program) (eqs:TypeId→Option (List IntKind)) (fns:FnTab) (trs:FuncId→Option (List Bool × Tr)) (loops:Nat→Option (List Nat × List Nat × LoopF)) (lout kout:Nat→Option (List Nat × List Nat)):Ctx:=
 {P:=P,eqs:=eqs,fns:=fns,trs:=trs,pan:=fun _ _=>False,loops:=loops,kout:=kout,lout:=lout }
theorem mkC_ok {P:Program} {eqs:TypeId→Option (List IntKind)} {fns:FnTab} {trs:FuncId→Option (List Bool × Tr)} {loops:Nat→Option (List Nat × List Nat × LoopF)} {lout kout:Nat→Option (List Nat × List Nat)}
  (he:∀ t ks,eqs t=some ks→EqOk P t ks) (hm:P.follows .mixedOrders=true) (hf:OkF P fns) (ht:OkT P trs):(mkC P eqs fns trs loops lout kout).Ok:=⟨hf,ht,he,hm,fun _ _ h=>by cases h⟩
def SV.u:SV→U
 | .val _ u=>u
 | _=>.i 0
def Obj.xs:Obj→List U
 | .arr _ xs=>xs
 | _=>[]
@[simp] theorem SV.u_val (c:Ct) (u:U):(SV.val c u).u=u:=rfl
@[simp] theorem Obj.xs_arr (e:TypeId) (xs:List U):(Obj.arr e xs).xs=xs:=rfl
abbrev Mu:Type:=List SV→List Obj→Nat
abbrev KE:Type:=Ex→St→Prop
abbrev KP:Type:=SV→St→Prop
abbrev RT:Type:=Out→Objs→Prop
abbrev RF:Type:=List (List U)→Prop
def noLoops:Nat→Option (List Nat × List Nat × LoopF):=fun _=>none
def noOut:Nat→Option (List Nat × List Nat):=fun _=>none
def loopCons (c:Nat) (ts os:List Nat) (F:LoopF) (r:Nat→Option (List Nat × List Nat × LoopF)):Nat→Option (List Nat × List Nat × LoopF):=fun d=>bif Nat.beq d c then some (ts,os,F) else r d
def outCons (c:Nat) (ts os:List Nat) (r:Nat→Option (List Nat × List Nat)):Nat→Option (List Nat × List Nat):=fun d=>bif Nat.beq d c then some (ts,os) else r d
end Go.Den

namespace Go.Den
open Go Go.RowKit
def fieldsInt (P:Program):Nat→List Field→List IntKind→Bool
 | _,[],[]=>true
 | n,f :: fs,k :: ks=>match P.underlying f.type with
  | some (.int k')=>(f.name != "_") && Nat.beq f.offset n && IntKind.same k k' && fieldsInt P (n + 1) fs ks
  | _=>false
 | _,_,_=>false
theorem run_part_int {P:Program} {w:World} {t:TypeId} {k:IntKind} {vs:Array Value} {off:Nat} {v:Value} (hu:P.underlying t=some (.int k)) (hv:vs[off]? = some v):(_root_.Go.part t vs off).run P w = .ok v w:=by
 have hl:off < vs.size:=(Array.getElem?_eq_some_iff.1 hv).1
 have hv':vs[off]=v:=(Array.getElem?_eq_some_iff.1 hv).2
 simp only [_root_.Go.part,Sem.run_bind,run_isAgg hu,Result.andThen,aggD]
 simp [Array.getElem?_eq_getElem hl,hv']
theorem eqFields_ints {P:Program} {w:World} {d:Nat}:∀ (fs:List Field) (ks:List IntKind) (n:Nat) (is js:List Int) (xs ys:List Value),fieldsInt P n fs ks=true→is.length=ks.length→js.length=ks.length→
  xs.drop n=List.zipWith Value.int ks is→ys.drop n=List.zipWith Value.int ks js→(Op.eqFields (d + 1) xs.toArray ys.toArray fs).run P w = .ok (decide (is=js)) w
 | [],[],n,[],[],xs,ys,_,_,_,_,_=>by simp [Op.eqFields]
 | [],_ :: _,_,_,_,_,_,h,_,_,_,_=>by simp [fieldsInt] at h
 | _ :: _,[],_,_,_,_,_,h,_,_,_,_=>by simp [fieldsInt] at h
 | f :: fs,k :: ks,n,i :: is,j :: js,xs,ys,h,hi,hj,hx,hy=>by
  unfold fieldsInt at h
  split at h
  ·rename_i k' hu
   simp only [Bool.and_eq_true] at h
   obtain ⟨⟨⟨h1,h2⟩,h3⟩,h4⟩:=h
   have h1:f.name ≠ "_" := by simpa using h1
   have h2:=Nat.eq_of_beq_eq_true h2
   have:=same_eq h3
   subst this
   have hx0:xs[n]? = some (.int k i):=by
    have:=List.getElem?_drop (xs:=xs) (i:=n) (j:=0)
    rw [hx] at this
    simpa using this.symm
   have hy0:ys[n]? = some (.int k j):=by
    have:=List.getElem?_drop (xs:=ys) (i:=n) (j:=0)
    rw [hy] at this
    simpa using this.symm
   have hpx:=run_part_int (w:=w) hu (vs:=xs.toArray) (off:=f.offset) (v:=.int k i) (by simpa [h2] using hx0)
   have hpy:=run_part_int (w:=w) hu (vs:=ys.toArray) (off:=f.offset) (v:=.int k j) (by simpa [h2] using hy0)
   have heq:=run_equalIn_int (P:=P) w d f.type k k i j hu
   have hx1:xs.drop (n + 1)=List.zipWith Value.int ks is:=by
    rw [← List.tail_drop,hx];rfl
   have hy1:ys.drop (n + 1)=List.zipWith Value.int ks js:=by
    rw [← List.tail_drop,hy];rfl
   have ih:=eqFields_ints (w:=w) (d:=d) fs ks (n + 1) is js xs ys h4 (by simpa using hi) (by simpa using hj) hx1 hy1
   simp only [Op.eqFields,h1,ne_eq,not_false_eq_true,if_true,Sem.run_bind,hpx,hpy,Result.andThen_ok]
   rw [heq]
   simp only [Result.andThen_ok]
   by_cases hij:i=j
   ·subst hij
    simp only [BEq.rfl,Bool.not_true,Bool.false_eq_true,if_false]
    rw [ih]
    simp
   ·have:(i == j)=false:=by simpa using hij
    simp [this,hij]
  ·cases h
 | _ :: _,_ :: _,_,[],_,_,_,_,hi,_,_,_=>by simp at hi
 | _ :: _,_ :: _,_,_ :: _,[],_,_,_,_,hj,_,_=>by simp at hj
 | [],[],_,_ :: _,_,_,_,_,hi,_,_,_=>by simp at hi
 | [],[],_,[],_ :: _,_,_,_,_,hj,_,_=>by simp at hj
def eqCk (P:Program) (t:TypeId) (ks:List IntKind):Bool:=match P.underlying t with
 | some (.struct fs)=>!P.stoodInHeld t && !P.eqGuardType P.depth t && fieldsInt P 0 fs.toList ks
 | _=>false
theorem eq_ok {P:Program} {t:TypeId} {ks:List IntKind} (h:eqCk P t ks=true):EqOk P t ks:=by
 unfold eqCk at h
 split at h
 ·rename_i fs hu
  simp only [Bool.and_eq_true,Bool.not_eq_true'] at h
  obtain ⟨⟨h1,h2⟩,h3⟩:=h
  intro x y is js w hi hj
  have hf:P.fieldsOf t=fs:=by unfold Program.fieldsOf;rw [hu]
  have hrun:=run_equalIn_struct (P:=P) w 9999 t (List.zipWith Value.int ks is).toArray (List.zipWith Value.int ks js).toArray (by rw [hf];exact hu) h1
  rw [hf,eqFields_ints fs.toList ks 0 is js _ _ h3 hi hj rfl rfl] at hrun
  unfold aggI
  constructor
  ·simp only [Sem.run_bind,run_eqGuard_agg w _ t x y _ _ h2,Result.andThen_ok,run_eql_struct]
   rw [show (10000:Nat)=9999 + 1 from rfl,hrun];rfl
  ·simp only [Sem.run_bind,run_eqGuard_agg w _ t x y _ _ h2,Result.andThen_ok,run_neq_struct]
   rw [show (10000:Nat)=9999 + 1 from rfl,hrun];rfl
 ·cases h
theorem shape1 {P:Program} {t:TypeId} {us:List (List U)} {m:Bool} {cs:List Ct} (hc:Cs P t=some (m,cs)) (h:shapeOk P [t] us):∃ u,us=[u]∧u.length=cs.length:=by
 obtain ⟨u,r,m',cs',rfl,hcs,hl,hr⟩:=h
 rw [hc] at hcs;cases hcs
 have hr:r=[]:=hr
 subst hr
 exact ⟨u,rfl,hl⟩
theorem shape2 {P:Program} {t t2:TypeId} {us:List (List U)} {m m2:Bool} {cs cs2:List Ct} (hc:Cs P t=some (m,cs)) (hc2:Cs P t2=some (m2,cs2)) (h:shapeOk P [t,t2] us):∃ u u2,us=[u,u2]∧u.length=cs.length∧u2.length=cs2.length:=by
 obtain ⟨u,r,m',cs',rfl,hcs,hl,hr⟩:=h
 rw [hc] at hcs;cases hcs
 obtain ⟨u2,rfl,hl2⟩:=shape1 hc2 hr
 exact ⟨u,u2,rfl,hl,hl2⟩
theorem shape3 {P:Program} {t t2 t3:TypeId} {us:List (List U)} {m m2 m3:Bool} {cs cs2 cs3:List Ct} (hc:Cs P t=some (m,cs)) (hc2:Cs P t2=some (m2,cs2)) (hc3:Cs P t3=some (m3,cs3)) (h:shapeOk P [t,t2,t3] us) :
  ∃ u u2 u3,us=[u,u2,u3]∧u.length=cs.length∧u2.length=cs2.length∧u3.length=cs3.length:=by
 obtain ⟨u,r,m',cs',rfl,hcs,hl,hr⟩:=h
 rw [hc] at hcs;cases hcs
 obtain ⟨u2,u3,rfl,hl2,hl3⟩:=shape2 hc2 hc3 hr
 exact ⟨u,u2,u3,rfl,hl,hl2,hl3⟩
theorem len1 {u:List U} (h:u.length=1):∃ a,u=[a]:=List.length_eq_one_iff.1 h
theorem len2 {u:List U} (h:u.length=2):∃ a b,u=[a,b]:=match u,h with | [a,b],_=>⟨a,b,rfl⟩
theorem len5 {u:List U} (h:u.length=5):∃ a b c d e,u=[a,b,c,d,e]:=match u,h with | [a,b,c,d,e],_=>⟨a,b,c,d,e,rfl⟩
theorem len7 {u:List U} (h:u.length=7):∃ a b c d e f g,u=[a,b,c,d,e,f,g]:=match u,h with | [a,b,c,d,e,f,g],_=>⟨a,b,c,d,e,f,g,rfl⟩
theorem bi {b:Bool} {x y:Prop} (h1:b=true→x) (h2:b=false→y):(bif b then x else y):=by
 cases b
 ·exact h2 rfl
 ·exact h1 rfl
theorem bt {b:Bool} {x y:Prop} (h:b=true) (hx:x):(bif b then x else y):=by rw [h];exact hx
theorem bf {b:Bool} {x y:Prop} (h:b=false) (hy:y):(bif b then x else y):=by rw [h];exact hy
theorem bd {p:Prop} [Decidable p] {x y:Prop} (h1:p→x) (h2:¬ p→y):(bif decide p then x else y):=by
 by_cases h:p
 ·rw [decide_eq_true h];exact h1 h
 ·rw [decide_eq_false h];exact h2 h
theorem dt {p:Prop} [Decidable p] {x y:Prop} (h:p) (hx:x):(bif decide p then x else y):=by rw [decide_eq_true h];exact hx
theorem df {p:Prop} [Decidable p] {x y:Prop} (h:¬ p) (hy:y):(bif decide p then x else y):=by rw [decide_eq_false h];exact hy
theorem blt {a b:Nat} {x y:Prop} (h:a < b) (hx:x):(bif Nat.blt a b then x else y):=bt (by simpa [Nat.blt_eq] using h) hx
theorem broom {p:Prop} [Decidable p] {c:Bool} {x y:Prop} (h:p) (hc:c=true) (hx:x):(bif decide p && c then x else y):=bt (by simp [h,hc]) hx
theorem loops_one {C:Ctx} {code:Code} {c:Nat} {b:Code} (h:loopsOf code 0=[(c,b)]) (hl:LoopOk C c b):∀ p ∈ loopsOf code 0,LoopOk C p.1 p.2:=by
 rw [h];intro p hp
 have:p=(c,b):=by simpa using hp
 subst this;exact hl
theorem loops_two {C:Ctx} {code:Code} {c c':Nat} {b b':Code} (h:loopsOf code 0=[(c,b),(c',b')]) (hl:LoopOk C c b) (hl':LoopOk C c' b'):∀ p ∈ loopsOf code 0,LoopOk C p.1 p.2:=by
 rw [h];intro p hp
 rcases List.mem_cons.1 hp with hp | hp
 ·subst hp;exact hl
 ·have:p=(c',b'):=by simpa using hp
  subst this;exact hl'
theorem loops_three {C:Ctx} {code:Code} {c c' c2:Nat} {b b' b2:Code} (h:loopsOf code 0=[(c,b),(c',b'),(c2,b2)]) (hl:LoopOk C c b) (hl':LoopOk C c' b') (hl2:LoopOk C c2 b2):∀ p ∈ loopsOf code 0,LoopOk C p.1 p.2:=by
 rw [h];intro p hp
 rcases List.mem_cons.1 hp with hp | hp
 ·subst hp;exact hl
 rcases List.mem_cons.1 hp with hp | hp
 ·subst hp;exact hl'
 ·have:p=(c2,b2):=by simpa using hp
  subst this;exact hl2
theorem loops_none {C:Ctx} {code:Code} (h:loopsOf code 0=[]):∀ p ∈ loopsOf code 0,LoopOk C p.1 p.2:=by
 rw [h];intro p hp;cases hp
structure Holds (p:Prop):Prop where
 out:p
theorem Holds.eq {a b:Prop} (h:a=b) (hb:b):Holds a:=⟨by rw [h];exact hb⟩
theorem fn_okH {C:Ctx} (hC:C.Ok) {f:FuncId} {fn:Func} {us rs:List (List U)} (hf:C.P.funcs[f]? = some fn) (hck:fnCk fn=true) (hl:∀ p ∈ loopsOf (bodyOf fn) 0,LoopOk C p.1 p.2) (hrun:okArgs C.P fn.params.toList us→Holds (run C fn us (· = rs))):FnOk C.P f fn us rs:=
 fn_ok hC hf hck hl fun h=>(hrun h).out
theorem fnT_okH {C:Ctx} (hC:C.Ok) {f:FuncId} {fn:Func} {F:Tr} (hf:C.P.funcs[f]? = some fn) (hck:fnCkT fn=true) (hl:∀ p ∈ loopsOf (bodyOf fn) 0,LoopOk C p.1 p.2)
  (h:∀ vs objs R,okS.okSs vs→(∀ id o,(id,o) ∈ objs→okO C.P o)→F vs objs R→Holds (runD C fn vs objs R)):FnTr C.P f fn F:=
 (fnT_ok hC hf hck hl).weakenOk fun vs objs R h1 h2 h3=>(h vs objs R h1 h2 h3).out
theorem nt {b:Bool} (h:(!b)=true):b=false:=by simpa using h
theorem nf {b:Bool} (h:(!b)=false):b=true:=by simpa using h
theorem str_len (s:ByteArray):s.data.toList.length=s.size:=by rw [Array.length_toList];rfl
theorem loopOk_of {C:Ctx} {c:Nat} {b:Code} {ts os:List Nat} {F:LoopF} (hF:C.loops c=some (ts,os,F)) (μ:Mu)
  (h:∀ (pan:KP) (svs:List SV) (l:List Obj) (k:KE),okS.okSs svs→okOs C.P l→F pan svs l k→Holds (exec (C.panics pan) b c ⟨ts.zip svs,os.zip l⟩ (again C.P (C.lout c) (C.lout (c + 1048576)) pan ts os F μ (μ svs l) k))):LoopOk C c b:=by
 intro ts' os' F' h'
 rw [hF] at h'
 cases h'
 exact ⟨μ,fun pan svs l k _ _ h1 h2 h3=>(h pan svs l k h1 h2 h3).out⟩
end Go.Den

namespace Go.Den
open Go Go.RowKit Go.ChangeShapes Go.WideShapes Go.Deep
def offOk (P:Program) (ok:TypeId→Bool) (n:Nat):Nat→List Field→Bool
 | _,[]=>true
 | off,f :: fs=>match cts P n f.type with
  | some (_,cs)=>Nat.beq f.offset off && Nat.beq (P.cellsOf f.type) cs.length && ok f.type && offOk P ok n (off + cs.length) fs
  | none=>false
def readOk (P:Program):Nat→TypeId→Bool
 | 0,_=>false
 | n + 1,t=>match P.underlying t with
  | some (.int _)=>true
  | some .bool=>true
  | some .string=>true
  | some (.slice e)=>match cts P n e with
   | some (_,cs)=>Nat.beq (P.cellsOf e) cs.length && Nat.blt 0 cs.length && readOk P n e
   | none=>false
  | some (.struct fs)=>match fldCts (cts P n) fs.toList with
   | some cs=>Nat.beq (P.cellsOf t) cs.length && offOk P (readOk P n) n 0 fs.toList
   | none=>false
  | _=>false
theorem cts_false {P:Program}:∀ {n:Nat} {t:TypeId} {cs:List Ct},cts P n t=some (false,cs)→∃ c,cs=[c]
 | 0,t,cs,h=>by cases h
 | n + 1,t,cs,h=>by
  unfold cts at h
  repeat' split at h
  all_goals first | (cases h;exact ⟨_,rfl⟩) | cases h
section
variable {H:Type} {enc:TypeId × Value→H} {P:Program} {w:World} {base:Nat} {sp:Nat→Bool} {held:Bool}
theorem RepL.cat {w:World} {Z:Nat→Prop}:∀ {cs ds:List Ct} {v x:List Value} {us ys:List U},RepL w Z cs v us→us.length=cs.length→RepL w Z ds x ys→RepL w Z (cs ++ ds) (v ++ x) (us ++ ys)
 | [],ds,v,x,us,ys,hv,hu,hx=>by
  have hv:v=[]:=hv
  have hu:us=[]:=List.eq_nil_of_length_eq_zero hu
  subst hv hu
  exact hx
 | c :: cs,ds,v,x,[],ys,hv,hu,hx=>by simp at hu
 | c :: cs,ds,v,x,u :: us,ys,hv,hu,hx=>by
  obtain ⟨a,t,rfl,hr,ht⟩:=hv
  exact ⟨a,t ++ x,rfl,hr,RepL.cat (us:=us) ht (by simpa using hu) hx⟩
theorem cell_lt {a:Addr} {v:Value} (h:w.cell? a=some v):a.block < w.heap.size∧a=⟨a.block,a.off,none⟩:=by
 unfold World.cell? at h
 split at h
 ·rename_i c e fr hb
  split at h
  ·cases h
  ·rename_i hs
   refine ⟨(Array.getElem?_eq_some_iff.1 hb).1,?_⟩
   obtain ⟨b,o,s⟩:=a
   cases s with
   | none=>rfl
   | some x=>simp at hs
 ·cases h
theorem listOf {p:Nat→U→Prop}:∀ (n:Nat),(∀ i,i < n→∃ u,p i u)→∃ L:List U,L.length=n∧∀ i,i < n→p i (U.at L i)
 | 0,_=>⟨[],rfl,fun i hi=>by omega⟩
 | n + 1,h=>by
  obtain ⟨L,hl,hp⟩:=listOf n fun i hi=>h i (by omega)
  obtain ⟨u,hu⟩:=h n (by omega)
  refine ⟨L ++ [u],by simp [hl],fun i hi=>?_⟩
  by_cases hin:i < n
  ·have:=hp i hin
   rw [at_getElem _ _ (by omega)] at this
   rw [at_getElem _ _ (by simp;omega),List.getElem_append_left (by omega)]
   exact this
  ·have:i=n:=by omega
   subst this
   rw [at_getElem _ _ (by simp;omega),List.getElem_append_right (by omega)]
   simpa [hl] using hu
theorem flds_rep {n:Nat} {ok:TypeId→Bool} {vals:List Value} {Z:Nat→Prop}
  (ih:∀ t m cs vs,cts P n t=some (m,cs)→ok t=true→(∃ fuel x,DataW.trod enc P w base sp held fuel t vs=some x)→∃ us,us.length=cs.length∧RepL w Z cs vs us) :
  ∀ (fs:List Field) (off:Nat) (cs:List Ct),fldCts (cts P n) fs=some cs→offOk P ok n off fs=true→(∀ f ∈ fs,∃ fuel x,DataW.trod enc P w base sp held fuel f.type ((vals.drop f.offset).take (P.cellsOf f.type))=some x)→
   vals.length=off + cs.length→∃ us,us.length=cs.length∧RepL w Z cs (vals.drop off) us
 | [],off,cs,h,_,_,hl=>by
  simp only [fldCts,Option.some.injEq] at h
  subst h
  refine ⟨[],rfl,?_⟩
  show vals.drop off=[]
  rw [List.drop_of_length_le (by simp at hl;omega)]
 | f :: fs,off,cs,h,ho,ht,hl=>by
  unfold fldCts at h
  unfold offOk at ho
  split at h
  ·rename_i m c1 c2 h1 h2
   injection h with h
   subst h
   rw [h1] at ho
   simp only [Bool.and_eq_true] at ho
   obtain ⟨⟨⟨ho1,ho2⟩,ho3⟩,ho4⟩:=ho
   have ho1:=Nat.eq_of_beq_eq_true ho1
   have ho2:=Nat.eq_of_beq_eq_true ho2
   simp only [List.length_append] at hl
   obtain ⟨u1,g1,g2⟩:=ih _ _ _ _ h1 ho3 (ht f (List.mem_cons_self ..))
   obtain ⟨u2,g3,g4⟩:=flds_rep ih fs (off + c1.length) c2 h2 ho4 (fun f' hf'=>ht f' (List.mem_cons_of_mem _ hf')) (by omega)
   refine ⟨u1 ++ u2,by simp [g1,g3],?_⟩
   rw [ho1,ho2] at g2
   have:=RepL.cat g2 g1 g4
   have hsp:(vals.drop off).take c1.length ++ vals.drop (off + c1.length)=vals.drop off:=by
    rw [← List.drop_drop,List.take_append_drop]
   rw [hsp] at this
   exact this
  ·cases h
theorem trod_rep:∀ (n:Nat) (t:TypeId) (m:Bool) (cs:List Ct) (vals:List Value),cts P n t=some (m,cs)→readOk P n t=true→(∃ fuel x,DataW.trod enc P w base sp held fuel t vals=some x)→
  ∃ us,us.length=cs.length∧RepL w (fun b=>b < w.heap.size) cs vals us
 | 0,_,_,_,_,h,_,_=>by cases h
 | n + 1,t,m,cs,vals,h,hr,⟨fuel,x,hx⟩=>by
  unfold cts at h
  unfold readOk at hr
  split at h
  ·rename_i k hu
   cases h
   obtain ⟨i,rfl,_,hw⟩:=DataW.trod_int hu hx
   exact ⟨[.i i],rfl,_,[],rfl,⟨rfl,by simpa [Lit.wf] using hw⟩,rfl⟩
  ·rename_i hu
   cases h
   obtain ⟨b,rfl,_⟩:=DataW.trod_bool hu hx
   exact ⟨[.b b],rfl,_,[],rfl,rfl,rfl⟩
  ·rename_i hu
   cases h
   obtain ⟨s,rfl,_,hs⟩:=DataW.trod_string hu hx
   exact ⟨[.s s],rfl,_,[],rfl,⟨rfl,hs⟩,rfl⟩
  ·rename_i e hu
   rw [hu] at hr
   simp only at hr
   split at h
   ·rename_i m' cs' hc
    cases h
    rw [hc] at hr
    simp only [Bool.and_eq_true] at hr
    obtain ⟨⟨hr1,hr2⟩,hr3⟩:=hr
    have hr1:=Nat.eq_of_beq_eq_true hr1
    have hr2:0 < cs'.length:=by simpa [Nat.blt_eq] using hr2
    rcases open_slice hu hx with ⟨rfl,_⟩ | ⟨a,len,cap,mm,n',D,Pl,rfl,hb,hl,hm,hmm,_,hi⟩
    ·exact ⟨[.l []],rfl,_,[],rfl,⟨none,0,rfl,Nat.le_refl _,Nat.zero_le _,fun k hk=>absurd hk (by simp)⟩,rfl⟩
    ·have hle:len≤mm:=by rw [hmm];split<;>omega
     have hA:0 < len→a.block < w.heap.size∧a=⟨a.block,a.off,none⟩:=fun hp=>by
      obtain ⟨vs,h1,_⟩:=hi 0 (by omega)
      rw [hr1] at h1
      obtain ⟨_,h3,h4⟩:=World.cells?_some h1
      have hv:=h4 0 hr2
      rw [List.getElem?_eq_getElem (by omega)] at hv
      have h0:(a.add (0 * cs'.length)).add 0=a:=by simp [Addr.add]
      rw [h0] at hv
      exact cell_lt hv
     have hel:∀ i,i < len→∃ u,a=⟨a.block,a.off,none⟩∧a.block < w.heap.size∧RepCs w (fun b=>b < w.heap.size) cs' a.block (a.off + i * cs'.length) (elemU m' u):=fun i hil=>by
      obtain ⟨vs,h1,h2⟩:=hi i (by omega)
      rw [hr1] at h1
      obtain ⟨_,h3,h4⟩:=World.cells?_some h1
      obtain ⟨us,g1,g2⟩:=trod_rep n e m' cs' vs hc hr3 ⟨_,_,h2⟩
      obtain ⟨q1,ha⟩:=hA (by omega)
      refine ⟨ofElem m' us,ha,q1,?_⟩
      have hE:=RepL.elem (m:=m') (fun hm0=>by subst hm0;exact cts_false hc) g2
      refine RepL.cells hE fun j v hj=>?_
      have hjl:j < vs.length:=(List.getElem?_eq_some_iff.1 hj).1
      rw [← hj,← h4 j (by omega)]
      congr 1
      obtain ⟨b,o,s⟩:=a
      cases ha
      by_cases hi0:i * cs'.length=0<;>by_cases hj0:j=0<;>simp [Addr.add,hi0,hj0,Nat.add_assoc]
     obtain ⟨L,hL,hp⟩:=listOf len hel
     refine ⟨[.l L],rfl,_,[],rfl,⟨some a,cap,by rw [U.at];simp [hL],by rw [U.at];simpa [hL] using hl,hm,fun k hk=>?_⟩,rfl⟩
     obtain ⟨q1,q2,q3⟩:=hp k (by simpa [U.at,hL] using hk)
     exact ⟨a.block,a.off,by rw [← q1],q2,q3⟩
   ·cases h
  ·rename_i fs hu
   rw [hu] at hr
   simp only at hr
   split at h
   ·rename_i cs' hc
    cases h
    rw [hc] at hr
    simp only [Bool.and_eq_true] at hr
    have hr1:=Nat.eq_of_beq_eq_true hr.1
    obtain ⟨xs,n',rfl,_,hlen,hxs,hf⟩:=DataW.trod_struct hu hx
    have:=flds_rep (enc:=enc) (base:=base) (sp:=sp) (held:=held) (vals:=vals) (fun t m cs vs a b c=>trod_rep n t m cs vs a b c) fs.toList 0 _ hc hr.2 (fun f hfm=>by
     obtain ⟨i,hi,hfi⟩:=List.mem_iff_getElem.1 hfm
     have hfi':fs[i]? = some f:=by
      rw [← hfi,← Array.getElem?_toList,List.getElem?_eq_getElem hi]
     have:=hf i f hfi'
     rw [List.getElem?_eq_getElem (by simp at hi;omega)] at this
     exact ⟨_,_,this⟩) (by omega)
    simpa using this
   ·cases h
  ·rename_i hu
   rename_i d _ _ _ _ _
   rw [hu] at hr
   split at hr<;>first | (rename_i hh;cases hh;simp_all) | cases hr
  ·cases h
end
end Go.Den

namespace Go.Den
open Go Go.RowKit Go.ChangeShapes Go.WideShapes Go.Deep
section
variable {H:Type} {enc:TypeId × Value→H} {P:Program} {w:World} {base:Nat} {sp:Nat→Bool} {held:Bool}
theorem arg_rep {t:TypeId} {m:Bool} {cs:List Ct} {v:Value} {d:DataW H} {ps:List MemPlace} {r:Reach} {b0:Nat} (hc:Cs P t=some (m,cs)) (hr:readOk P 8 t=true) (hv:Value.okWide P w r b0 t v) (h:DataW.Trod enc P w base sp held t v d ps) :
  ∃ us s,us.length=cs.length∧unflat P t us=some s∧RepSV w (fun b=>b < w.heap.size) none_ s v:=by
 obtain ⟨fuel,hx⟩:=h
 obtain ⟨us,hl,hR⟩:=trod_rep 8 t m cs _ hc hr ⟨_,_,hx⟩
 have hc':=hc
 unfold unflat
 rw [hc]
 have hone:∀ {c:Ct},cs=[c]→v.cells = #[v]→∃ s,(match some (false,cs) with | some (true,cs)=>some (SV.agg (vals cs us)) | some (false,[c])=>some (.val c (U.at us 0)) | _=>none)=some s∧RepSV w (fun b=>b < w.heap.size) none_ s v:=fun {c} hcs hvc=>by
  subst hcs
  rw [hvc] at hR
  obtain ⟨x,l,he,hC,_⟩:=hR
  have he:v=x:=by simp at he;exact he.1
  subst he
  exact ⟨_,rfl,hC⟩
 unfold cts at hc'
 split at hc'
 ·rename_i k hu
  cases hc'
  obtain ⟨n,rfl⟩:=okWide_int hu hv
  obtain ⟨s,h1,h2⟩:=hone rfl rfl
  exact ⟨us,s,hl,h1,h2⟩
 ·rename_i hu
  cases hc'
  obtain ⟨n,rfl⟩:=okWide_bool hu hv
  obtain ⟨s,h1,h2⟩:=hone rfl rfl
  exact ⟨us,s,hl,h1,h2⟩
 ·rename_i hu
  cases hc'
  obtain ⟨n,rfl⟩:=okWide_string hu hv
  obtain ⟨s,h1,h2⟩:=hone rfl rfl
  exact ⟨us,s,hl,h1,h2⟩
 ·rename_i e hu
  split at hc'
  ·cases hc'
   obtain ⟨a,l,c,rfl⟩:=okWide_slice hu hv
   obtain ⟨s,h1,h2⟩:=hone rfl rfl
   exact ⟨us,s,hl,h1,h2⟩
  ·cases hc'
 ·rename_i fs hu
  split at hc'
  ·cases hc'
   obtain ⟨vs,rfl,_⟩:=okWide_struct hu hv
   exact ⟨us,_,hl,rfl,vs,rfl,hR.vals⟩
  ·cases hc'
 ·rename_i hu1 hu2 hu3 hu4 hu5 hu
  unfold readOk at hr
  rw [hu] at hr
  split at hr<;>first | (rename_i hh;cases hh;simp_all) | cases hr
 ·cases hc'
def argCk (P:Program) (t:TypeId):Bool:=P.readableRec t && decide (t < P.types.size) && readOk P 8 t && (Cs P t).isSome
def argsCk (P:Program):List TypeId→Bool
 | []=>true
 | t :: ts=>argCk P t && argsCk P ts
theorem argsD_rep:∀ {ts:List TypeId} {vs:List Value} {ds:List (DataW H)} {ps:List MemPlace} {r:Reach} {b0:Nat},argsCk P ts=true→(∀ (j:Nat) t v,ts[j]? = some t→vs[j]? = some v→Value.okWide P w r b0 t v)→DataW.TrodAll enc P w base sp held ts vs ds ps→
  ds.length=ts.length∧∃ us,shapeOk P ts us∧ArgsRep P w (fun b=>b < w.heap.size) ts us vs
 | [],vs,ds,ps,_,_,_,_,h=>by
  obtain ⟨rfl,rfl,_⟩:=trodAll_nil h
  exact ⟨rfl,[],rfl,[],rfl,rfl⟩
 | t :: ts,vs,ds,ps,r,b0,hck,hv,h=>by
  obtain ⟨v0,vs0,d0,ds0,p0,q0,rfl,rfl,rfl,h0,r0⟩:=trodAll_cons h
  unfold argsCk at hck
  rw [Bool.and_eq_true] at hck
  have hck1:=hck.1
  unfold argCk at hck1
  simp only [Bool.and_eq_true] at hck1
  obtain ⟨⟨_,hck2⟩,hck3⟩:=hck1
  obtain ⟨⟨m,cs⟩,hcs⟩:=Option.isSome_iff_exists.1 hck3
  obtain ⟨u,s,h1,h2,h3⟩:=arg_rep hcs hck2 (hv 0 t v0 rfl rfl) h0
  obtain ⟨h4,us,h5,svs,h6,h7⟩:=argsD_rep hck.2 (fun j t v ht hv'=>hv (j + 1) t v (by simpa using ht) (by simpa using hv')) r0
  refine ⟨by simp [h4],u :: us,⟨u,us,m,cs,rfl,hcs,h1,h5⟩,s :: svs,?_,v0,vs0,rfl,h3,h7⟩
  unfold unflats
  rw [h2,h6]
theorem args_stay (hl:laidOutB P=true) {W W':World} (hb:Below W.heap.size W W') {sp':Nat→Bool}:∀ {ts:List TypeId} {vs:List Value} {ds:List (DataW H)} {ps:List MemPlace},argsCk P ts=true→
  DataW.TrodAll enc P W 0 (fun _=>true) true ts vs ds ps→(∀ p ∈ ps,p.block < W.heap.size)→(∀ p ∈ ps,sp' p.block=true)→DataW.TrodAll enc P W' 0 sp' true ts vs ds ps
 | [],vs,ds,ps,_,h,_,_=>by
  obtain ⟨rfl,rfl,rfl⟩:=trodAll_nil h
  exact trodAll_mk0
 | t :: ts,vs,ds,ps,hck,h,hlt,hsp=>by
  obtain ⟨v0,vs0,d0,ds0,p0,q0,rfl,rfl,rfl,h0,r0⟩:=trodAll_cons h
  unfold argsCk at hck
  rw [Bool.and_eq_true] at hck
  have hck1:=hck.1
  unfold argCk at hck1
  simp only [Bool.and_eq_true,decide_eq_true_eq] at hck1
  obtain ⟨⟨⟨hk1,hk2⟩,_⟩,_⟩:=hck1
  refine trodAll_cons_mk (WideElems.Trod_stays hl hk1 hk2 h0 (fun x hx=>hb.same (hlt x (List.mem_append.2 (.inl hx)))) (fun x hx=>hsp x (List.mem_append.2 (.inl hx)))) ?_
  exact args_stay hl hb hck.2 r0 (fun x hx=>hlt x (List.mem_append.2 (.inr hx))) (fun x hx=>hsp x (List.mem_append.2 (.inr hx)))
end
theorem law_calls {H:Type} {enc:TypeId × Value→H} {P:Program} {f:FuncId} {fn:Func} {s:ChangeSpec} {tb:TypeId} {apart handsOn:Bool} (hf:P.funcs[f]? = some fn) (hS:SpecF P f fun _=>[[.b true]]) (hrt:fn.resultTypes = #[tb]) (htb:P.underlying tb=some .bool)
  (hl:laidOutB P=true) (hck:argsCk P fn.params.toList=true) (hsv:s.vars=[]) (hs:∀ ds:List (DataW H),ds.length=fn.params.size→s.fn H ds = { results:=[.lit (.bool true)],args:=ds })
  {W:World} {base:Nat} {args:Array Value} {ds gs:List (DataW H)} {before:List MemPlace} (hval:∀ (j:Nat) t v,fn.params[j]? = some t→args[j]? = some v→Value.okWide P W .any base t v)
  (hW:DataW.Whole enc P fn.params.toList s.vars apart W args.toList ds gs before) :
  Calls P f args W fun e W'=>∃ v,e = .returned v∧s.post enc P fn apart true handsOn false W args v W':=by
 have hlt:=hW.lt
 have hW':=hW
 obtain ⟨p,q,hA,hV,rfl,_,_⟩:=hW
 rw [hsv] at hV
 obtain ⟨rfl,rfl⟩:=trodVars_none hV
 rw [List.append_nil] at hlt hW'
 obtain ⟨hlen,us,hsh,hrep⟩:=argsD_rep (enc:=enc) hck (fun j t v ht hv=>hval j t v (by simpa using ht) (by simpa using hv)) hA
 have hfn:=hS fn us hf
 have hc:=hfn.calls W (fun b=>b < W.heap.size) args.toList (fun b hb=>hb) hsh hrep
 rw [show args.toList.toArray=args by simp] at hc
 refine hc.mono fun e W' ⟨v,Z',he,hfut,_,_,_,svs,hsvs,hres⟩=>⟨v,he,?_⟩
 have hb:Below W.heap.size W W':=⟨hfut.os,hfut.tape,hfut.output,hfut.size,fun k hk=>hfut.block k hk (fun h=>h)⟩
 have hcb:Cs P tb=some (false,[.bool]):=by simp [Cs,cts,htb]
 have hv:v = .bool true:=by
  rw [hrt] at hsvs
  have:unflats P [tb] [[U.b true]]=some [.val .bool (.b true)]:=by
   unfold unflats unflat
   rw [hcb]
   rfl
  have h2:unflats P (#[tb]:Array TypeId).toList [[U.b true]]=some [.val .bool (.b true)]:=this
  rw [h2] at hsvs
  cases hsvs
  exact hres
 subst hv
 have hsfn:s.fn H (ds ++ []) = { results:=[.lit (.bool true)],args:=ds }:=by
  rw [List.append_nil];exact hs ds (by rw [hlen];simp)
 refine ⟨ds,[],p,[],p,[],hW',?_,?_,?_,hb.frame _,fun h=>by cases h⟩
 ·rw [hsfn,hrt]
  exact trodAll_cons_mk (shut_bool htb true) trodAll_mk0
 ·rw [hsfn]
  exact args_stay hl hb hck hA hlt fun x hx=>by simpa using hlt x hx
 ·rw [hsfn,hsv]
  exact rfl
end Go.Den

namespace Go.Den
open Go Go.RowKit
section
variable {C:Ctx} {Θ:Anc} {n:Nat} {σ:St} {a:Act} {w:World} {Z:Nat→Prop} {G:Nat→Value}
end
theorem put_size {a:Act} {d:Option Nat} {v:Value}:(a.put d v).tmps.size=a.tmps.size:=by
 cases d with
 | none=>rfl
 | some t=>simp [Act.put]
theorem put_same {a:Act} {t:Nat} {v:Value} (h:t < a.tmps.size):(a.put (some t) v).eval (.tmp t)=v:=by
 simp [Act.put,Act.eval,Array.getD_eq_getD_getElem?,h]
def renE (m:List (Nat × Nat)):List (Nat × SV)→List (Nat × SV)
 | []=>[]
 | (t,v) :: r=>(t,v.ren m) :: renE m r
theorem get_renE (m:List (Nat × Nat)):∀ (l:List (Nat × SV)) (t:Nat),get (renE m l) t=(get l t).ren m
 | [],_=>rfl
 | (k,v) :: r,t=>by
  show (bif Nat.beq k t then v.ren m else get (renE m r) t)=SV.ren m (bif Nat.beq k t then v else get r t)
  cases Nat.beq k t with
  | true=>rfl
  | false=>exact get_renE m r t
section
variable {P:Program} {Θ:Anc} {n:Nat} {σ:St} {a:Act} {w:World} {Z:Nat→Prop} {G:Nat→Value}
theorem Sim.rename (S:Sim P Θ n σ a w Z G) {m:List (Nat × Nat)} (h1:nodupB (fsts m)=true) (h2:nodupB (snds m)=true) {a':Act} (ht:a'.tmps=a.tmps) :
  ∃ G',(∀ i j,lk m i=some j→G' j=G i)∧Sim P ⟨Θ.w,Θ.M,Θ.N,Θ.Z0,Θ.kb,Θ.ka,G',a'.defers⟩ n ⟨renE m σ.env,pickR σ.objs m m⟩ a' w Z G':=by
 let G':Nat→Value:=fun j=>match lk (swaps m) j with | some i=>G i | none=>.pointer none
 have hG:∀ i j,lk m i=some j→G' j=G i:=fun i j hij=>by show (match lk (swaps m) j with | some i=>G i | none=>.pointer none)=_;rw [lk_swaps h2 hij]
 have hpk:∀ j o',getO (pickR σ.objs m m) j=some o'→∃ i p,lk m i=some j∧getO σ.objs i=some p∧o' = p.ren m∧G' j=G i:=fun j o' hj=>by
  obtain ⟨i,p,h3,h4,h5⟩:=getO_pickR hj
  exact ⟨i,p,lk_of_mem h1 h3,h4,h5,hG i j (lk_of_mem h1 h3)⟩
 refine ⟨G',hG,?_⟩
 exact
  {size:=by rw [ht];exact S.size
   calm:=rfl
   slot:=fun t=>by
    show RepSV w Z G' (get (renE m σ.env) t) (a'.tmps.getD t undef)
    rw [get_renE,ht]
    exact RepSV.ren hG _ _ (S.slot t)
   obj:=fun j o' hj=>by
    obtain ⟨i,p,h3,h4,rfl,_⟩:=hpk j o' hj
    exact RepO.ren hG h3 (S.obj i p h4)
   sep:=fun j j' o1 o2 b hj hj' hb hb'=>by
    obtain ⟨i,p,g1,g2,_,g3⟩:=hpk j o1 hj
    obtain ⟨i',p',g1',g2',_,g3'⟩:=hpk j' o2 hj'
    rw [g3] at hb
    rw [g3'] at hb'
    have:=S.sep i i' p p' b g2 g2' hb hb'
    subst this
    rw [g1] at g1'
    exact Option.some.inj g1'
   free:=fun j o' b hj hb=>by
    obtain ⟨i,p,g1,g2,_,g3⟩:=hpk j o' hj
    rw [g3] at hb
    exact S.free i p b g2 hb
   keep:=fun j o' b hj hb hN=>by
    obtain ⟨i,p,g1,g2,rfl,g3⟩:=hpk j o' hj
    rw [g3] at hb
    have:=S.keep i p b g2 hb hN
    cases p<;>exact this
   nlt:=S.nlt
   lt:=S.lt
   fut:=S.fut
   new:=S.new
   sub:=S.sub
   flat:=fun j=>by
    show (match lk (swaps m) j with | some i=>G i | none=>Value.pointer none).oneCell' = true
    split
    ·exact S.flat _
    ·rfl
   odd:=fun _ _=>rfl
   row:=S.row }
end
end Go.Den

namespace Go.Den
open Go Go.RowKit
def outL:Out→List SV
 | .ret rs=>rs
 | .pan v=>[v]
def outV (out:Out):SV:=.agg (outL out)
def outAs:Out→List SV→Option Out
 | .ret _,l=>some (.ret l)
 | .pan _,[v]=>some (.pan v)
 | .pan _,_=>none
def outB (out:Out) (sv:SV) (k:Out→Prop):Prop:=match sv with
 | .agg l=>match outAs out l with
  | some o=>k o
  | none=>False
 | _=>False
def frzT (P:Program) (l:List Nat) (F:Tr):Tr:=fun vs objs R=>F vs objs fun out objs'=>
 match (St.mk [(0,outV out)] objs').freezes P l with
 | some σ=>outB out (get σ.env 0) fun out=>R out σ.objs
 | none=>False
theorem FnTr.frz {P:Program} {f:FuncId} {fn:Func} {F:Tr} (h:FnTr P f fn F) (l:List Nat):FnTr P f fn (frzT P l F) where
 body:=h.body
 name:=h.name
 calls:=by
  intro vs objs R hcan hF w Z G args hargs hst
  refine (h.calls vs objs _ hcan hF w Z G args hargs hst).mono ?_
  rintro e w' ⟨out,objs',Z',G',hR,hout,A⟩
  split at hR
  case h_2=>exact hR.elim
  rename_i σ hfr
  obtain ⟨ov,hov⟩:∃ ov:List Value,RepSVs w' Z' G' (outL out) ov∧(∀ (Z2:Nat→Prop) (out2:List SV) (o2:Out),RepSVs w' Z2 G' out2 ov→outAs out out2=some o2→RepOut w' Z2 G' o2 e):=by
   cases out with
   | ret rs=>
    match rs,hout with
    | [s],⟨v,he,hv⟩=>
     refine ⟨[v],⟨v,[],rfl,hv,rfl⟩,?_⟩
     intro Z2 out2 o2 h2 h3
     cases h3
     match out2,h2 with
     | [],h2=>cases h2
     | [s2],h2=>
      obtain ⟨v2,t2,hvt,hv2,ht2⟩:=h2
      cases hvt
      exact ⟨v,he,hv2⟩
     | s2 :: s3 :: r,h2=>
      obtain ⟨v2,t2,hvt,hv2,ht2⟩:=h2
      cases hvt
      obtain ⟨v3,t3,hvt,_⟩:=ht2
      cases hvt
    | [],⟨v,he,hv⟩=>
     obtain ⟨xs,rfl,hxs⟩:=hv
     refine ⟨xs.toList,hxs,?_⟩
     intro Z2 out2 o2 h2 h3
     cases h3
     have h0:xs.toList=[]:=hxs
     rw [h0] at h2
     match out2,h2 with
     | [],h2=>exact ⟨_,he,xs,rfl,h0⟩
     | s2 :: r,h2=>
      obtain ⟨v2,t2,hvt,_⟩:=h2
      cases hvt
    | s :: s' :: rs,⟨v,he,hv⟩=>
     obtain ⟨xs,rfl,hxs⟩:=hv
     refine ⟨xs.toList,hxs,?_⟩
     intro Z2 out2 o2 h2 h3
     cases h3
     obtain ⟨v1,t1,hvt,_,v2,t2,rfl,_,_⟩:=hxs
     rw [hvt] at h2
     match out2,h2 with
     | [],h2=>cases h2
     | [s2],h2=>
      obtain ⟨v3,t3,hvt3,_,ht3⟩:=h2
      cases hvt3
      cases ht3
     | s2 :: s3 :: r,h2=>exact ⟨_,he,xs,rfl,by rw [hvt];exact h2⟩
   | pan s=>
    obtain ⟨v,he,hv⟩:=hout
    refine ⟨[v],⟨v,[],rfl,hv,rfl⟩,?_⟩
    intro Z2 out2 o2 h2 h3
    match out2,h2,h3 with
    | [],_,h3=>cases h3
    | [s2],h2,h3=>
     cases h3
     obtain ⟨v2,t2,hvt,hv2,_⟩:=h2
     cases hvt
     exact ⟨v,he,hv2⟩
    | _ :: _ :: _,_,h3=>cases h3
  obtain ⟨hov1,hov2⟩:=hov
  have S:Sim P ⟨w',fun b=>∃ id o,getO objs' id=some o∧blk (G' id)=some b,fun _=>False,Z',false,false,G',[]⟩ 1 ⟨[(0,outV out)],objs'⟩ { tmps:=#[.agg ov.toArray],defers:=[] } w' Z' G':=
   {size:=rfl
    calm:=rfl
    slot:=fun t=>by
     by_cases ht:t=0
     ·subst ht
      show RepSV w' Z' G' (outV out) (.agg ov.toArray)
      exact ⟨_,rfl,by simpa using hov1⟩
     ·show RepSV w' Z' G' (get [(0,outV out)] t) _
      rw [get_cons,if_neg (Ne.symm ht)]
      trivial
    obj:=A.stand.obj
    sep:=A.stand.sep
    free:=fun id o b h1 h2=>⟨A.stand.free id o b h1 h2,.inl ⟨id,o,h1,h2⟩⟩
    keep:=fun _ _ _ _ _ h=>h.elim
    nlt:=fun _ h=>h.elim
    lt:=A.stand.lt
    fut:=Fut.refl _ w'
    new:=fun b hb=>.inl hb
    sub:=fun b hb=>hb
    flat:=A.stand.flat
    odd:=fun _ _=>rfl
    row:=fun _ hb=>.inl hb }
  obtain ⟨Z1,S1⟩:=freezes_sim S hfr
  have hslot:=S1.slot 0
  have hold:∀ b,(∃ id o,getO objs' id=some o∧blk (G' id)=some b)→Blocks G objs b∨w.heap.size≤b:=fun b ⟨id,o,h1,h2⟩=>A.own id o b h1 h2
  have A1:After P w Z G objs w' Z1 G' σ.objs:=
   {stand:=
     {lt:=S1.lt
      flat:=S1.flat
      obj:=S1.obj
      sep:=S1.sep
      free:=fun id o b h1 h2=>(S1.free id o b h1 h2).1 }
    fut:=A.fut
    sub:=fun b hb=>S1.sub b (A.sub b hb)
    new:=fun b hb=>by
     rcases S1.new b hb with h1 | h1 | h1 | h1
     ·exact A.new b h1
     ·exact .inr (hold b h1)
     ·exact h1.elim
     ·have:=S1.lt b hb
      exact absurd this (by simpa using h1)
    row:=fun b hb=>(S1.row b hb).elim (A.row b) .inr
    own:=fun id o b h1 h2=>by
     rcases (S1.free id o b h1 h2).2 with h3 | h3 | h3
     ·exact hold b h3
     ·exact h3.elim
     ·have h4:=RepO.lt S1 h1 h2
      exact absurd h4 (by simpa using h3)
    keep:=A.keep }
  have hs:RepSV w' Z1 G' (get σ.env 0) (.agg ov.toArray):=hslot
  unfold outB at hR
  split at hR
  case h_2=>exact hR.elim
  rename_i l hl
  split at hR
  case h_2=>exact hR.elim
  rename_i o2 ho2
  rw [hl] at hs
  obtain ⟨vs2,hv2,hr2⟩:=hs
  injection hv2 with hv2
  subst hv2
  have hr2:RepSVs w' Z1 G' l ov:=by simpa using hr2
  exact ⟨_,_,Z1,G',hR,hov2 Z1 l o2 hr2 ho2,A1⟩
theorem SpecT.frz {P:Program} {f:FuncId} {F:Tr} (h:SpecT P f F) (l:List Nat):SpecT P f (frzT P l F):=fun fn hf=>(h fn hf).frz l
end Go.Den

namespace Go.Den
open Go Go.RowKit
def RegIs (c:Code) (l:List (Option Nat × Op)):Prop:=∃ id ops,c = .region id ops false∧ops.toList.map (fun o=>(o.dst,o.op))=l∧ops.toList.all (fun o=>o.guard.isNone)=true
def wpL (P:Program) (Q:Exit→Act→World→Prop):List (Option Nat × Op)→(Act→World→Prop)→Act→World→Prop
 | [],K,a,w=>K a w
 | (d,op) :: r,K,a,w=>∀ o:Oper,o.dst=d→o.op=op→o.wp P a w (fun a' w'=>wpL P Q r K a' w') Q
section
variable {P:Program} {a:Act} {w:World} {Q:Exit→Act→World→Prop}
theorem wp_regIs {c:Code} {l:List (Option Nat × Op)} (h:RegIs c l) (hl:wpL P Q l (fun a w=>Q .normal a w) a w):c.wp P Q a w:=by
 obtain ⟨id,ops,rfl,rfl,hg⟩:=h
 refine wp_region ?_
 have key:∀ (l:List Oper) (i:Nat) (a:Act) (w:World),ops.toList.drop i=l→(∀ o ∈ l,o.guard=none)→wpL P Q (l.map fun o=>(o.dst,o.op)) (fun a w=>Q .normal a w) a w→wpOps P ops Q (List.range' i l.length) a w:=by
  intro l
  induction l with
  | nil=>intro i a w _ _ h;exact h
  | cons o l ih=>
   intro i a w hd hgs h
   have hi:ops[i]? = some o:=by
    rw [← Array.getElem?_toList]
    have:=List.getElem?_drop (xs:=ops.toList) (i:=i) (j:=0)
    rw [hd] at this
    simpa using this.symm
   rw [List.length_cons,List.range'_succ,wpOps_cons]
   simp only [wpOp,hi]
   have hw:Region.wanted o (yielded ops a.tmps)=true:=by simp [Region.wanted,hgs o (List.mem_cons_self ..)]
   rw [if_pos hw]
   have h:∀ o':Oper,o'.dst=o.dst→o'.op=o.op→o'.wp P a w (fun a' w'=>wpL P Q (l.map fun o=>(o.dst,o.op)) (fun a w=>Q .normal a w) a' w') Q:=h
   refine .inl ?_
   have h2:=h o rfl rfl
   have hext:(fun a' w'=>wpL P Q (l.map fun o=>(o.dst,o.op)) (fun a w=>Q .normal a w) a' w')=(fun a' w'=>wpL P Q (l.map fun o=>(o.dst,o.op)) (fun a w=>Q .normal a w) a' w'):=rfl
   have hd':ops.toList.drop (i + 1)=l:=by rw [← List.tail_drop,hd];rfl
   have hmono:∀ (K K':Act→World→Prop),(∀ a w,K a w→K' a w)→o.wp P a w K Q→o.wp P a w K' Q:=by
    intro K K' hKK h
    unfold Oper.wp Oper.upon at h ⊢
    split<;>rename_i hr<;>simp only [hr] at h
    ·exact hKK _ _ h
    ·exact hKK _ _ h
    ·exact hKK _ _ h
    ·exact h.mono fun e w' he=>by
      cases e with
      | returned v=>exact hKK _ _ he
      | panicked c=>exact he
      | outgrown=>exact he
    ·exact h.mono fun v w' he=>hKK _ _ he
    ·exact h
   exact hmono _ _ (fun a' w' h3=>ih (i + 1) a' w' hd' (fun o ho=>hgs o (List.mem_cons_of_mem _ ho)) h3) h2
 have hall:∀ o ∈ ops.toList,o.guard=none:=fun o ho=>by
  have:=List.all_eq_true.1 hg o ho
  exact Option.isNone_iff_eq_none.1 this
 have:=key ops.toList 0 a w (by simp) hall hl
 rw [List.range_eq_range']
 simpa using this
theorem ev_put {d t:Nat} {v:Value} (h:d < a.tmps.size):(a.put (some d) v).eval (.tmp t)=if d=t then v else a.eval (.tmp t):=by
 by_cases e:d=t
 ·subst e;rw [if_pos rfl];exact put_same h
 ·rw [if_neg e]
  simp [Act.put,Act.eval,Array.getD_eq_getD_getElem?,Array.getElem?_setIfInBounds_ne e]
theorem size_put {d:Option Nat} {v:Value}:(a.put d v).tmps.size=a.tmps.size:=put_size
theorem defers_put {d:Option Nat} {v:Value}:(a.put d v).defers=a.defers:=by cases d<;>rfl
end
structure Spoil (J:Nat→Prop) (w w':World):Prop where
 os:w'.os=w.os
 tape:w'.tape=w.tape
 output:w'.output=w.output
 size:w'.heap.size=w.heap.size
 block:∀ k,¬ J k→w'.heap[k]? = w.heap[k]?
 cell:∀ p v,w.cell? p=some v→w'.cell? p=some v∨∃ i j,v = .int .i64 i∧w'.cell? p=some (.int .i64 j)
 row:∀ b,Plain w b→Plain w' b
theorem Spoil.store {P:Program} {J:Nat→Prop} {w:World} {t:TypeId} {b o:Nat} {i j:Int} (ht:sizeT P t=some 1) (hJ:J b) (hp:Plain w b) (hc:w.cell? ⟨b,o,none⟩=some (.int .i64 i)) :
  ∃ w',(storeVar t ⟨b,o,none⟩ (.int .i64 j)).run P w = .ok () w'∧Spoil J w w':=by
 obtain ⟨c,ty,hb⟩:=hp
 have hlt:o < c.size:=by
  rw [cell_of_row w b o c ty (0,0) hb] at hc
  exact (Array.getElem?_eq_some_iff.1 hc).1
 have hrun:=run_storeVar_block (P:=P) (w:=w) (t:=t) (k:=1) (b:=b) (o:=o) (ty:=ty) (cur:=c) (v:=.int .i64 j) ht rfl (fun u hu=>by
  have:u = .int .i64 j:=by simpa [Value.cells] using hu
  subst this;rfl) hb (by omega)
 refine ⟨_,hrun,?_⟩
 have hcs:(Value.int .i64 j).cells.toList=[.int .i64 j]:=rfl
 rw [hcs]
 obtain ⟨h1,h2,h3,h4⟩:=setCells_plain b [.int .i64 j] o w
 obtain ⟨cur',g1,g2,g3⟩:=setCells_block b ty [.int .i64 j] o w c hb (by simp;omega)
 have hother:∀ k,k≠b→(w.setCells b o [.int .i64 j]).heap[k]? = w.heap[k]?:=fun k hk=>setCells_other b _ o w k hk
 refine ⟨h1,h2,h3,h4,fun k hk=>hother k (fun e=>hk (e ▸ hJ)),fun p v hv=>?_,fun b' hb'=>?_⟩
 ·have hs:w.setCells b o [.int .i64 j]=w.setCell ⟨b,o,none⟩ (.int .i64 j):=rfl
  rw [hs]
  by_cases hpe:p=⟨b,o,none⟩
  ·subst hpe
   rw [hc] at hv
   cases hv
   exact .inr ⟨i,j,rfl,World.cell?_setCell_same _ _ _ hc⟩
  ·refine .inl ?_
   rw [World.cell?_setCell_other _ _ _ _ (Ne.symm hpe)]
   exact hv
 ·by_cases e:b' = b
  ·subst e;exact ⟨cur',ty,g1⟩
  ·exact hb'.of (hother b' e)
end Go.Den

namespace Go.Den
open Go Go.RowKit
section
variable {C:Ctx} {Θ:Anc} {n:Nat}
end
theorem exec_soundH {C:Ctx} {Θ:Anc} {n:Nat} (hC:C.Ok) (hkb:Θ.kb=false) (hka:Θ.ka=false) (hN:∀ b,¬ Θ.N b) {code:Code} {Q:Exit→Act→World→Prop} (hp:Pans C Θ n Q) (hQ:∀ c a w d v,Q (.panic c) (a.put d v) w→Q (.panic c) a w) {σ:St} {a:Act} {w:World} {Z:Nat→Prop} {G:Nat→Value}
  (hok:codeOk n code=true) (hl:loopsOf code 0=[]) (S:Sim C.P Θ n σ a w Z G) {k:Ex→St→Prop} (h:Holds (exec C code 0 σ k)) (hk:∀ e σ' a' w' Z' G',k e σ'→Sim C.P Θ n σ' a' w' Z' G'→Q (toExit e) a' w'):code.wp C.P Q a w:=
 exec_sound hC hkb hka hN code 0 hok (loopsOk_of fun p hp=>by rw [hl] at hp;cases hp) S h.out hk hp (fun _=>hQ)
def Ends (P:Program) (fn:Func) (rs:List (List U)) (w:World) (Z:Nat→Prop):Ending→World→Prop:=fun e w'=>
 ∃ v Z',e = .returned v∧Fut (fun _=>False) w w'∧(∀ b,Z b→Z' b)∧(∀ b,Z' b→Z b∨(w.heap.size≤b∧Plain w' b))∧(∀ b,Z' b→b < w'.heap.size)∧
   ∃ svs,unflats P fn.resultTypes.toList rs=some svs∧RepRes w' Z' svs v
def IntRow (w:World) (J:Nat→Prop) (sz:Nat) (n:Nat) (v:Value):Prop:=∃ A c,v = .slice A n c∧n≤maxLen∧∀ k,k < n→∃ b o,A=some ⟨b,o,none⟩∧J b∧Plain w b∧∃ i,w.cell? ⟨b,o + k * sz,none⟩=some (.int .i64 i)
theorem IntRow.ne {J:Nat→Prop} {w:World} {sz n:Nat} {v:Value} (h:IntRow w J sz n v):∀ i,v≠.int .i64 i:=by
 obtain ⟨A,c,rfl,_⟩:=h
 intro i e
 cases e
end Go.Den

namespace Go.Den
open Go Go.RowKit
abbrev wideR (ro:Option Nat):Fence:={ fn:=fun _=>True,depth:=none,alive:=false,round:=ro }
def isDefer (o:Oper):Bool:=match o.op with | .defer _=>true | _=>false
theorem not_defer {o:Oper} (h:isDefer o=false):∀ c,o.op≠.defer c:=fun c e=>by
 unfold isDefer at h
 rw [e] at h
 cases h
section
variable {P:Program} {ops:Array Oper} {Q:Exit→Act→World→Prop} {ro:Option Nat} {m:Nat}
theorem calls_in {f:FuncId} {args:Array Value} {w:World} {R:Ending→World→Prop} (h:Calls P f args w R):CallsIn (wideR ro) m P f args w R:=
 ⟨trivial,fun cs _=>let ⟨e,w',fr,r,s,x⟩:=h cs;⟨e,w',fr,r,comesIn_wide.2 s,x⟩⟩
theorem oper_in {o:Oper} {a:Act} {w:World} {K:Act→World→Prop} (hd:∀ c,o.op≠.defer c) (h:o.wp P a w K Q):o.wpIn (wideR ro) m P a w K Q:=by
 refine ⟨fun _ _=>trivial,?_⟩
 rw [Oper.semAt_eq _ _ _ hd]
 unfold Oper.wp at h
 generalize (execOp a.eval o).run P w=r at h ⊢
 cases r with
 | ok x w'=>
  cases x<;>first | exact h | exact ⟨fun h=>by simp at h,calls_in (h.mono fun e w'' he=>by cases e<;>exact he)⟩ | exact ⟨fun h=>by simp at h,fun c cs _=>let ⟨v,w',r,s⟩:=h c cs;⟨v,w',r,stepsIn_wide.2 s⟩⟩ | exact h.elim
 | halt x w'=>cases x<;>first | exact h | exact h.elim
theorem op_in {i:Nat} {K:Act→World→Prop} {a:Act} {w:World} (hd:∀ o,ops[i]? = some o→isDefer o=false) (hQ:∀ a w,¬ Q .outgrown a w) (h:wpOp P ops Q i K a w):wpOpIn (wideR ro) m P ops Q i K a w:=by
 unfold wpOp at h
 unfold wpOpIn
 cases hi:ops[i]? with
 | none=>rw [hi] at h;exact h
 | some o=>
  rw [hi] at h
  simp only at h ⊢
  by_cases hw:Region.wanted o (yielded ops a.tmps)
  ·rw [if_pos hw] at h ⊢
   rcases h with h | ⟨_,a,w,h⟩
   ·exact oper_in (not_defer (hd o hi)) h
   ·exact (hQ a w h).elim
  ·rw [if_neg hw] at h ⊢
   exact ⟨fun _ _=>trivial,h⟩
end
section
variable {C:Ctx} {Θ:Anc} {n:Nat}
theorem execOps_to (hC:C.Ok) {Q:Exit→Act→World→Prop} (hp:Pans C Θ n Q) (hkb:Θ.kb=false) (hka:Θ.ka=false) (hQ:∀ a w,¬ Q .outgrown a w) {ops:Array Oper} (hdef:ops.toList.all (fun o=>!isDefer o)=true) {k:St→Prop} {ro:Option Nat} {m:Nat} {rest:List Nat}
  (hk:∀ σ' a' w' Z' G',k σ'→Sim C.P Θ n σ' a' w' Z' G'→wpOpsIn (wideR ro) m C.P ops Q rest a' w') :
  ∀ (l:List Oper) (i:Nat) {σ:St} {a:Act} {w:World} {Z:Nat→Prop} {G:Nat→Value},(∀ j,j < l.length→ops[i + j]? = l[j]?)→opersOk n l=true→Sim C.P Θ n σ a w Z G→execOps C ops.toList l σ k→
   wpOpsIn (wideR ro) m C.P ops Q (List.range' i l.length ++ rest) a w
 | [],i,σ,a,w,Z,G,_,_,S,h=>hk _ _ _ _ _ h S
 | o :: l,i,σ,a,w,Z,G,hl,hok,S,h=>by
  unfold opersOk at hok
  split at hok
  ·rename_i hoo
   have hi:ops[i]? = some o:=by simpa using hl 0 (by simp)
   rw [List.length_cons,List.range'_succ,List.cons_append,wpOpsIn_cons]
   refine op_in (fun o' ho'=>?_) hQ (one_sound hC hi hoo (by simp [Anc.lets,hkb,hka]) S h (fun σ' a' w' Z' G' h' S'=>execOps_to hC hp hkb hka hQ hdef hk l (i + 1) (fun j hj=>?_) hok S' h') (fun s σ' w' Z' G' v h' S' hr=>hp s σ' _ w' Z' G' v h' S' hr))
   ·have hm:o' ∈ ops.toList:=by
     have:=Array.mem_of_getElem? ho'
     simpa using this
    have:=List.all_eq_true.1 hdef o' hm
    simpa using this
   ·have:=hl (j + 1) (by simpa using hj)
    rw [List.getElem?_cons_succ] at this
    rw [← this]
    congr 1
    omega
  ·cases hok
theorem region_in (hC:C.Ok) {Q:Exit→Act→World→Prop} (hp:Pans C Θ n Q) (hkb:Θ.kb=false) (hka:Θ.ka=false) (hQ:∀ a w,¬ Q .outgrown a w) {id:Nat} {ops:Array Oper} (hdef:ops.toList.all (fun o=>!isDefer o)=true) (hok:opersOk n ops.toList=true) {k:St→Prop} {ro:Option Nat} {m:Nat}
  (hk:∀ σ' a' w' Z' G',k σ'→Sim C.P Θ n σ' a' w' Z' G'→Q .normal a' w') {σ:St} {a:Act} {w:World} {Z:Nat→Prop} {G:Nat→Value} (S:Sim C.P Θ n σ a w Z G) (h:execOps C ops.toList ops.toList σ k) :
  (Code.region id ops false).wpIn (wideR ro) m C.P Q a w:=by
 refine wpIn_region ?_
 have:=execOps_to hC hp hkb hka hQ hdef (ro:=ro) (m:=m) (rest:=[]) hk ops.toList 0 (fun j _=>by simp) hok S h
 rw [List.append_nil] at this
 rw [List.range_eq_range']
 simpa using this
end
def okN (p : Nat → Bool) : SV → Bool
  | .own i => p i
  | .ptr i _ => p i
  | .aptr i _ _ _ => p i
  | .osl i _ _ => p i
  | .mp i => p i
  | .agg cs => okNs p cs
  | .tup cs => okNs p cs
  | .clo _ cs => okNs p cs
  | .ifc _ v => okN p v
  | _ => true
  where okNs (p : Nat → Bool) : List SV → Bool
    | [] => true
    | v :: r => okN p v && okNs p r
mutual
theorem RepSV.okN {w:World} {Z:Nat→Prop} {G G':Nat→Value} {p:Nat→Bool} (H:∀ i,p i=true→G' i=G i):∀ (s:SV) (v:Value),okN p s=true→RepSV w Z G s v→RepSV w Z G' s v
 | .val _ _,_,_,h=>h
 | .agg cs,v,hp,⟨vs,h1,h2⟩=>⟨vs,h1,RepSVs.okN H cs _ hp h2⟩
 | .nil,_,_,h=>h
 | .own i,v,hp,h=>h.trans (H i hp).symm
 | .ptr i o,v,hp,⟨b,h1,h2⟩=>⟨b,(H i hp).trans h1,h2⟩
 | .aptr i sz j o,v,hp,⟨b,n,c,h1,h2⟩=>⟨b,n,c,(H i hp).trans h1,h2⟩
 | .osl i j z,v,hp,h=>by
  have h:v=slFrom j z (G i):=h
  show v=slFrom j z (G' i)
  rw [h,H i hp]
 | .rptr _ _,_,_,h=>h
 | .nilp,_,_,h=>h
 | .tup cs,v,hp,⟨vs,h1,h2⟩=>⟨vs,h1,RepSVs.okN H cs _ hp h2⟩
 | .clo f cs,v,hp,⟨vs,h1,h2⟩=>⟨vs,h1,RepSVs.okN H cs _ hp h2⟩
 | .mp i,v,hp,⟨b,h1,h2⟩=>⟨b,(H i hp).trans h1,h2⟩
 | .ifc t s,v,hp,⟨x,h1,h2⟩=>⟨x,h1,RepSV.okN H s x hp h2⟩
 | .nili,_,_,h=>h
 | .und,_,_,h=>h
 | .unk,_,_,h=>h
theorem RepSVs.okN {w:World} {Z:Nat→Prop} {G G':Nat→Value} {p:Nat→Bool} (H:∀ i,p i=true→G' i=G i):∀ (l:List SV) (vs:List Value),okN.okNs p l=true→RepSVs w Z G l vs→RepSVs w Z G' l vs
 | [],_,_,h=>h
 | s :: r,vs,hp,⟨v,t,h1,h2,h3⟩=>by
  unfold okN.okNs at hp
  rw [Bool.and_eq_true] at hp
  exact ⟨v,t,h1,RepSV.okN H s v hp.1 h2,RepSVs.okN H r t hp.2 h3⟩
end
def noN:Nat→Bool:=fun _=>false
def okE (p:Nat→Bool):List (Nat × SV)→Bool
 | []=>true
 | (_,s) :: r=>Den.okN p s && okE p r
theorem okE_get {p:Nat→Bool}:∀ {env:List (Nat × SV)} (t:Nat),okE p env=true→Den.okN p (get env t)=true
 | [],_,_=>rfl
 | (k,s) :: r,t,h=>by
  unfold okE at h
  rw [Bool.and_eq_true] at h
  rw [get_cons]
  split
  ·exact h.1
  ·exact okE_get t h.2
section
variable {P:Program} {Θ:Anc} {n:Nat} {σ:St} {a:Act} {w w':World} {Z:Nat→Prop} {G:Nat→Value}
theorem Sim.other {K:Nat→Prop} (S:Sim P Θ n σ a w Z G) (F:Fut K w w') (hK:∀ b,K b→Θ.w.heap.size≤b∧¬ Z b∧∀ id o,getO σ.objs id=some o→blk (G id)≠some b):Sim P Θ n σ a w' Z G:=
 have T:Stays w w' Z Z:=⟨fun _ h=>h,fun b hb=>F.block b (S.lt b hb) (fun h=>(hK b h).2.1 hb)⟩
 {S with
  slot:=fun t=>RepSV.mono T _ _ (S.slot t)
  obj:=fun id o ho=>RepO.mono T (fun b hb=>F.block b (RepO.lt S ho hb) (fun h=>(hK b h).2.2 id o ho hb)) (S.obj id o ho)
  lt:=fun b hb=>Nat.lt_of_lt_of_le (S.lt b hb) F.size
  fut:=S.fut.trans F (fun _ h=>h) (fun i hi h=>by have:=(hK i h).1;omega)
  row:=fun b hb=>(S.row b hb).imp id fun h=>h.of (F.block b (S.lt b hb) (fun h=>(hK b h).2.1 hb)) }
theorem Sim.rebase (S:Sim P Θ n σ a w Z G) {a':Act} (ht:a'.tmps=a.tmps):Sim P ⟨w,Blocks G σ.objs,fun _=>False,Z,false,false,Θ.G0,a'.defers⟩ n σ a' w Z G where
 size:=by rw [ht];exact S.size
 calm:=rfl
 slot:=fun t=>by rw [ht];exact S.slot t
 obj:=S.obj
 sep:=S.sep
 free:=fun id o b h1 h2=>⟨(S.free id o b h1 h2).1,.inl ⟨id,o,h1,h2⟩⟩
 keep:=fun _ _ _ _ _ h=>h.elim
 nlt:=fun _ h=>h.elim
 lt:=S.lt
 fut:=Fut.refl _ w
 new:=fun _ h=>.inl h
 sub:=fun _ h=>h
 flat:=S.flat
 odd:=S.odd
 row:=fun _ h=>.inl h
theorem Sim.unbase (S:Sim P Θ n σ a w Z G) (hN:∀ b,¬ Θ.N b) {ds:List Deferred} {n2:Nat} {σ2:St} {a2:Act} {w2:World} {Z2:Nat→Prop} {G2:Nat→Value}
  (S2:Sim P ⟨w,Blocks G σ.objs,fun _=>False,Z,false,false,Θ.G0,ds⟩ n2 σ2 a2 w2 Z2 G2):Sim P { Θ with ds:=ds } n2 σ2 a2 w2 Z2 G2 where
 size:=S2.size
 calm:=S2.calm
 slot:=S2.slot
 obj:=S2.obj
 sep:=S2.sep
 free:=fun id o b h1 h2=>by
  obtain ⟨h3,h4⟩:=S2.free id o b h1 h2
  refine ⟨h3,?_⟩
  rcases h4 with ⟨i,p,h5,h6⟩ | h4 | h4
  ·exact (S.free i p b h5 h6).2
  ·exact h4.elim
  ·exact .inr (.inr (Nat.le_trans S.fut.size h4))
 keep:=fun _ _ b _ _ h=>(hN b h).elim
 nlt:=fun b h=>(hN b h).elim
 lt:=S2.lt
 fut:=S.fut.trans S2.fut (fun _ h=>h) (fun i hi ⟨id,p,h5,h6⟩=>by
  rcases (S.free id p i h5 h6).2 with h | h | h
  ·exact h
  ·exact (hN i h).elim
  ·omega)
 new:=fun b hb=>by
  rcases S2.new b hb with h | ⟨i,p,h5,h6⟩ | h | h
  ·exact S.new b h
  ·rcases (S.free i p b h5 h6).2 with h | h | h
   ·exact .inr (.inl h)
   ·exact (hN b h).elim
   ·exact .inr (.inr (.inr h))
  ·exact h.elim
  ·exact .inr (.inr (.inr (Nat.le_trans S.fut.size h)))
 sub:=fun b hb=>S2.sub b (S.sub b hb)
 flat:=S2.flat
 odd:=S2.odd
 row:=fun b hb=>by
  rcases S2.row b hb with h | h
  ·rcases S.row b h with h' | h'
   ·exact .inl h'
   ·exact .inr (h'.of (S2.fut.block b (S.lt b h) (fun ⟨i,p,h5,h6⟩=>(S.free i p b h5 h6).1 h)))
  ·exact .inr h
theorem Sim.stays (S:Sim P Θ n σ a w Z G) {ds:List Deferred} {n2:Nat} {σ2:St} {a2:Act} {w2:World} {Z2:Nat→Prop} {G2:Nat→Value}
  (S2:Sim P ⟨w,Blocks G σ.objs,fun _=>False,Z,false,false,Θ.G0,ds⟩ n2 σ2 a2 w2 Z2 G2):Stays w w2 Z Z2:=
 ⟨S2.sub,fun b hb=>S2.fut.block b (S.lt b hb) (fun ⟨i,p,h5,h6⟩=>(S.free i p b h5 h6).1 hb)⟩
def setE (env:List (Nat × SV)):List (Nat × SV)→List (Nat × SV)
 | []=>env
 | (t,s) :: r=>setE ((t,s) :: env) r
theorem Sim.sets:∀ (l:List (Nat × SV)) (vs:List Value) {env:List (Nat × SV)} {objs:Objs} {a:Act},Sim P Θ n ⟨env,objs⟩ a w Z G→RepSVs w Z G (l.map (·.2)) vs→(∀ x ∈ l,x.1 < n)→
  Sim P Θ n ⟨setE env l,objs⟩ { a with tmps:=((l.map (·.1)).zip vs).foldl (fun t (p,v)=>t.setIfInBounds p v) a.tmps } w Z G
 | [],_,_,_,_,S,_,_=>S
 | (t,s) :: r,vs,env,objs,a,S,h,hn=>by
  obtain ⟨v,vs',rfl,h1,h2⟩:=h
  have:=Sim.sets r vs' (S.set h1 (hn _ (List.mem_cons_self ..))) h2 (fun x hx=>hn x (List.mem_cons_of_mem _ hx))
  exact this
end
def SeqOk (P:Program) (f:FuncId) (caps:List SV) (xs:List (List SV)):Prop:=
 ∀ (w:World) (Z:Nat→Prop) (vs:List Value) (l:Nat) (J:Nat→World→Prop),
  (∀ b,Z b→b < w.heap.size)→RepSVs w Z (fun _=>.pointer none) caps vs→J 0 w→
  (∀ k w1 w2,J k w1→Fut (fun _=>False) w1 w2→J k w2)→
  (∀ k x w1 us,xs[k]? = some x→J k w1→(∀ b,Z b→w1.heap[b]? = w.heap[b]?)→RepSVs w1 Z (fun _=>.pointer none) x us→
    YieldAt (wideR none) 0 P l us.toArray w1 fun e w'=>e = .returned (.bool true)∧J (k + 1) w'∧w1.heap.size≤w'.heap.size∧∀ b,Z b→w'.heap[b]? = w1.heap[b]?)→
  Calls P f (#[.func (.yield l) #[] #[]] ++ vs.toArray) w fun e w'=>∃ v,e = .returned v∧J xs.length w'
theorem fut_put (w:World) (l:Nat) (o:Go.Obj):Fut (fun b=>b=l) w (w.putObj l o):=
 ⟨rfl,rfl,rfl,by simp,fun k _ hk=>World.putObj_heap_other hk⟩
theorem zip_snd:∀ {l:List Nat} {x:List SV},l.length=x.length→(l.zip x).map (·.2)=x
 | [],[],_=>rfl
 | a :: l,b :: x,h=>by
  rw [List.zip_cons_cons,List.map_cons,zip_snd (by simpa using h)]
 | [],_ :: _,h=>by simp at h
 | _ :: _,[],h=>by simp at h
theorem zip_fst:∀ {l:List Nat} {x:List SV},l.length=x.length→(l.zip x).map (·.1)=l
 | [],[],_=>rfl
 | a :: l,b :: x,h=>by
  rw [List.zip_cons_cons,List.map_cons,zip_fst (by simpa using h)]
 | [],_ :: _,h=>by simp at h
 | _ :: _,[],h=>by simp at h
theorem range_sound {C:Ctx} (hC:C.Ok) (hpan:∀ s σ,¬ C.pan s σ) {Θ:Anc} {n:Nat} (hN:∀ b,¬ Θ.N b) {g c0 id0 id1:Nat} {ps:Array Tmp} {ops0 ops1:Array Oper} {Q:Exit→Act→World→Prop}
  {σ:St} {a:Act} {w:World} {Z:Nat→Prop} {G:Nat→Value} (S:Sim C.P Θ n σ a w Z G) {f:FuncId} {caps:List SV} {xs:List (List SV)} (hg:get σ.env g = .clo f caps) (hcaps:okN.okNs noN caps=true)
  {gn:Func} (hf:C.P.funcs[f]? = some gn) (hbn:gn.body.isNone=false) (hname:(gn.name == "runtime.NumGoroutine")=false)
  (hit:SeqOk C.P f caps xs) (hxs:∀ x ∈ xs,okN.okNs noN x=true∧x.length=ps.size)
  {ob:Nat→Objs} (h0:∀ id o,getO (ob 0) id=some o→getO σ.objs id=some o) {env:List (Nat × SV)} (henv:okE oddB env=true) (hsub:∀ t,get env t=get σ.env t∨get env t = .unk)
  (hps:∀ t ∈ ps.toList,t < n) (hd0:ops0.toList.all (fun o=>!isDefer o)=true) (hk0:opersOk n ops0.toList=true) (hd1:ops1.toList.all (fun o=>!isDefer o)=true) (hk1:opersOk n ops1.toList=true)
  (hround:∀ k x,xs[k]? = some x→execOps C ops0.toList ops0.toList ⟨setE env (ps.toList.zip x),ob k⟩ (fun σ1=>execOps C ops1.toList ops1.toList σ1 (fun σ2=>∀ id o,getO (ob (k + 1)) id=some o→getO σ2.objs id=some o)))
  (hQ:∀ a' w' Z' G' D,a'.tmps=a.tmps→a'.defers = { target:=.collected D,args:=#[] } :: a.defers→Sim C.P { Θ with ds:=a'.defers } n ⟨env,ob xs.length⟩ a' w' Z' G'→w'.heap[D]? = some (.deferred (some []))→Θ.w.heap.size≤D→¬ Z' D→
    (∀ id o,getO (ob xs.length) id=some o→blk (G' id)≠some D)→Q .normal a' w') :
  (Code.rangeFunc (.tmp g) ps (.region id0 ops0 false) (.block c0 (.region id1 ops1 false))).wp C.P Q a w:=by
 refine (wpIn_wide (n:=1)).1 (wpIn_rangeFunc ?_)
 intro fn _
 obtain ⟨vs,hgv,hvs⟩:∃ vs,a.tmps.getD g undef = .func (.func f) #[] vs∧RepSVs w Z G caps vs.toList:=by
  have:=S.slot g
  rw [hg] at this
  exact this
 have hvs:=RepSVs.okN (G':=fun _=>.pointer none) (fun i h=>by cases h) caps _ hcaps hvs
 obtain ⟨rec,hrec⟩:∃ rec:LoopState→Option Code→Loop,rec=fun st pe=>{ state:=st,pending:=pe,fn,tmps:=a.tmps,params:=ps,assign:=.region id0 ops0 false,body:=.block c0 (.region id1 ops1 false),defers:=w.heap.size }:=⟨_,rfl⟩
 obtain ⟨W1,hW1⟩:∃ W1,(w.alloc (.deferred (some []))).alloc (.loop (rec .ready none))=W1:=⟨_,rfl⟩
 have hL1:W1.heap[w.heap.size + 1]? = some (.loop (rec .ready none)):=by
  rw [← hW1];have:=World.alloc_heap_new (w.alloc (.deferred (some []))) (.loop (rec .ready none));rwa [World.size_alloc] at this
 have hK1:W1.heap[w.heap.size]? = some (.deferred (some [])):=by
  rw [← hW1];exact (Below.heap_alloc _ _ _ (by simp)).trans (World.alloc_heap_new w _)
 have hF1:Fut (fun _=>False) w W1:=by
  rw [← hW1];exact Fut.of_below (((Below.refl _ w).alloc (Nat.le_refl _) _).alloc (by simp) _) _
 have hl1:w.heap.size + 1 < W1.heap.size:=(Array.getElem?_eq_some_iff.1 hL1).1
 refine ⟨w.heap.size + 1,[{ target:=.collected w.heap.size,args:=#[] }],W1,{ target:=.fn (.func f) vs,args:=#[.func (.yield (w.heap.size + 1)) #[] #[]] },W1,f,
  #[.func (.yield (w.heap.size + 1)) #[] #[]] ++ vs,W1,?_,?_,fun _ _=>trivial,?_,fun h=>by simp [Fence.wide] at h,?_⟩
 ·rw [← hW1,hrec];exact run_enterLoop_outer _ _ _ _ _
 ·have hev:a.eval (.tmp g) = .func (.func f) #[] vs:=hgv
  simp only [resolve,hev]
  simp [go_sem]
 ·have hn:¬ gn.name = "runtime.NumGoroutine" := by simpa using hname
  have hb:¬ gn.body=none:=by intro e;rw [e] at hbn;cases hbn
  simp [invoke,callFunc,hf,hn,hb]
 ·refine calls_in (ro:=none) (R:=rangePost Fence.wide 1 C.P (w.heap.size + 1) Q { a with defers:=[{ target:=.collected w.heap.size,args:=#[] }] ++ a.defers }) ?_
  have hnb:∀ id o,getO (ob 0) id=some o→blk (G id)≠some w.heap.size∧blk (G id)≠some (w.heap.size + 1):=fun id o ho=>by
   constructor<;>(intro hb;have:=RepO.lt S (h0 id o ho) hb;omega)
  have main:=hit W1 Z vs.toList (w.heap.size + 1)
   (fun k W=>∃ Z' G',Sim C.P Θ n ⟨env,ob k⟩ a W Z' G'∧(∀ b,Z b→Z' b)∧W.heap[w.heap.size]? = some (.deferred (some []))∧W.heap[w.heap.size + 1]? = some (.loop (rec .ready none))∧
     ¬ Z' w.heap.size∧¬ Z' (w.heap.size + 1)∧∀ id o,getO (ob k) id=some o→blk (G' id)≠some w.heap.size∧blk (G' id)≠some (w.heap.size + 1))
   (fun b hb=>Nat.lt_of_lt_of_le (S.lt b hb) hF1.size)
   (RepSVs.mono ⟨fun _ h=>h,fun b hb=>hF1.block b (S.lt b hb) id⟩ _ _ hvs)
   ⟨Z,G,(S.less hsub h0).other hF1 (fun _ h=>h.elim),fun _ h=>h,hK1,hL1,fun h=>by have:=S.lt _ h;omega,fun h=>by have:=S.lt _ h;omega,hnb⟩
   (fun k A B ⟨Z',G',h1,h2,h3,h4,h5⟩ F=>⟨Z',G',h1.other F (fun _ h=>h.elim),h2,(F.block _ (Array.getElem?_eq_some_iff.1 h3).1 id).trans h3,(F.block _ (Array.getElem?_eq_some_iff.1 h4).1 id).trans h4,h5⟩)
   ?_
  ·have hav:(#[.func (.yield (w.heap.size + 1)) #[] #[]] ++ vs.toList.toArray:Array Value) = #[.func (.yield (w.heap.size + 1)) #[] #[]] ++ vs:=by simp
   rw [hav] at main
   refine main.mono ?_
   rintro e W5 ⟨v,rfl,Z',G',S',hZ',hD,hl,hZD,hZl,hbl⟩
   have hlt:=(Array.getElem?_eq_some_iff.1 hl).1
   have hre:=run_endLoop (P:=C.P) hl (by rw [hrec];simp)
   have hre:(Instr.endLoop (w.heap.size + 1)).run C.P W5 = .ok none (W5.putObj (w.heap.size + 1) (.loop { rec .ready none with state:=.exhausted })):=hre.trans (by rw [hrec])
   refine ⟨none,_,hre,?_⟩
   have hle:Θ.w.heap.size≤w.heap.size:=S.fut.size
   have S6:=S'.other (fut_put W5 (w.heap.size + 1) (.loop { rec .ready none with state:=.exhausted })) (fun b hb=>by
    subst hb
    exact ⟨by omega,hZl,fun id o ho=>(hbl id o ho).2⟩)
   exact hQ { a with defers:=[{ target:=.collected w.heap.size,args:=#[] }] ++ a.defers } _ Z' G' w.heap.size rfl rfl { S6 with calm:=rfl,slot:=S6.slot } ((World.putObj_heap_other (by omega)).trans hD) hle hZD (fun id o ho=>(hbl id o ho).1)
  ·rintro k x W us hx ⟨Z',G',S',hZ',hD,hl,hZD,hZl,hbl⟩ hsame hus
   have hxm:x ∈ xs:=List.mem_of_getElem? hx
   obtain ⟨hxn,hxl⟩:=hxs x hxm
   have hul:us.length=ps.size:=by rw [← RepSVs.length hus,hxl]
   have hlt:w.heap.size + 1 < W.heap.size:=(Array.getElem?_eq_some_iff.1 hl).1
   have hle:Θ.w.heap.size≤w.heap.size:=S.fut.size
   have hy:=run_yield (P:=C.P) (args:=us.toArray) hl (by rw [hrec];simpa using hul)
   rw [hrec] at hy
   refine ⟨fn,_,.region id0 ops0 false,.block c0 (.region id1 ops1 false),hy,roundIn_of_wpIn trivial ?_⟩
   have hus':RepSVs W Z' G' x us:=RepSVs.okN (fun i h=>by cases h) x us hxn (RepSVs.mono ⟨hZ',fun _ _=>rfl⟩ _ _ hus)
   have hzl:ps.toList.length=x.length:=by simpa using hxl.symm
   have Sr:=S'.rebase (a':={ tmps:=a.tmps,defers:=[] }) rfl
   have Ss:=Sim.sets (ps.toList.zip x) us Sr (by rw [zip_snd hzl];exact hus') (fun y hy=>hps _ (List.of_mem_zip hy).1)
   rw [zip_fst hzl] at Ss
   have hfold:(ps.toList.zip us).foldl (fun t (p,v)=>t.setIfInBounds p v) a.tmps=(ps.zip us.toArray).foldl (fun tmps (t,a)=>tmps.setIfInBounds t a) a.tmps:=by
    rw [← Array.foldl_toList,Array.toList_zip]
   rw [hfold] at Ss
   refine region_in (ro:=some (w.heap.size + 1)) (m:=0) hC (fun s σ' _ _ _ _ _ h=>(hpan s σ' h).elim) rfl rfl (fun _ _ h=>h) hd0 hk0 (k:=fun σ1=>execOps C ops1.toList ops1.toList σ1 (fun σ2=>∀ id o,getO (ob (k + 1)) id=some o→getO σ2.objs id=some o)) ?_ Ss (hround k x hx)
   intro σ1 a1 w1 Z1 G1 h1 S1
   have nB:∀ d,(∀ id o,getO (ob k) id=some o→blk (G' id)≠some d)→¬ Blocks G' (ob k) d:=fun d hd ⟨i,o,ho,hb⟩=>hd i o ho hb
   have hnD:=nB _ (fun id o ho=>(hbl id o ho).1)
   have hnl:=nB _ (fun id o ho=>(hbl id o ho).2)
   have hlw1:w1.heap[w.heap.size + 1]? = some (.loop (rec .ready none)):=(S1.fut.block _ hlt hnl).trans hl
   have hDw1:w1.heap[w.heap.size]? = some (.deferred (some [])):=(S1.fut.block _ (by show _ < W.heap.size;omega) hnD).trans hD
   have hZ1:∀ d,d < W.heap.size→¬ Z' d→¬ Blocks G' (ob k) d→¬ Z1 d:=fun d hd h1 h2 h=>by
    rcases S1.new d h with h | h | h | h
    ·exact h1 h
    ·exact h2 h
    ·exact h
    ·have h:W.heap.size≤d:=h
     omega
   have hB1:∀ d,d < W.heap.size→¬ Blocks G' (ob k) d→∀ id o,getO σ1.objs id=some o→blk (G1 id)≠some d:=fun d hd h2 id o ho hb=>by
    rcases (S1.free id o d ho hb).2 with h | h | h
    ·exact h2 h
    ·exact h
    ·have h:W.heap.size≤d:=h
     omega
   have S1':=S'.unbase hN S1
   have S2:=S1'.other (fut_put w1 (w.heap.size + 1) (.loop { rec .ready none with state:=.busy })) (fun b hb=>by
    subst hb
    exact ⟨by show Θ.w.heap.size≤_;omega,hZ1 _ hlt hZl hnl,hB1 _ hlt hnl⟩)
   have S2r:=S2.rebase (a':=a1) rfl
   refine ⟨_,run_beginRound hlw1 (by rw [hrec]),wpIn_block (region_in (ro:=some (w.heap.size + 1)) (m:=0) hC (fun s σ' _ _ _ _ _ h=>(hpan s σ' h).elim) rfl rfl (fun _ _ h=>h) hd1 hk1 (k:=fun σ2=>∀ id o,getO (ob (k + 1)) id=some o→getO σ2.objs id=some o) ?_ S2r h1)⟩
   intro σ3 a3 w3 Z3 G3 h3 S3
   have hw1l:=(Array.getElem?_eq_some_iff.1 hlw1).1
   have hlw2:(w1.putObj (w.heap.size + 1) (.loop { rec .ready none with state:=.busy })).heap[w.heap.size + 1]? = some (.loop { rec .ready none with state:=.busy }):=World.putObj_heap_same hw1l
   have hDw2:(w1.putObj (w.heap.size + 1) (.loop { rec .ready none with state:=.busy })).heap[w.heap.size]? = some (.deferred (some [])):=(World.putObj_heap_other (by omega)).trans hDw1
   have hnl1:¬ Blocks G1 σ1.objs (w.heap.size + 1):=fun ⟨i,o,ho,hb⟩=>hB1 _ hlt hnl i o ho hb
   have hnD1:¬ Blocks G1 σ1.objs w.heap.size:=fun ⟨i,o,ho,hb⟩=>hB1 _ (by omega) hnD i o ho hb
   have hlw3:w3.heap[w.heap.size + 1]? = some (.loop { rec .ready none with state:=.busy }):=(S3.fut.block _ (by show _ < (World.heap _).size;simpa using hw1l) hnl1).trans hlw2
   have hDw3:w3.heap[w.heap.size]? = some (.deferred (some [])):=(S3.fut.block _ (by show _ < (World.heap _).size;simp;omega) hnD1).trans hDw2
   have hZ3:∀ d,d < w1.heap.size→¬ Z1 d→¬ Blocks G1 σ1.objs d→¬ Z3 d:=fun d hd h1 h2 h=>by
    rcases S3.new d h with h | h | h | h
    ·exact h1 h
    ·exact h2 h
    ·exact h
    ·have h:(w1.putObj (w.heap.size + 1) (.loop { rec .ready none with state:=.busy })).heap.size≤d:=h
     rw [World.putObj_size] at h
     omega
   have hB3:∀ d,d < w1.heap.size→¬ Blocks G1 σ1.objs d→∀ id o,getO σ3.objs id=some o→blk (G3 id)≠some d:=fun d hd h2 id o ho hb=>by
    rcases (S3.free id o d ho hb).2 with h | h | h
    ·exact h2 h
    ·exact h
    ·have h:(w1.putObj (w.heap.size + 1) (.loop { rec .ready none with state:=.busy })).heap.size≤d:=h
     rw [World.putObj_size] at h
     omega
   have S3':=S2.unbase hN S3
   have hZ3l:=hZ3 _ hw1l (hZ1 _ hlt hZl hnl) hnl1
   have hZ3D:=hZ3 w.heap.size (by omega) (hZ1 _ (by omega) hZD hnD) hnD1
   have S4:=S3'.other (fut_put w3 (w.heap.size + 1) (.loop (rec .ready none))) (fun b hb=>by
    subst hb
    exact ⟨by show Θ.w.heap.size≤_;omega,hZ3l,hB3 _ hw1l hnl1⟩)
   have hw3l:=(Array.getElem?_eq_some_iff.1 hlw3).1
   have hend:=run_endRound (P:=C.P) none hlw3
   have hrr:({ ({ rec .ready none with state:=.busy }:Loop) with state:=if (none:Option Code).isNone then .ready else .done,pending:=none }:Loop)=rec .ready none:=by rw [hrec];rfl
   rw [hrr] at hend
   have T1:=S'.stays S1
   have T2:Stays w1 w3 Z1 Z3:=⟨S3.sub,fun b hb=>by
    have hne:b≠w.heap.size + 1:=fun e=>hZ1 _ hlt hZl hnl (e ▸ hb)
    exact ((S2.stays S3).same b hb).trans (World.putObj_heap_other hne)⟩
   have T3:Stays W (w3.putObj (w.heap.size + 1) (.loop (rec .ready none))) Z' Z3:=⟨fun b hb=>T2.sub b (T1.sub b hb),fun b hb=>by
    have hne:b≠w.heap.size + 1:=fun e=>hZl (e ▸ hb)
    exact (World.putObj_heap_other hne).trans ((T2.same b (T1.sub b hb)).trans (T1.same b hb))⟩
   have hsz:W.heap.size≤(w3.putObj (w.heap.size + 1) (.loop (rec .ready none))).heap.size:=by
    have e1:W.heap.size≤w1.heap.size:=S1.fut.size
    have e2:(w1.putObj (w.heap.size + 1) (.loop { rec .ready none with state:=.busy })).heap.size≤w3.heap.size:=S3.fut.size
    rw [World.putObj_size] at e2 ⊢
    omega
   refine ⟨_,_,hend,rfl,⟨Z3,G3,?_,fun b hb=>T3.sub b (hZ' b hb),(World.putObj_heap_other (by omega)).trans hDw3,World.putObj_heap_same hw3l,hZ3D,hZ3l,fun id o ho=>⟨hB3 _ (by omega) hnD1 id o (h3 id o ho),hB3 _ hw1l hnl1 id o (h3 id o ho)⟩⟩,hsz,fun b hb=>T3.same b (hZ' b hb)⟩
   exact { S4 with
    size:=S'.size
    calm:=S'.calm
    slot:=fun t=>RepSV.okN (p:=oddB) (fun i hi=>by
     have hi':i % 2=1:=Nat.eq_of_beq_eq_true hi
     have e1:G3 i=Θ.G0 i:=S4.odd i hi'
     have e2:G' i=Θ.G0 i:=S'.odd i hi'
     rw [e1,e2]) _ _ (okE_get t henv) (RepSV.mono T3 _ _ (S'.slot t))
    obj:=fun id o ho=>S4.obj id o (h3 id o ho)
    sep:=fun id id' o o' b ho ho'=>S4.sep id id' o o' b (h3 id o ho) (h3 id' o' ho')
    free:=fun id o b ho=>S4.free id o b (h3 id o ho)
    keep:=fun id o b ho=>S4.keep id o b (h3 id o ho) }
end Go.Den

namespace Go.Den
open Go Go.RowKit
def regOps:Code→Array Oper
 | .region _ ops _=>ops
 | _=>#[]
def regId:Code→Nat
 | .region id _ _=>id
 | _=>0
section
variable {P:Program} {ops:Array Oper} {F:Fence} {n:Nat}
theorem wpOpsIn_keep {v0:Nat→Value}:∀ (l:List Nat) {Q:Exit→Act→World→Prop} (a:Act) (w:World),(∀ t,(∀ o ∈ ops.toList,o.dst≠some t)→a.tmps.getD t undef=v0 t)→wpOpsIn F n P ops Q l a w→
  wpOpsIn F n P ops (fun e a' w'=>Q e a' w'∧(e = .normal→∀ t,(∀ o ∈ ops.toList,o.dst≠some t)→a'.tmps.getD t undef=v0 t)) l a w
 | [],Q,a,w,h0,h=>⟨h,fun _=>h0⟩
 | i :: rest,Q,a,w,h0,h=>by
  unfold wpOpsIn at h ⊢
  cases hi:ops[i]? with
  | none=>rw [hi] at h;exact wpOpsIn_keep rest a w h0 h
  | some o=>
   rw [hi] at h
   have hm:o ∈ ops.toList:=by have:=Array.mem_of_getElem? hi;simpa using this
   have hput:∀ (b:Act) v,b.tmps=a.tmps→∀ t,(∀ o ∈ ops.toList,o.dst≠some t)→(b.put o.dst v).tmps.getD t undef=v0 t:=fun b v hb t ht=>by
    have hne:=ht o hm
    rw [← h0 t ht,← hb]
    unfold Act.put
    split
    ·rename_i d hd
     rw [Array.getD_eq_getD_getElem?,Array.getElem?_setIfInBounds_ne (fun e=>hne (by rw [hd,e])),← Array.getD_eq_getD_getElem?]
    ·rfl
   simp only at h ⊢
   by_cases hw:Region.wanted o (yielded ops a.tmps)
   ·rw [if_pos hw] at h ⊢
    refine ⟨h.1,?_⟩
    have h:=h.2
    generalize (o.semAt F.round a.eval).run P w=r at h ⊢
    have nx:∀ (b:Act) v w',b.tmps=a.tmps→wpOpsIn F n P ops Q rest (b.put o.dst v) w'→_:=fun b v w' hb h'=>wpOpsIn_keep rest (b.put o.dst v) w' (hput b v hb) h'
    cases r with
    | ok x w'=>
     cases x<;>first | exact nx a _ _ rfl h | exact nx { a with defers:=_ :: a.defers } _ _ rfl h | exact ⟨h.1,h.2.mono fun e w'' he=>by cases e<;>first | exact nx a _ _ rfl he | exact ⟨he,fun e=>by cases e⟩ | exact let ⟨a,w,h⟩:=he;⟨a,w,h,fun e=>by cases e⟩⟩ | exact ⟨h.1,h.2.mono fun v w'' he=>nx a _ _ rfl he⟩ | exact h.elim
    | halt x w'=>cases x<;>first | exact ⟨h,fun e=>by cases e⟩ | exact h.elim
   ·rw [if_neg hw] at h ⊢
    exact ⟨h.1,wpOpsIn_keep rest _ w (hput a _ rfl) h.2⟩
end
theorem Sim.begin {P:Program} {n:Nat} {env:List (Nat × SV)} {a:Act} {w:World} {Z:Nat→Prop} {G:Nat→Value} (hsz:a.tmps.size=n) (hslot:∀ t,RepSV w Z G (get env t) (a.tmps.getD t undef)) (hZ:∀ b,Z b→b < w.heap.size) (hflat:∀ i,(G i).oneCell' = true) :
  Sim P ⟨w,fun _=>False,fun _=>False,Z,false,false,G,a.defers⟩ n ⟨env,[]⟩ a w Z G where
 size:=hsz
 calm:=rfl
 slot:=hslot
 obj:=fun _ _ h=>by cases h
 sep:=fun _ _ _ _ _ h=>by cases h
 free:=fun _ _ _ h=>by cases h
 keep:=fun _ _ _ h=>by cases h
 nlt:=fun _ h=>h.elim
 lt:=hZ
 fut:=Fut.refl _ w
 new:=fun _ h=>.inl h
 sub:=fun _ h=>h
 flat:=hflat
 odd:=fun _ _=>rfl
 row:=fun _ h=>.inl h
section
variable {C:Ctx}
theorem it_region (hC:C.Ok) (hpan:∀ s σ,¬ C.pan s σ) {n id:Nat} {ops:Array Oper} (hdef:ops.toList.all (fun o=>!isDefer o)=true) (hok:opersOk n ops.toList=true) {Q:Exit→Act→World→Prop} {env:List (Nat × SV)} {a:Act} {w:World} {Z:Nat→Prop} {G:Nat→Value}
  (hsz:a.tmps.size=n) (hslot:∀ t,RepSV w Z G (get env t) (a.tmps.getD t undef)) (hZ:∀ b,Z b→b < w.heap.size) (hflat:∀ i,(G i).oneCell' = true) {k:St→Prop} (h:execOps C ops.toList ops.toList ⟨env,[]⟩ k)
  (hQ:∀ σ' a' w' Z' G',k σ'→(∀ t,RepSV w' Z' G' (get σ'.env t) (a'.tmps.getD t undef))→Fut (fun _=>False) w w'→a'.tmps.size=n→a'.defers=a.defers→(∀ i,i % 2=1→G' i=G i)→(∀ t,(∀ o ∈ ops.toList,o.dst≠some t)→a'.tmps.getD t undef=a.tmps.getD t undef)→Q .normal a' w') :
  (Code.region id ops false).wp C.P Q a w:=by
 have S:=Sim.begin (P:=C.P) hsz hslot hZ hflat
 refine (wpIn_wide (n:=0)).1 (wpIn_mono (wpIn_region (wpOpsIn_keep (v0:=fun t=>a.tmps.getD t undef) _ a w (fun _ _=>rfl) (Q:=fun e a' w'=>e = .normal∧∃ σ' Z' G',k σ'∧Sim C.P ⟨w,fun _=>False,fun _=>False,Z,false,false,G,a.defers⟩ n σ' a' w' Z' G') ?_)) ?_)
 ·have:=execOps_to (Q:=fun e a' w'=>e = .normal∧∃ σ' Z' G',k σ'∧Sim C.P ⟨w,fun _=>False,fun _=>False,Z,false,false,G,a.defers⟩ n σ' a' w' Z' G') hC (fun s σ' _ _ _ _ _ h=>(hpan s σ' h).elim) rfl rfl (fun _ _ h=>by cases h.1) hdef (ro:=none) (m:=0) (rest:=[]) (fun σ' a' w' Z' G' h S'=>⟨rfl,σ',Z',G',h,S'⟩) ops.toList 0 (fun j _=>by simp) hok S h
  rw [List.append_nil,Array.length_toList] at this
  rw [List.range_eq_range']
  exact this
 ·rintro e a' w' ⟨⟨rfl,σ',Z',G',hk,S'⟩,hkeep⟩
  exact hQ σ' a' w' Z' G' hk S'.slot S'.fut S'.size S'.calm S'.odd (hkeep rfl)
theorem yield_op {P:Program} {o:Oper} {tc l:Nat} {args:Array Operand} {ts:Array TypeId} {a:Act} {w:World} {K:Act→World→Prop} {Q:Exit→Act→World→Prop} (ho:o.op = .call { callee:=.value (.tmp tc),args:=args,argTypes:=ts })
  (hc:a.eval (.tmp tc) = .func (.yield l) #[] #[]) {us:List Value} (hus:args.toList.map a.eval=us) (hy:YieldAt (wideR none) 0 P l us.toArray w fun e w'=>∃ v,e = .returned v∧K (a.put o.dst v) w'):o.wpIn (wideR none) 0 P a w K Q:=by
 refine ⟨fun _ _=>trivial,?_⟩
 rw [Oper.semAt_eq _ _ _ (by rw [ho];intro c h;cases h)]
 obtain ⟨fn,tmps,asg,body,h1,h2⟩:=hy
 have harr:args.map a.eval=us.toArray:=by rw [← hus];apply Array.ext';simp
 have hrun:(execOp a.eval o).run P w = .ok (.round l fn tmps asg body) w:=by
  unfold execOp
  rw [ho]
  simp [resolve,hc,Deferred.ofValue,invoke,harr,h1]
 rw [hrun]
 refine ⟨fun h=>by simp at h,h2.mono ?_⟩
 rintro e w' ⟨v,rfl,h⟩
 exact h
def scalSV:SV→Bool
 | .val (.int _) _=>true
 | .val .bool _=>true
 | _=>false
theorem scalSV_mono {w w':World} {Z Z':Nat→Prop} {G G':Nat→Value} {s:SV} {v:Value} (hs:scalSV s=true) (h:RepSV w Z G s v):RepSV w' Z' G' s v:=by
 unfold scalSV at hs
 split at hs<;>first | exact h | cases hs
def scalE:List (Nat × SV)→Bool
 | []=>true
 | (_,s) :: r=>scalSV s && scalE r
theorem scalE_get:∀ {env:List (Nat × SV)} (t:Nat),scalE env=true→scalSV (get env t)=true∨get env t = .unk
 | [],_,_=>.inr rfl
 | (k,s) :: r,t,h=>by
  unfold scalE at h
  rw [Bool.and_eq_true] at h
  rw [get_cons]
  split
  ·exact .inl h.1
  ·exact scalE_get t h.2
theorem it_yield (hC:C.Ok) (hpan:∀ s σ,¬ C.pan s σ) {n id j dst:Nat} {ops:Array Oper} (hdef:ops.toList.all (fun o=>!isDefer o)=true) (hok:opersOk n ops.toList=true) {o:Oper} (hj:ops[j]? = some o) {tc l:Nat} {args:Array Operand} {ts:Array TypeId}
  (ho:o.op = .call { callee:=.value (.tmp tc),args:=args,argTypes:=ts }) (hdst:o.dst=some dst) {Q:Exit→Act→World→Prop} {env env2:List (Nat × SV)} {a:Act} {w:World} {Z:Nat→Prop} {G:Nat→Value}
  (hsz:a.tmps.size=n) (hslot:∀ t,RepSV w Z G (get env t) (a.tmps.getD t undef)) (hZ:∀ b,Z b→b < w.heap.size) (hflat:∀ i,(G i).oneCell' = true) {k1 k2:St→Prop} (h1:execOps C ops.toList (ops.toList.take j) ⟨env,[]⟩ k1)
  (hg:o.guard=none∨∃ jj t,o.guard=some (jj,true)∧gslot ops.toList jj=some t∧∀ σ1,k1 σ1→get σ1.env t = .val .bool (.b true))
  (he2:scalE env2=true) (he3:∀ σ1,k1 σ1→∀ t,get env2 t=get σ1.env t∨get env2 t = .unk) (hd2:get env2 dst = .unk) {Kw:World→Prop} (hKZ:∀ w',Kw w'→∀ b,Z b→b < w'.heap.size)
  (hy:∀ (σ1:St) (a1:Act) (w1:World) (Z1:Nat→Prop) (G1:Nat→Value),k1 σ1→(∀ t,RepSV w1 Z1 G1 (get σ1.env t) (a1.tmps.getD t undef))→Fut (fun _=>False) w w1→(∀ i,i % 2=1→G1 i=G i)→
    a1.eval (.tmp tc) = .func (.yield l) #[] #[]∧YieldAt (wideR none) 0 C.P l (args.toList.map a1.eval).toArray w1 fun e w'=>e = .returned (.bool true)∧Kw w')
  (h2:execOps C ops.toList (ops.toList.drop (j + 1)) ⟨(dst,.val .bool (.b true)) :: env2,[]⟩ k2)
  (hQ:∀ (σ':St) (a':Act) (w2 w':World) (Z':Nat→Prop) (G':Nat→Value),k2 σ'→Kw w2→(∀ t,RepSV w' Z' G' (get σ'.env t) (a'.tmps.getD t undef))→Fut (fun _=>False) w2 w'→a'.tmps.size=n→a'.defers=a.defers→(∀ t,(∀ o ∈ ops.toList,o.dst≠some t)→a'.tmps.getD t undef=a.tmps.getD t undef)→Q .normal a' w') :
  (Code.region id ops false).wp C.P Q a w:=by
 have S:=Sim.begin (P:=C.P) hsz hslot hZ hflat
 have hjl:j < ops.toList.length:=by
  have:=(Array.getElem?_eq_some_iff.1 hj).1
  simpa using this
 have htl:(ops.toList.take j).length=j:=by rw [List.length_take];omega
 have hsplit:∀ l:List Oper,opersOk n l=true→∀ m,opersOk n (l.take m)=true∧opersOk n (l.drop m)=true:=fun l=>by
  induction l with
  | nil=>intro _ m;cases m<;>exact ⟨rfl,rfl⟩
  | cons x r ih=>
   intro h m
   have hx:operOk n x=true∧opersOk n r=true:=by
    unfold opersOk at h
    split at h
    ·exact ⟨by assumption,h⟩
    ·cases h
   cases m with
   | zero=>exact ⟨rfl,h⟩
   | succ m=>
    obtain ⟨g1,g2⟩:=ih hx.2 m
    refine ⟨?_,g2⟩
    rw [List.take_succ_cons]
    unfold opersOk
    rw [hx.1]
    exact g1
 have hoo:operOk n o=true:=by
  have hd:=(hsplit _ hok j).2
  have e:ops.toList.drop j=o :: ops.toList.drop (j + 1):=by
   rw [List.drop_eq_getElem_cons hjl]
   congr 1
   have:=(Array.getElem?_eq_some_iff.1 hj).2
   simpa using this
  rw [e] at hd
  unfold opersOk at hd
  split at hd
  ·assumption
  ·cases hd
 have hdn:dst < n:=(operOk_dst hoo).1 dst hdst
 refine (wpIn_wide (n:=0)).1 (wpIn_mono (wpIn_region (wpOpsIn_keep (v0:=fun t=>a.tmps.getD t undef) _ a w (fun _ _=>rfl)
  (Q:=fun e a' w'=>e = .normal∧∃ σ' w2 Z' G',k2 σ'∧Kw w2∧(∀ t,RepSV w' Z' G' (get σ'.env t) (a'.tmps.getD t undef))∧Fut (fun _=>False) w2 w'∧a'.tmps.size=n∧a'.defers=a.defers) ?_)) ?_)
 ·have hr:List.range ops.size=List.range' 0 (ops.toList.take j).length ++ (j :: (List.range' (j + 1) (ops.toList.drop (j + 1)).length ++ [])):=by
   rw [htl,List.length_drop,List.append_nil,List.range_eq_range',← List.range'_succ,← Array.length_toList]
   rw [show ops.toList.length - (j + 1) + 1=ops.toList.length - j by omega]
   have:=List.range'_append (s:=0) (m:=j) (n:=ops.toList.length - j) (step:=1)
   simp only [Nat.one_mul,Nat.zero_add] at this
   rw [this]
   congr 1
   omega
  rw [hr]
  refine execOps_to hC (fun s σ' _ _ _ _ _ h=>(hpan s σ' h).elim) rfl rfl (fun _ _ h=>by cases h.1) hdef (ro:=none) (m:=0) ?_ (ops.toList.take j) 0 (fun i hi=>?_) (hsplit _ hok j).1 S h1
  ·intro σ1 a1 w1 Z1 G1 hk1 S1
   obtain ⟨hev,hyy⟩:=hy σ1 a1 w1 Z1 G1 hk1 S1.slot S1.fut S1.odd
   have hw:Region.wanted o (yielded ops a1.tmps)=true:=by
    rcases hg with hg | ⟨jj,t,hg,hgs,hgt⟩
    ·simp [Region.wanted,hg]
    ·have hv:a1.tmps.getD t undef = .bool true:=by
      have:=S1.slot t
      rw [hgt σ1 hk1] at this
      exact this
     have hops:(ops[jj]?).bind (·.dst)=some t:=by
      unfold gslot at hgs
      rw [nth_map_some] at hgs
      rw [← Array.getElem?_toList]
      cases hjj:ops.toList[jj]? with
      | none=>rw [hjj] at hgs;cases hgs
      | some oj=>rw [hjj] at hgs;exact hgs
     have hyes:yielded ops a1.tmps jj=some true:=by
      unfold yielded
      rw [hops]
      simp only [Option.bind_some]
      have:a1.tmps[t]? = some (.bool true):=by
       rw [Array.getD_eq_getD_getElem?] at hv
       cases ht:a1.tmps[t]? with
       | none=>rw [ht] at hv;cases hv
       | some v=>rw [ht] at hv;simp at hv;rw [hv]
      rw [this]
     simp [Region.wanted,hg,hyes]
   rw [wpOpsIn_cons]
   unfold wpOpIn
   rw [hj]
   simp only
   rw [if_pos hw]
   refine yield_op ho hev rfl ?_
   obtain ⟨fn,tmps,asg,body,g1,g2⟩:=hyy
   refine ⟨fn,tmps,asg,body,g1,g2.mono ?_⟩
   rintro e w2 ⟨rfl,hK⟩
   refine ⟨_,rfl,?_⟩
   have hsz2:(a1.put o.dst (.bool true)).tmps.size=n:=by rw [put_size];exact S1.size
   have hsl2:∀ t,RepSV w2 Z G (get ((dst,.val .bool (.b true)) :: env2) t) ((a1.put o.dst (.bool true)).tmps.getD t undef):=fun t=>by
    rw [get_cons,hdst]
    have hev:=ev_put (a:=a1) (d:=dst) (t:=t) (v:=.bool true) (by rw [S1.size];exact hdn)
    have hev:(a1.put (some dst) (.bool true)).tmps.getD t undef=if dst=t then .bool true else a1.tmps.getD t undef:=hev
    rw [hev]
    split
    ·exact rfl
    ·rcases he3 σ1 hk1 t with h | h
     ·rcases scalE_get t he2 with h' | h'
      ·refine scalSV_mono h' ?_ (w:=w1) (Z:=Z1) (G:=G1)
       rw [h]
       exact S1.slot t
      ·rw [h'];trivial
     ·rw [h];trivial
   have S2:=Sim.begin (P:=C.P) hsz2 hsl2 (hKZ w2 hK) hflat
   refine execOps_to hC (fun s σ' _ _ _ _ _ h=>(hpan s σ' h).elim) rfl rfl (fun _ _ h=>by cases h.1) hdef (ro:=none) (m:=0) (rest:=[]) ?_ (ops.toList.drop (j + 1)) (j + 1) (fun i hi=>?_) (hsplit _ hok (j + 1)).2 S2 h2
   ·intro σ' a' w' Z' G' hk2 S'
    refine ⟨rfl,σ',w2,Z',G',hk2,hK,S'.slot,S'.fut,S'.size,?_⟩
    have e1:a'.defers=(a1.put o.dst (.bool true)).defers:=S'.calm
    have e2:(a1.put o.dst (.bool true)).defers=a1.defers:=defers_put
    have e3:a1.defers=a.defers:=S1.calm
    rw [e1,e2,e3]
   ·rw [List.getElem?_drop,← Array.getElem?_toList]
  ·rw [List.getElem?_take,if_pos (by omega),Nat.zero_add,← Array.getElem?_toList]
 ·rintro e a' w' ⟨⟨rfl,σ',w2,Z',G',g1,g2,g3,g4,g5,g6⟩,hkeep⟩
  exact hQ σ' a' w2 w' Z' G' g1 g2 g3 g4 g5 g6 (hkeep rfl)
theorem Sim.shut {P:Program} {Θ:Anc} {n:Nat} {σ:St} {a:Act} {w:World} {Z:Nat→Prop} {G:Nat→Value} (S:Sim P Θ n σ a w Z G) {id:Nat} {cs:List Ct} {us:List U} (hp:getO σ.objs id=some (.box (vals cs us))) :
  ∃ Z1:Nat→Prop,(∀ b,Z b→Z1 b)∧Sim P Θ n (σ.freeze id .unk) a w Z1 G∧∀ v,RepSV w Z G (.ptr id 0) v→RepSV w Z1 G (.rptr cs us) v:=by
 obtain ⟨b,ty,c,h1,h2,h3⟩:=S.obj id _ hp
 refine ⟨_,fun b hb=>.inl hb,S.freeze hp trivial (fun b' hb'=>?_),fun v hv=>?_⟩
 ·rw [h1] at hb';cases hb'
  exact ⟨c,ty,h2⟩
 ·obtain ⟨b',h4,rfl⟩:=hv
  rw [h1] at h4;cases h4
  refine ⟨b,0,rfl,.inr (by rw [h1];rfl),?_⟩
  have hr:=RepL.mono (Z':=fun x=>Z x∨blk (G id)=some x) ⟨fun _ h=>.inl h,fun _ _=>rfl⟩ (RepSVs.repL h3)
  refine RepL.cells hr fun j v hj=>?_
  have hj:c[j]? = some v:=by simpa using hj
  simp [World.cell?,h2,hj]
end
def markPost (P:Program) (fn:Func) (R:Ending→World→Prop):Exit→Act→World→Prop:=fun e a w=>(e = .normal∨e = .ret)∧∃ D,a.defers=[{ target:=.collected D,args:=#[] }]∧w.heap[D]? = some (.deferred (some []))∧∃ v,(results fn a.tmps).run P (w.putObj D (.deferred none)) = .ok v (w.putObj D (.deferred none))∧R (.returned v) (w.putObj D (.deferred none))
theorem calls_marked {P:Program} {f:FuncId} {fn:Func} {c:Code} {args:Array Value} {w:World} {R:Ending→World→Prop} (hf:P.funcs[f]? = some fn) (hb:fn.body=some c)
  (h:c.wp P (markPost P fn R) { tmps:=args ++ Array.replicate (fn.ntmps - args.size) undef,defers:=[] } w):Calls P f args w R:=by
 refine (callsIn_wide (n:=0)).1 (callsIn_of_wp_marks hf hb trivial (wpIn_mono (wpIn_wide.2 h) ?_))
 rintro e a' w' ⟨he,D,hd,hD,v,hv,hR⟩
 have main:LeavesInM Fence.wide 0 P fn a'.tmps R a'.defers .returning w':=by
  rw [hd]
  exact ⟨by simp,.inl ⟨D,_,rfl,run_takeDeferred hD,v,hv,hR⟩⟩
 rcases he with rfl | rfl<;>exact main
theorem rep_i64 {w:World} {Z:Nat→Prop} {G:Nat→Value} {x:Int} (h0:-9223372036854775808≤x) (h1:x≤9223372036854775807):RepSV w Z G (.val (.int .i64) (.i x)) (.int .i64 x):=⟨rfl,h0,h1⟩
end Go.Den

namespace Go.Den
open Go Go.RowKit
section
variable {C:Ctx}
theorem it_regionS (hC:C.Ok) (hpan:∀ s σ,¬ C.pan s σ) {n id:Nat} {ops:Array Oper} (hdef:ops.toList.all (fun o=>!isDefer o)=true) (hok:opersOk n ops.toList=true) {Q:Exit→Act→World→Prop} {env:List (Nat × SV)} {a:Act} {w:World} {Z:Nat→Prop} {G:Nat→Value}
  (hsz:a.tmps.size=n) (hslot:∀ t,RepSV w Z G (get env t) (a.tmps.getD t undef)) (hZ:∀ b,Z b→b < w.heap.size) (hflat:∀ i,(G i).oneCell' = true) {k:St→Prop} (h:execOps C ops.toList ops.toList ⟨env,[]⟩ k)
  (hQ:∀ σ' a' w' Z' G',k σ'→Sim C.P ⟨w,fun _=>False,fun _=>False,Z,false,false,G,a.defers⟩ n σ' a' w' Z' G'→(∀ t,(∀ o ∈ ops.toList,o.dst≠some t)→a'.tmps.getD t undef=a.tmps.getD t undef)→Q .normal a' w') :
  (Code.region id ops false).wp C.P Q a w:=by
 have S:=Sim.begin (P:=C.P) hsz hslot hZ hflat
 refine (wpIn_wide (n:=0)).1 (wpIn_mono (wpIn_region (wpOpsIn_keep (v0:=fun t=>a.tmps.getD t undef) _ a w (fun _ _=>rfl) (Q:=fun e a' w'=>e = .normal∧∃ σ' Z' G',k σ'∧Sim C.P ⟨w,fun _=>False,fun _=>False,Z,false,false,G,a.defers⟩ n σ' a' w' Z' G') ?_)) ?_)
 ·have:=execOps_to (Q:=fun e a' w'=>e = .normal∧∃ σ' Z' G',k σ'∧Sim C.P ⟨w,fun _=>False,fun _=>False,Z,false,false,G,a.defers⟩ n σ' a' w' Z' G') hC (fun s σ' _ _ _ _ _ h=>(hpan s σ' h).elim) rfl rfl (fun _ _ h=>by cases h.1) hdef (ro:=none) (m:=0) (rest:=[]) (fun σ' a' w' Z' G' h S'=>⟨rfl,σ',Z',G',h,S'⟩) ops.toList 0 (fun j _=>by simp) hok S h
  rw [List.append_nil,Array.length_toList] at this
  rw [List.range_eq_range']
  exact this
 ·rintro e a' w' ⟨⟨rfl,σ',Z',G',hk,S'⟩,hkeep⟩
  exact hQ σ' a' w' Z' G' hk S' (hkeep rfl)
end
end Go.Den

namespace Go.Den
open Go Go.RowKit
theorem Sim.renameTo {P:Program} {Θ:Anc} {n:Nat} {σ:St} {a:Act} {w:World} {Z:Nat→Prop} {G:Nat→Value} (S:Sim P Θ n σ a w Z G) {m:List (Nat × Nat)} (h1:nodupB (fsts m)=true) (h2:nodupB (snds m)=true) (hev:(snds m).all (fun j=>Nat.beq (j % 2) 0)=true) {G0:Nat→Value} (hf0:∀ i,(G0 i).oneCell' = true) {a':Act} (ht:a'.tmps=a.tmps) :
  ∃ G',(∀ i j,lk m i=some j→G' j=G i)∧Sim P ⟨Θ.w,Θ.M,Θ.N,Θ.Z0,Θ.kb,Θ.ka,G0,a'.defers⟩ n ⟨renE m σ.env,pickR σ.objs m m⟩ a' w Z G':=by
 let G':Nat→Value:=fun j=>match lk (swaps m) j with | some i=>G i | none=>G0 j
 have hG:∀ i j,lk m i=some j→G' j=G i:=fun i j hij=>by show (match lk (swaps m) j with | some i=>G i | none=>G0 j)=_;rw [lk_swaps h2 hij]
 have hpk:∀ j o',getO (pickR σ.objs m m) j=some o'→∃ i p,lk m i=some j∧getO σ.objs i=some p∧o' = p.ren m∧G' j=G i:=fun j o' hj=>by
  obtain ⟨i,p,h3,h4,h5⟩:=getO_pickR hj
  exact ⟨i,p,lk_of_mem h1 h3,h4,h5,hG i j (lk_of_mem h1 h3)⟩
 refine ⟨G',hG,?_⟩
 exact
  {size:=by rw [ht];exact S.size
   calm:=rfl
   slot:=fun t=>by
    show RepSV w Z G' (get (renE m σ.env) t) (a'.tmps.getD t undef)
    rw [get_renE,ht]
    exact RepSV.ren hG _ _ (S.slot t)
   obj:=fun j o' hj=>by
    obtain ⟨i,p,h3,h4,rfl,_⟩:=hpk j o' hj
    exact RepO.ren hG h3 (S.obj i p h4)
   sep:=fun j j' o1 o2 b hj hj' hb hb'=>by
    obtain ⟨i,p,g1,g2,_,g3⟩:=hpk j o1 hj
    obtain ⟨i',p',g1',g2',_,g3'⟩:=hpk j' o2 hj'
    rw [g3] at hb
    rw [g3'] at hb'
    have:=S.sep i i' p p' b g2 g2' hb hb'
    subst this
    rw [g1] at g1'
    exact Option.some.inj g1'
   free:=fun j o' b hj hb=>by
    obtain ⟨i,p,g1,g2,_,g3⟩:=hpk j o' hj
    rw [g3] at hb
    exact S.free i p b g2 hb
   keep:=fun j o' b hj hb hN=>by
    obtain ⟨i,p,g1,g2,rfl,g3⟩:=hpk j o' hj
    rw [g3] at hb
    have:=S.keep i p b g2 hb hN
    cases p<;>exact this
   nlt:=S.nlt
   lt:=S.lt
   fut:=S.fut
   new:=S.new
   sub:=S.sub
   flat:=fun j=>by
    show (match lk (swaps m) j with | some i=>G i | none=>G0 j).oneCell' = true
    split
    ·exact S.flat _
    ·exact hf0 _
   odd:=fun j hj=>by
    show (match lk (swaps m) j with | some i=>G i | none=>G0 j)=G0 j
    split
    ·rename_i i hi
     have hm:(i,j) ∈ m:=mem_swaps.1 (lk_mem hi)
     have hs:j ∈ snds m:=by
      have:∀ l:List (Nat × Nat),(i,j) ∈ l→j ∈ snds l:=fun l=>by
       induction l with
       | nil=>intro h;cases h
       | cons x r ih=>
        intro h
        obtain ⟨p,q⟩:=x
        rcases List.mem_cons.1 h with h | h
        ·cases h;exact List.mem_cons_self ..
        ·exact List.mem_cons_of_mem _ (ih h)
      exact this m hm
     have:=Nat.eq_of_beq_eq_true (List.all_eq_true.1 hev j hs)
     omega
    ·rfl
   row:=S.row }
def EndsT (P:Program) (R:Out→Objs→Prop) (w:World) (Z:Nat→Prop) (G:Nat→Value) (objs:Objs):Ending→World→Prop:=fun e w'=>∃ out objs' Z' G',R out objs'∧RepOut w' Z' G' out e∧After P w Z G objs w' Z' G' objs'
theorem fnT_walkM {P:Program} {f:FuncId} {fn:Func} {code:Code} {F:Tr} (hf:P.funcs[f]? = some fn) (hbody:fn.body=some code) (hname:(fn.name == "runtime.NumGoroutine")=false)
  (h:∀ (vs:List SV) (objs:Objs) (R:Out→Objs→Prop),canonOk objs=true→F vs objs R→vs.length≤fn.ntmps∧∀ a w Z G,Sim P ⟨w,Blocks G objs,fun _=>False,Z,false,false,G,[]⟩ fn.ntmps ⟨argsT 0 vs,objs⟩ a w Z G→
    code.wp P (markPost P fn (EndsT P R w Z G objs)) a w):FnTr P f fn F where
 body:=by rw [hbody];rfl
 name:=hname
 calls:=by
  intro vs objs R hcan hF w Z G args hargs hst
  obtain ⟨hvl,h⟩:=h vs objs R hcan hF
  have hal:args.length=vs.length:=hargs.length.symm
  refine calls_marked hf hbody (h _ w Z G ?_)
  exact
   {size:=by simp only [Array.size_append,Array.size_replicate,List.size_toArray];omega
    calm:=rfl
    slot:=fun t=>by
     rcases argsT_get (vs:=vs) (k:=0) (t:=t) with h1 | ⟨_,s,h2,h3⟩
     ·show RepSV w Z _ (get (argsT 0 vs) t) _
      rw [h1];trivial
     ·show RepSV w Z _ (get (argsT 0 vs) t) _
      simp only [Nat.sub_zero] at h2
      have ht:t < args.length:=by have:=(List.getElem?_eq_some_iff.1 h2).1;omega
      have hv:(args.toArray ++ Array.replicate (fn.ntmps - args.toArray.size) undef).getD t undef=args[t]:=by
       rw [Array.getD_eq_getD_getElem?,Array.getElem?_append_left (by simpa using ht)]
       simp [ht]
      rw [hv,h3]
      have:=hargs.nth t args[t] (List.getElem?_eq_getElem ht)
      rwa [nth_getElem h2] at this
    obj:=hst.obj
    sep:=hst.sep
    free:=fun id o b h1 h2=>⟨hst.free id o b h1 h2,.inl ⟨id,o,h1,h2⟩⟩
    keep:=fun id o b _ _ h=>h.elim
    nlt:=fun _ h=>h.elim
    lt:=hst.lt
    fut:=Fut.refl _ w
    new:=fun b hb=>.inl hb
    sub:=fun b hb=>hb
    flat:=hst.flat
    odd:=fun _ _=>rfl
    row:=fun _ hb=>.inl hb }
theorem marked_restT {C:Ctx} (hC:C.Ok) {fn:Func} {w w':World} {Z Z':Nat→Prop} {G G':Nat→Value} {ds:List Deferred} {objs:Objs} {R:Out→Objs→Prop} {σ:St} {a:Act} {code:Code} {D:Nat} (hok:codeOk fn.ntmps code=true) (hdr:hasDraw code=false) (hl:LoopsOk C code 0)
  (S:Sim C.P ⟨w,Blocks G objs,fun _=>False,Z,false,false,G,ds⟩ fn.ntmps σ a w' Z' G') (hfl:∀ i,(G i).oneCell' = true) (hds:a.defers=[{ target:=.collected D,args:=#[] }]) (hD:w'.heap[D]? = some (.deferred (some []))) (hle:w.heap.size≤D) (hZD:¬ Z' D)
  (hbD:∀ id o,getO σ.objs id=some o→blk (G' id)≠some D) (h:Holds (exec (C.panics fun _ _=>False) code 0 σ (endT C.P fn objs R))):code.wp C.P (markPost C.P fn (EndsT C.P R w Z G objs)) a w':=by
 have Sr:=S.rebase (a':=a) rfl
 have hDl:D < w'.heap.size:=(Array.getElem?_eq_some_iff.1 hD).1
 have hnB:¬ Blocks G' σ.objs D:=fun ⟨i,o,ho,hb⟩=>hbD i o ho hb
 refine exec_sound (hC.panics fun _ _=>False) rfl rfl (fun _ h=>h) code 0 hok (hl.panics _) Sr h.out ?_ (fun _ _ _ _ _ _ _ h _ _=>False.elim h) (fun h=>by rw [hdr] at h;cases h)
 intro e σ2 a2 w2 Z2 G2 he S2
 have S2:Sim C.P ⟨w',Blocks G' σ.objs,fun _=>False,Z',false,false,G,a.defers⟩ fn.ntmps σ2 a2 w2 Z2 G2:=S2
 have hex:toExit e = .normal∨toExit e = .ret:=by
  cases e with
  | normal=>exact .inl rfl
  | ret=>exact .inr rfl
  | exit m=>exact he.elim
 have hfin:∃ rs,resVals C.P σ2 fn.results.toList=some rs∧finT objs R (.ret rs) σ2.objs:=by
  unfold endT at he
  split at he
  ·exact he.elim
  ·split at he
   ·rename_i rs hrs;exact ⟨rs,hrs,he⟩
   ·exact he.elim
 obtain ⟨rs,hrs,hfin⟩:=hfin
 have hD2:w2.heap[D]? = some (.deferred (some [])):=(S2.fut.block D hDl hnB).trans hD
 have hZ2:¬ Z2 D:=fun h=>by
  rcases S2.new D h with h | h | h | h
  ·exact hZD h
  ·exact hnB h
  ·exact h
  ·have h:w'.heap.size≤D:=h
   omega
 have S3:=S.unbase (fun _ h=>h) S2
 have S4:=S3.other (fut_put w2 D (.deferred none)) (fun b hb=>by
  subst hb
  refine ⟨hle,hZ2,fun id o ho hb=>?_⟩
  rcases (S2.free id o _ ho hb).2 with h | h | h
  ·exact hnB h
  ·exact h
  ·have h:w'.heap.size≤b:=h
   omega)
 obtain ⟨rv,hrun',hrr⟩:=resVals_rep S4 hrs
 have hres:(results fn a2.tmps).run C.P (w2.putObj D (.deferred none)) = .ok (if h:rv.toArray.size=1 then rv.toArray[0] else .tuple rv.toArray) (w2.putObj D (.deferred none)):=by
  rw [results_of,Array.mapM_eq_mapM_toList]
  simp [hrun']
 have hout:RepOut (w2.putObj D (.deferred none)) Z2 G2 (.ret rs) (.returned (if h:rv.toArray.size=1 then rv.toArray[0] else .tuple rv.toArray)):=by
  have hl:=hrr.length
  match rs,hrr with
  | [s],hrr=>
   obtain ⟨v,t,rfl,hv,ht⟩:=hrr
   have ht:t=[]:=ht
   subst ht
   exact ⟨_,rfl,hv⟩
  | [],hrr=>
   have hrr:rv=[]:=hrr
   subst hrr
   exact ⟨_,rfl,#[],rfl,rfl⟩
  | s :: s' :: rs,hrr=>
   refine ⟨_,rfl,rv.toArray,?_,by simpa using hrr⟩
   rw [dif_neg]
   simp at hl ⊢
   omega
 have:=finT_sound S4 hfl hout hfin
 exact ⟨hex,D,S2.calm.trans hds,hD2,_,hres,this⟩
end Go.Den

namespace Go.Mat
open Go Go.Den
theorem i64_in {x:Int} (h:-9223372036854775808≤x) (h':x≤9223372036854775807):IntKind.wrap .i64 x=x:=by
 simp only [IntKind.wrap,IntKind.bits,IntKind.signed];simp;split<;>omega
theorem u64_in {x:Int} (h:0≤x) (h':x < 18446744073709551616):IntKind.wrap .u64 x=x:=by
 simp only [IntKind.wrap,IntKind.bits,IntKind.signed];simp;omega
end Go.Mat

namespace Go.Mat
open Go Go.Den
abbrev e0 (s:U):U:=nth (.i 0) s.list 0
abbrev e1 (s:U):U:=nth (.i 0) s.list 1
abbrev e2 (s:U):U:=nth (.i 0) s.list 2
abbrev e3 (s:U):U:=nth (.i 0) s.list 3
abbrev e4 (s:U):U:=nth (.i 0) s.list 4
def spanMay (a b:Int):Bool:=decide (0≤a) && decide (a < b) && decide (b≤1073741824)
def spansR:Int→List U→Bool
 | _,[]=>true
 | last,s :: r=>spanMay (e0 s).int (e1 s).int && decide (last < (e0 s).int) && spansR (e1 s).int r
def spansAt (L:List U):Nat→Nat→Bool
 | _,0=>true
 | i,n + 1=>spanMay (e0 (U.at L i)).int (e1 (U.at L i)).int && (decide (i=0) || decide ((e1 (U.at L (i - 1))).int < (e0 (U.at L i)).int)) && spansAt L (i + 1) n
def letterR (c:Int):Bool:=(decide (97≤c) && decide (c≤122)) || (decide (48≤c) && decide (c≤57)) || decide (c=45) || decide (c=95) || decide (c=46)
def lettersR (l:List UInt8):Bool:=l.all fun c=>letterR c.toNat
def nameR (s:ByteArray):Bool:=!(s.data.toList == []) && decide (s.data.toList.length≤16) && lettersR s.data.toList
def placeR (st ct:Int):Bool:=decide (2≤st) && decide (st≤65536) && decide (0≤ct) && decide (ct≤65536 - st)
def mayR (k st ct sz sm c:Int):Bool:=
 if c < 0∨6 < c then false
 else if k=0∨k=1 then decide (st=0∧ct=0∧sz=0∧sm=0)
 else if k=2 then decide (ct=2 ^ c.toNat∧sz=0) && placeR st ct
 else if k=3 then decide (1≤ct∧ct < 2 ^ c.toNat∧1≤sz∧(ct - 1) * 16 < sz∧sz≤ct * 16) && placeR st ct
 else false
def noneR (k st ct sz sm:Int):Bool:=decide (k=0∧st=0∧ct=0∧sz=0∧sm=0)
def sizeR (n c:Int):Bool:=decide (0≤n) && decide (n≤4096) && decide (n % 2 ^ c.toNat=0)
theorem drop_at:∀ {L:List U} {i:Nat},i < L.length→L.drop i=U.at L i :: L.drop (i + 1)
 | _ :: _,0,_=>rfl
 | _ :: L,i + 1,h=>drop_at (L:=L) (i:=i) (by simpa using h)
theorem spansAt_eq:∀ (n:Nat) (L:List U) (i:Nat),L.length=i + n→spansAt L i n=spansR (if i=0 then -1 else (e1 (U.at L (i - 1))).int) (L.drop i)
 | 0,L,i,h=>by rw [List.drop_of_length_le (by omega)];rfl
 | n + 1,L,i,h=>by
  rw [drop_at (by omega),spansAt,spansR,spansAt_eq n L (i + 1) (by omega)]
  simp only [Nat.add_one_ne_zero,if_false,Nat.add_sub_cancel]
  congr 1
  by_cases hi:i=0
  ·subst hi
   simp only [decide_true,Bool.true_or,Bool.and_true,if_true]
   unfold spanMay
   by_cases h0:0≤(e0 (U.at L 0)).int
   ·simp [h0,show (-1:Int) < (e0 (U.at L 0)).int by omega]
   ·simp [h0]
  ·simp [hi]
theorem shl_one {c:Int} (h:0≤c) (h':c≤6):IntKind.wrap .i64 (1 * 2 ^ min c.toNat (IntKind.bits .i64))=2 ^ c.toNat:=by
 have:c=0∨c=1∨c=2∨c=3∨c=4∨c=5∨c=6:=by omega
 rcases this with rfl | rfl | rfl | rfl | rfl | rfl | rfl<;>rfl
theorem pow_le {c:Int} (h:0≤c) (h':c≤6):(1:Int)≤2 ^ c.toNat∧(2:Int) ^ c.toNat≤64:=by
 have:c=0∨c=1∨c=2∨c=3∨c=4∨c=5∨c=6:=by omega
 rcases this with rfl | rfl | rfl | rfl | rfl | rfl | rfl<;>decide
end Go.Mat

namespace Go.Mat
open Go Go.Den
def entOk (n c i k:Int) (e:U):Bool:=
 mayR (e0 e).int (e1 e).int (e2 e).int (e3 e).int (e4 e).int c && (noneR (e0 e).int (e1 e).int (e2 e).int (e3 e).int (e4 e).int || decide (IntKind.wrap .i64 (IntKind.wrap .i64 (i * 8) + k) < n))
def entsR (n c i:Int):Int→List U→Bool
 | _,[]=>true
 | k,e :: r=>entOk n c i k e && entsR n c i (k + 1) r
def someR (l:List U):Bool:=l.any fun e=>!noneR (e0 e).int (e1 e).int (e2 e).int (e3 e).int (e4 e).int
def leafR (n c i:Int) (l:List U):Bool:=decide (l.length=8) && entsR n c i 0 l && someR l
def leavesR (n c:Int):Int→List U→Bool
 | _,[]=>true
 | i,l :: r=>if l.list=[]∧r≠[] then leavesR n c (i + 1) r else leafR n c i l.list && leavesR n c (i + 1) r
def tableR (L:List U) (n c:Int):Bool:=if n < 0∨4096 < n∨c < 0∨6 < c then false else leavesR n c 0 L
def rentOk (n c i k:Int) (e:U):Bool:=
 mayR (e0 e).int (e1 e).int (e2 e).int (e3 e).int (e4 e).int c && (decide ((e0 e).int=0) || decide (IntKind.wrap .i64 (IntKind.wrap .i64 (i * 8) + k) < n))
def rentsR (n c i:Int):Int→List U→Bool
 | _,[]=>true
 | k,e :: r=>rentOk n c i k e && rentsR n c i (k + 1) r
def rsomeR (l:List U):Bool:=l.any fun e=>decide ((e0 e).int≠0)
def rleafR (n c i:Int) (l:List U):Bool:=decide (l.length=8) && rentsR n c i 0 l && rsomeR l
def rleavesR (n c:Int):Int→List U→Bool
 | _,[]=>true
 | i,l :: r=>if l.list=[] then rleavesR n c (i + 1) r else rleafR n c i l.list && rleavesR n c (i + 1) r
theorem may_none {k st ct sz sm c:Int} (h:mayR k st ct sz sm c=true):noneR k st ct sz sm=decide (k=0):=by
 unfold mayR at h
 unfold noneR
 rw [Bool.eq_iff_iff]
 simp only [decide_eq_true_eq]
 constructor
 ·exact fun h=>h.1
 ·intro hk
  split at h
  ·cases h
  ·rw [if_pos (.inl hk)] at h
   exact ⟨hk,of_decide_eq_true h⟩
theorem entOk_eq (n c i k:Int) (e:U):entOk n c i k e=rentOk n c i k e:=by
 unfold entOk rentOk
 cases hm:mayR (e0 e).int (e1 e).int (e2 e).int (e3 e).int (e4 e).int c with
 | false=>rfl
 | true=>rw [may_none hm]
theorem entsR_eq (n c i:Int):∀ (l:List U) (k:Int),entsR n c i k l=rentsR n c i k l
 | [],_=>rfl
 | e :: r,k=>by rw [entsR,rentsR,entOk_eq,entsR_eq n c i r]
theorem someR_eq {n c i:Int}:∀ (l:List U) (k:Int),entsR n c i k l=true→someR l=rsomeR l
 | [],_,_=>rfl
 | e :: r,k,h=>by
  rw [entsR,Bool.and_eq_true] at h
  have ih:=someR_eq r (k + 1) h.2
  unfold someR rsomeR at ih ⊢
  rw [List.any_cons,List.any_cons,ih]
  congr 1
  have hm:=h.1
  unfold entOk at hm
  rw [Bool.and_eq_true] at hm
  rw [may_none hm.1]
  simp
theorem leafR_eq (n c i:Int) (l:List U):leafR n c i l=rleafR n c i l:=by
 unfold leafR rleafR
 rw [← entsR_eq]
 cases h:entsR n c i 0 l with
 | false=>simp
 | true=>rw [someR_eq l 0 h]
theorem leafR_nil (n c i:Int):leafR n c i []=false:=rfl
def lastOk (L:List U):Bool:=decide (L=[]) || !decide ((nth (.i 0) L (L.length - 1)).list=[])
theorem lastOk_cons {l:U} {r:List U} (h:r≠[]):lastOk (l :: r)=lastOk r:=by
 unfold lastOk
 cases r with
 | nil=>exact absurd rfl h
 | cons x s=>
  simp
  rfl
theorem leavesR_eq (n c:Int):∀ (L:List U) (i:Int),leavesR n c i L=(lastOk L && rleavesR n c i L)
 | [],_=>rfl
 | l :: r,i=>by
  rw [leavesR,rleavesR,leavesR_eq n c r,leafR_eq]
  by_cases hr:r=[]
  ·subst hr
   by_cases hl:l.list=[]
   ·simp [hl,lastOk,← leafR_eq,leafR_nil]
   ·simp [hl,lastOk,rleavesR]
  ·rw [lastOk_cons hr]
   by_cases hl:l.list=[]
   ·simp [hl,hr]
   ·simp [hl]
    cases rleafR n c i l.list<;>cases lastOk r<;>simp
def rtableR (L:List U) (n c:Int):Bool:=if n < 0∨4096 < n∨c < 0∨6 < c then false else lastOk L && decide (L.length≤512) && rleavesR n c 0 L
theorem ents_some {n c i:Int} (hi:0≤i) (hi':i≤1099511627776) (hn:n≤4096):∀ (l:List U) (k:Int),0≤k→k + l.length≤1099511627776→entsR n c i k l=true→someR l=true→i < 512
 | [],_,_,_,_,h=>by cases h
 | e :: r,k,hk,hl,h1,h2=>by
  rw [entsR,Bool.and_eq_true] at h1
  have h2:(!noneR (e0 e).int (e1 e).int (e2 e).int (e3 e).int (e4 e).int || someR r)=true:=h2
  simp only [List.length_cons] at hl
  rw [Bool.or_eq_true] at h2
  rcases h2 with h2 | h2
  ·have h3:=h1.1
   unfold entOk at h3
   rw [Bool.and_eq_true,Bool.or_eq_true] at h3
   rcases h3.2 with h4 | h4
   ·rw [h4] at h2;cases h2
   ·have h5:=of_decide_eq_true h4
    rw [i64_in (x:=i * 8) (by omega) (by omega),i64_in (by omega) (by omega)] at h5
    omega
  ·exact ents_some hi hi' hn r (k + 1) (by omega) (by omega) h1.2 h2
theorem leaf_low {n c i:Int} {l:List U} (hi:0≤i) (hi':i≤1099511627776) (hn:n≤4096) (h:leafR n c i l=true):i < 512:=by
 unfold leafR at h
 simp only [Bool.and_eq_true,decide_eq_true_eq] at h
 exact ents_some hi hi' hn l 0 (by omega) (by omega) h.1.2 h.2
theorem leaves_low {n c:Int} (hn:n≤4096):∀ (L:List U) (i:Int),0≤i→i + L.length≤1099511627776→leavesR n c i L=true→L≠[]→i + L.length≤512
 | [],_,_,_,_,h=>absurd rfl h
 | l :: r,i,hi,hl,h,_=>by
  simp only [List.length_cons] at hl ⊢
  rw [leavesR] at h
  by_cases hr:r=[]
  ·subst hr
   rw [if_neg (fun h=>h.2 rfl),Bool.and_eq_true] at h
   have:=leaf_low hi (by omega) hn h.1
   simp
   omega
  ·have key:leavesR n c (i + 1) r=true:=by
    split at h
    ·exact h
    ·rw [Bool.and_eq_true] at h;exact h.2
   have:=leaves_low hn r (i + 1) (by omega) (by omega) key hr
   omega
theorem rtableR_eq {L:List U} {n c:Int} (h:L.length≤1099511627776):tableR L n c=rtableR L n c:=by
 unfold tableR rtableR
 split
 ·rfl
 ·rename_i hc
  rw [leavesR_eq]
  by_cases h5:L.length≤512
  ·simp [h5]
  ·rw [decide_eq_false h5,Bool.and_false,Bool.false_and]
   by_cases hx:(lastOk L && rleavesR n c 0 L)=true
   ·rw [← leavesR_eq] at hx
    have:=leaves_low (by omega) L 0 (by omega) (by omega) hx (fun h0=>by rw [h0] at h5;simp at h5)
    omega
   ·simpa using hx
end Go.Mat

namespace Go.Mat
open Go Go.Den Go.Proofs
noncomputable abbrev PR:Program:=Try.prog
noncomputable def eqs0 (t:TypeId):Option (List IntKind):=bif Nat.beq t 24 then some [.i64,.i64,.i64,.i64,.u32] else none
abbrev vi (n:U):SV:=.val (.int .i64) n
abbrev vb (n:U):SV:=.val .bool n
abbrev vs (n:U):SV:=.val .str n
abbrev vl (c:Ct) (n:U):SV:=.val (.sl false [c]) n
abbrev vt (cs:List Ct) (n:U):SV:=.val (.sl true cs) n
abbrev u8T:TypeId:=5
end Go.Mat

namespace Go.Mat
open Go Go.Den Go.Proofs
noncomputable abbrev K0:Ctx:=mkC PR eqs0 fnsNil trsNil noLoops noOut noOut
def spanMayS:List (List U)→List (List U):=fun us=>[[.b (spanMay (nth (.i 0) (nth [] us 0) 0).int (nth (.i 0) (nth [] us 0) 1).int)]]
def nameS:List (List U)→List (List U):=fun us=>[[.b (nameR (nth (.i 0) (nth [] us 0) 0).str)]]
def placeS:List (List U)→List (List U):=fun us=>[[.b (placeR (nth (.i 0) (nth [] us 0) 1).int (nth (.i 0) (nth [] us 0) 2).int)]]
def mayS:List (List U)→List (List U):=fun us=>[[.b (mayR (nth (.i 0) (nth [] us 0) 0).int (nth (.i 0) (nth [] us 0) 1).int (nth (.i 0) (nth [] us 0) 2).int (nth (.i 0) (nth [] us 0) 3).int (nth (.i 0) (nth [] us 0) 4).int (nth (.i 0) (nth [] us 1) 0).int)]]
def noneS:List (List U)→List (List U):=fun us=>[[.b (noneR (nth (.i 0) (nth [] us 0) 0).int (nth (.i 0) (nth [] us 0) 1).int (nth (.i 0) (nth [] us 0) 2).int (nth (.i 0) (nth [] us 0) 3).int (nth (.i 0) (nth [] us 0) 4).int)]]
def spansS:List (List U)→List (List U):=fun us=>[[.b (spansR (-1) (nth (.i 0) (nth [] us 0) 0).list)]]
noncomputable def mayC:Ctx:=mkC PR eqs0 (fnsCons 49 placeS fnsNil) trsNil noLoops noOut noOut
theorem spanMay_tree (R:RF) (a b:U):(run K0 Try.f69 [[a,b]] R)=(bif decide (U.int a ≥ (0:Int)) then bif decide (U.int a < U.int b) then R [[U.b (decide (U.int b≤(1073741824:Int)))]] else R [[U.b false]] else R [[U.b false]]):=by kernel_rfl
theorem rspanMay_tree (R:RF) (a b:U):(run K0 Try.f55 [[a,b]] R)=(bif decide (U.int a ≥ (0:Int)) then bif decide (U.int a < U.int b) then R [[U.b (decide (U.int b≤(1073741824:Int)))]] else R [[U.b false]] else R [[U.b false]]):=by kernel_rfl
theorem place_tree (R:RF) (a b c d e:U):(run K0 Try.f49 [[a,b,c,d,e]] R)=(bif decide (U.int b ≥ (2:Int)) then bif decide (U.int b≤(65536:Int)) then bif decide (U.int c ≥ (0:Int)) then R [[U.b (decide (U.int c≤IntKind.wrap IntKind.i64 ((65536:Int) - U.int b)))]] else
 R [[U.b false]] else R [[U.b false]] else R [[U.b false]]):=by kernel_rfl
theorem none_tree (R:RF) (a b c d e:U):(run K0 Try.f65 [[a,b,c,d,e]] R)=(R [[U.b (U.int a == (0:Int) && (U.int b == (0:Int) && (U.int c == (0:Int) && (U.int d == (0:Int) && (U.int e == (0:Int) && true)))))]]):=by kernel_rfl
theorem may_tree (R:RF) (a b c d e k:U):(run mayC Try.f23 [[a,b,c,d,e],[k]] R)=(bif decide (k.int < (0:Int)) then R [[U.b false]] else bif decide (k.int > (6:Int)) then R [[U.b false]] else bif decide (k.int < (0:Int)) then False else bif a.int == (0:Int) then R [[U.b (a.int == a.int && (b.int == (0:Int) && (c.int == (0:Int) && (d.int == (0:Int) && (e.int == (0:Int) && true)))))]] else bif a.int == (1:Int) then R [[U.b (a.int == a.int && (b.int == (0:Int) && (c.int == (0:Int) && (d.int == (0:Int) && (e.int == (0:Int) && true)))))]] else bif a.int == (2:Int) then bif c.int == IntKind.wrap .i64 ((1:Int) * (2:Int) ^ min (Int.toNat k.int) (IntKind.bits IntKind.i64)) then bif d.int == (0:Int) then R [[U.b (placeR b.int c.int)]] else R [[U.b false]] else R [[U.b false]] else bif a.int == (3:Int) then bif decide (c.int ≥ (1:Int)) then bif decide (c.int < IntKind.wrap .i64 ((1:Int) * (2:Int) ^ min (Int.toNat k.int) (IntKind.bits IntKind.i64))) then bif decide (d.int ≥ (1:Int)) then bif decide (d.int > IntKind.wrap .i64 (IntKind.wrap .i64 (c.int - (1:Int)) * (16:Int))) then bif decide (d.int≤IntKind.wrap .i64 (c.int * (16:Int))) then R [[U.b (placeR b.int c.int)]] else R [[U.b false]] else R [[U.b false]] else R [[U.b false]] else R [[U.b false]] else R [[U.b false]] else R [[U.b false]]):=by kernel_rfl
theorem rmay_tree (R:RF) (a b c d e k:U):(run K0 Try.f27 [[a,b,c,d,e],[k]] R)=(bif decide (k.int < (0:Int)) then R [[U.b false]] else bif decide (k.int > (6:Int)) then R [[U.b false]] else bif a.int == (0:Int) then bif a.int == (0:Int) then bif b.int == (0:Int) then bif c.int == (0:Int) then bif d.int == (0:Int) then R [[U.b (e.int == (0:Int))]] else R [[U.b false]] else R [[U.b false]] else R [[U.b false]] else bif a.int == (2:Int) then bif decide (b.int ≥ (2:Int)) then bif decide (IntKind.wrap .u64 k.int < (0:Int)) then False else bif c.int == IntKind.wrap .i64 ((1:Int) * (2:Int) ^ min (Int.toNat (IntKind.wrap .u64 k.int)) (IntKind.bits IntKind.i64)) then bif decide (b.int≤IntKind.wrap .i64 ((65536:Int) - c.int)) then R [[U.b (d.int == (0:Int))]] else R [[U.b false]] else R [[U.b false]] else R [[U.b false]] else bif a.int == (3:Int) then bif decide (b.int ≥ (2:Int)) then bif decide (c.int ≥ (1:Int)) then bif decide (IntKind.wrap .u64 k.int < (0:Int)) then False else bif decide (c.int < IntKind.wrap .i64 ((1:Int) * (2:Int) ^ min (Int.toNat (IntKind.wrap .u64 k.int)) (IntKind.bits IntKind.i64))) then bif decide (b.int≤IntKind.wrap .i64 ((65536:Int) - c.int)) then bif decide (d.int ≥ (1:Int)) then bif decide (d.int≤IntKind.wrap .i64 (c.int * (16:Int))) then R [[U.b (decide (d.int > IntKind.wrap .i64 (IntKind.wrap .i64 (c.int - (1:Int)) * (16:Int))))]] else R [[U.b false]] else R [[U.b false]] else R [[U.b false]] else R [[U.b false]] else R [[U.b false]] else R [[U.b false]] else R [[U.b false]] else bif a.int == (1:Int) then bif b.int == (0:Int) then bif c.int == (0:Int) then bif d.int == (0:Int) then R [[U.b (e.int == (0:Int))]] else R [[U.b false]] else R [[U.b false]] else R [[U.b false]] else bif a.int == (2:Int) then bif decide (b.int ≥ (2:Int)) then bif decide (IntKind.wrap .u64 k.int < (0:Int)) then False else bif c.int == IntKind.wrap .i64 ((1:Int) * (2:Int) ^ min (Int.toNat (IntKind.wrap .u64 k.int)) (IntKind.bits IntKind.i64)) then bif decide (b.int≤IntKind.wrap .i64 ((65536:Int) - c.int)) then R [[U.b (d.int == (0:Int))]] else R [[U.b false]] else R [[U.b false]] else R [[U.b false]] else bif a.int == (3:Int) then bif decide (b.int ≥ (2:Int)) then bif decide (c.int ≥ (1:Int)) then bif decide (IntKind.wrap .u64 k.int < (0:Int)) then False else bif decide (c.int < IntKind.wrap .i64 ((1:Int) * (2:Int) ^ min (Int.toNat (IntKind.wrap .u64 k.int)) (IntKind.bits IntKind.i64))) then bif decide (b.int≤IntKind.wrap .i64 ((65536:Int) - c.int)) then bif decide (d.int ≥ (1:Int)) then bif decide (d.int≤IntKind.wrap .i64 (c.int * (16:Int))) then R [[U.b (decide (d.int > IntKind.wrap .i64 (IntKind.wrap .i64 (c.int - (1:Int)) * (16:Int))))]] else R [[U.b false]] else R [[U.b false]] else R [[U.b false]] else R [[U.b false]] else R [[U.b false]] else R [[U.b false]] else R [[U.b false]]):=by kernel_rfl
theorem size_tree (R:RF) (a b:U):(run K0 Try.f56 [[a],[b]] R)=(bif decide (U.int a ≥ (0:Int)) then bif decide (U.int a≤(4096:Int)) then bif decide (U.int b < (0:Int)) then False else bif decide (IntKind.wrap IntKind.i64 ((1:Int) * (2:Int) ^ min (Int.toNat
 (U.int b)) (IntKind.bits IntKind.i64))=(0:Int)) then False else R [[U.b (Int.tmod (U.int a) (IntKind.wrap IntKind.i64 ((1:Int) * (2:Int) ^ min (Int.toNat (U.int b)) (IntKind.bits IntKind.i64)))
 == (0:Int))]] else R [[U.b false]] else R [[U.b false]]):=by kernel_rfl
theorem sized_tree (R:RF) (a b:U):(run K0 Try.f31 [[a],[b]] R)=(bif decide (U.int a ≥ (0:Int)) then bif decide (U.int a≤(4096:Int)) then bif decide (IntKind.wrap IntKind.u64 (U.int b) < (0:Int)) then False else bif decide (IntKind.wrap IntKind.u64 (U.int b)
 < (0:Int)) then False else R [[U.b (IntKind.wrap IntKind.i64 (Int.fdiv (U.int a) ((2:Int) ^ min (Int.toNat (IntKind.wrap IntKind.u64 (U.int b))) (IntKind.bits IntKind.i64)) * (2:Int) ^ min (Int.toNat
 (IntKind.wrap IntKind.u64 (U.int b))) (IntKind.bits IntKind.i64)) == U.int a)]] else R [[U.b false]] else R [[U.b false]]):=by kernel_rfl
noncomputable def spansLoop:LoopF:=fun _ svs _ k=>match svs with
 | [.val (.int .i64) i,.val (.int .i64) m,.val (.sl true [.int .i64,.int .i64]) L,.val (.int .i64) last]=>
  (m.int=(L.list.length:Int)∧0≤i.int∧i.int≤m.int)∧
  (bif spansR last.int (L.list.drop i.int.toNat) then k (.exit 0) ⟨[(2,.unk)],[]⟩ else k .ret ⟨[(2,vb (.b false))],[]⟩)
 | _=>False
noncomputable def spansC:Ctx:=mkC PR eqs0 (fnsCons 69 spanMayS fnsNil) trsNil (loopCons 0 [8,7,6,3] [] spansLoop noLoops) (outCons 0 [2] [] noOut) noOut
theorem spans_round (pan:KP) (μ:Mu) (N:Nat) (k:KE) (i m L last:U):(exec (spansC.panics pan) (loopBody Try.f59 0) 0 ⟨[(8,vi i),(7,vi m),(6,vt [.int .i64,.int .i64] L),(3,vi last)],[]⟩ (again PR (some ([2],[])) none pan [8,7,6,3] [] spansLoop μ N k))=(bif decide (i.int < m.int) then bif decide ((0:Int)≤i.int∧i.int < (L.list.length:Int)) then bif !spanMay (U.int (nth (U.i (0:Int)) (U.list (nth (U.i (0:Int)) L.list (Int.toNat i.int))) (0:Nat))) (U.int (nth (U.i (0:Int)) (List.tail (U.list (nth (U.i (0:Int)) L.list (Int.toNat i.int)))) (0:Nat))) then k Ex.ret (St.mk [(nat_lit 2,.val .bool (U.b false))] []) else bif decide (U.int (nth (U.i (0:Int)) (U.list (nth (U.i (0:Int)) L.list (Int.toNat i.int))) (0:Nat))≤last.int) then k Ex.ret (St.mk [(nat_lit 2,.val .bool (U.b false))] []) else bif Nat.blt (μ [.val (.int IntKind.i64) (U.i (IntKind.wrap .i64 (i.int + (1:Int)))),.val (.int IntKind.i64) m,.val (.sl true [.int .i64,.int .i64]) L,.val (.int IntKind.i64) (nth (U.i (0:Int)) (List.tail (U.list (nth (U.i (0:Int)) L.list (Int.toNat i.int)))) (0:Nat))] []) N then (m.int=(L.list.length:Int)∧(0:Int)≤IntKind.wrap .i64 (i.int + (1:Int))∧IntKind.wrap .i64 (i.int + (1:Int))≤m.int)∧bif spansR (U.int (nth (U.i (0:Int)) (List.tail (U.list (nth (U.i (0:Int)) L.list (Int.toNat i.int)))) (0:Nat))) (List.drop (Int.toNat (IntKind.wrap .i64 (i.int + (1:Int)))) L.list) then k (Ex.exit (nat_lit 0)) (St.mk [(nat_lit 2,.unk)] []) else k Ex.ret (St.mk [(nat_lit 2,.val .bool (U.b false))] []) else False else False else k (Ex.exit (nat_lit 0)) (St.mk [(nat_lit 2,.unk)] [])):=by kernel_rfl
theorem spans_tree (R:RF) (L:U):(run spansC Try.f59 [[L]] R)=(((↑(List.length (U.list L)):Int)=(↑(List.length (U.list L)):Int)∧(0:Int)≤(0:Int)∧(0:Int)≤(↑(List.length (U.list L)):Int))∧bif spansR (-1:Int) (List.drop (Int.toNat (0:Int))
 (U.list L)) then R [[U.b true]] else R [[U.b false]]):=by kernel_rfl
noncomputable def rspansLoop:LoopF:=fun _ svs _ k=>match svs with
 | [.val (.int .i64) i,.val (.sl true [.int .i64,.int .i64]) L]=>
  (0≤i.int∧i.int≤(L.list.length:Int))∧
  (bif spansAt L.list i.int.toNat (L.list.length - i.int.toNat) then k (.exit 0) ⟨[(2,.unk)],[]⟩ else k .ret ⟨[(2,vb (.b false))],[]⟩)
 | _=>False
noncomputable def rspansC:Ctx:=mkC PR eqs0 (fnsCons 55 spanMayS fnsNil) trsNil (loopCons 0 [3,0] [] rspansLoop noLoops) (outCons 0 [2] [] noOut) noOut
theorem rspans_round (pan:KP) (μ:Mu) (N:Nat) (k:KE) (i L:U):(exec (rspansC.panics pan) (loopBody Try.f36 0) 0 ⟨[(3,vi i),(0,vt [.int .i64,.int .i64] L)],[]⟩ (again PR (some ([2],[])) none pan [3,0] [] rspansLoop μ N k))=(bif decide (i.int < (L.list.length:Int)) then bif decide ((0:Int)≤i.int∧i.int < (L.list.length:Int)) then bif !spanMay (U.int (nth (U.i (0:Int)) (U.list (nth (U.i (0:Int)) L.list (Int.toNat i.int))) (0:Nat))) (U.int (nth (U.i (0:Int)) (List.tail (U.list (nth (U.i (0:Int)) L.list (Int.toNat i.int)))) (0:Nat))) then k Ex.ret (St.mk [(nat_lit 2,.val .bool (U.b false))] []) else bif decide (i.int > (0:Int)) then bif decide ((0:Int)≤i.int∧i.int < (L.list.length:Int)) then bif decide ((0:Int)≤IntKind.wrap .i64 (i.int - (1:Int))∧IntKind.wrap .i64 (i.int - (1:Int)) < (L.list.length:Int)) then bif decide (U.int (nth (U.i (0:Int)) (List.drop (0:Nat) (U.list (nth (U.i (0:Int)) L.list (Int.toNat i.int)))) (0:Nat))≤U.int (nth (U.i (0:Int)) (List.drop (1:Nat) (U.list (nth (U.i (0:Int)) L.list (Int.toNat (IntKind.wrap .i64 (i.int - (1:Int))))))) (0:Nat))) then k Ex.ret (St.mk [(nat_lit 2,.val .bool (U.b false))] []) else bif Nat.blt (μ [.val (.int IntKind.i64) (U.i (IntKind.wrap .i64 (i.int + (1:Int)))),.val (.sl true [.int .i64,.int .i64]) L] []) N then ((0:Int)≤IntKind.wrap .i64 (i.int + (1:Int))∧IntKind.wrap .i64 (i.int + (1:Int))≤(L.list.length:Int))∧bif spansAt L.list (Int.toNat (IntKind.wrap .i64 (i.int + (1:Int)))) (L.list.length - Int.toNat (IntKind.wrap .i64 (i.int + (1:Int)))) then k (Ex.exit (nat_lit 0)) (St.mk [(nat_lit 2,.unk)] []) else k Ex.ret (St.mk [(nat_lit 2,.val .bool (U.b false))] []) else False else False else False else bif Nat.blt (μ [.val (.int IntKind.i64) (U.i (IntKind.wrap .i64 (i.int + (1:Int)))),.val (.sl true [.int .i64,.int .i64]) L] []) N then ((0:Int)≤IntKind.wrap .i64 (i.int + (1:Int))∧IntKind.wrap .i64 (i.int + (1:Int))≤(L.list.length:Int))∧bif spansAt L.list (Int.toNat (IntKind.wrap .i64 (i.int + (1:Int)))) (L.list.length - Int.toNat (IntKind.wrap .i64 (i.int + (1:Int)))) then k (Ex.exit (nat_lit 0)) (St.mk [(nat_lit 2,.unk)] []) else k Ex.ret (St.mk [(nat_lit 2,.val .bool (U.b false))] []) else False else False else k (Ex.exit (nat_lit 0)) (St.mk [(nat_lit 2,.unk)] [])):=by kernel_rfl
theorem rspans_tree (R:RF) (L:U):(run rspansC Try.f36 [[L]] R)=(((0:Int)≤(0:Int)∧(0:Int)≤(↑(List.length (U.list L)):Int))∧bif spansAt (U.list L) (Int.toNat (0:Int)) (List.length (U.list L) - Int.toNat (0:Int)) then R [[U.b true]] else R [[U.b false]]):=by kernel_rfl
noncomputable def nameLoop:LoopF:=fun _ svs _ k=>match svs with
 | [.val (.int .i64) i,.val (.int .i64) m,.val .str s]=>
  (m.int=(s.str.size:Int)∧0≤i.int∧i.int≤m.int)∧
  (bif lettersR (s.str.data.toList.drop i.int.toNat) then k (.exit 0) ⟨[(2,.unk)],[]⟩ else k .ret ⟨[(2,vb (.b false))],[]⟩)
 | _=>False
noncomputable def nameC:Ctx:=mkC PR eqs0 fnsNil trsNil (loopCons 0 [14,13,0] [] nameLoop noLoops) (outCons 0 [2] [] noOut) noOut
theorem name_round (pan:KP) (μ:Mu) (N:Nat) (k:KE) (i m s:U):(exec (nameC.panics pan) (loopBody Try.f57 0) 0 ⟨[(14,vi i),(13,vi m),(0,vs s)],[]⟩ (again PR (some ([2],[])) none pan [14,13,0] [] nameLoop μ N k))=(bif decide (i.int < m.int) then bif decide ((0:Int)≤i.int∧i.int < (↑(ByteArray.size s.str):Int)) then bif decide ((↑(UInt8.toNat (List.getD (Array.toList (ByteArray.data s.str)) (Int.toNat i.int) (0:UInt8))):Int) < (97:Int)) then bif decide ((↑(UInt8.toNat (List.getD (Array.toList (ByteArray.data s.str)) (Int.toNat i.int) (0:UInt8))):Int) < (48:Int)) then bif (↑(UInt8.toNat (List.getD (Array.toList (ByteArray.data s.str)) (Int.toNat i.int) (0:UInt8))):Int) != (45:Int) then bif (↑(UInt8.toNat (List.getD (Array.toList (ByteArray.data s.str)) (Int.toNat i.int) (0:UInt8))):Int) != (95:Int) then bif (↑(UInt8.toNat (List.getD (Array.toList (ByteArray.data s.str)) (Int.toNat i.int) (0:UInt8))):Int) != (46:Int) then k Ex.ret (St.mk [(nat_lit 2,.val .bool (U.b false))] []) else bif Nat.blt (μ [.val (.int IntKind.i64) (U.i (IntKind.wrap .i64 (i.int + (1:Int)))),.val (.int IntKind.i64) m,.val .str s] []) N then (m.int=(↑(ByteArray.size s.str):Int)∧(0:Int)≤IntKind.wrap .i64 (i.int + (1:Int))∧IntKind.wrap .i64 (i.int + (1:Int))≤m.int)∧bif lettersR (List.drop (Int.toNat (IntKind.wrap .i64 (i.int + (1:Int)))) (Array.toList (ByteArray.data s.str))) then k (Ex.exit (nat_lit 0)) (St.mk [(nat_lit 2,.unk)] []) else k Ex.ret (St.mk [(nat_lit 2,.val .bool (U.b false))] []) else False else bif Nat.blt (μ [.val (.int IntKind.i64) (U.i (IntKind.wrap .i64 (i.int + (1:Int)))),.val (.int IntKind.i64) m,.val .str s] []) N then (m.int=(↑(ByteArray.size s.str):Int)∧(0:Int)≤IntKind.wrap .i64 (i.int + (1:Int))∧IntKind.wrap .i64 (i.int + (1:Int))≤m.int)∧bif lettersR (List.drop (Int.toNat (IntKind.wrap .i64 (i.int + (1:Int)))) (Array.toList (ByteArray.data s.str))) then k (Ex.exit (nat_lit 0)) (St.mk [(nat_lit 2,.unk)] []) else k Ex.ret (St.mk [(nat_lit 2,.val .bool (U.b false))] []) else False else bif Nat.blt (μ [.val (.int IntKind.i64) (U.i (IntKind.wrap .i64 (i.int + (1:Int)))),.val (.int IntKind.i64) m,.val .str s] []) N then (m.int=(↑(ByteArray.size s.str):Int)∧(0:Int)≤IntKind.wrap .i64 (i.int + (1:Int))∧IntKind.wrap .i64 (i.int + (1:Int))≤m.int)∧bif lettersR (List.drop (Int.toNat (IntKind.wrap .i64 (i.int + (1:Int)))) (Array.toList (ByteArray.data s.str))) then k (Ex.exit (nat_lit 0)) (St.mk [(nat_lit 2,.unk)] []) else k Ex.ret (St.mk [(nat_lit 2,.val .bool (U.b false))] []) else False else bif decide ((↑(UInt8.toNat (List.getD (Array.toList (ByteArray.data s.str)) (Int.toNat i.int) (0:UInt8))):Int) > (57:Int)) then bif (↑(UInt8.toNat (List.getD (Array.toList (ByteArray.data s.str)) (Int.toNat i.int) (0:UInt8))):Int) != (45:Int) then bif (↑(UInt8.toNat (List.getD (Array.toList (ByteArray.data s.str)) (Int.toNat i.int) (0:UInt8))):Int) != (95:Int) then bif (↑(UInt8.toNat (List.getD (Array.toList (ByteArray.data s.str)) (Int.toNat i.int) (0:UInt8))):Int) != (46:Int) then k Ex.ret (St.mk [(nat_lit 2,.val .bool (U.b false))] []) else bif Nat.blt (μ [.val (.int IntKind.i64) (U.i (IntKind.wrap .i64 (i.int + (1:Int)))),.val (.int IntKind.i64) m,.val .str s] []) N then (m.int=(↑(ByteArray.size s.str):Int)∧(0:Int)≤IntKind.wrap .i64 (i.int + (1:Int))∧IntKind.wrap .i64 (i.int + (1:Int))≤m.int)∧bif lettersR (List.drop (Int.toNat (IntKind.wrap .i64 (i.int + (1:Int)))) (Array.toList (ByteArray.data s.str))) then k (Ex.exit (nat_lit 0)) (St.mk [(nat_lit 2,.unk)] []) else k Ex.ret (St.mk [(nat_lit 2,.val .bool (U.b false))] []) else False else bif Nat.blt (μ [.val (.int IntKind.i64) (U.i (IntKind.wrap .i64 (i.int + (1:Int)))),.val (.int IntKind.i64) m,.val .str s] []) N then (m.int=(↑(ByteArray.size s.str):Int)∧(0:Int)≤IntKind.wrap .i64 (i.int + (1:Int))∧IntKind.wrap .i64 (i.int + (1:Int))≤m.int)∧bif lettersR (List.drop (Int.toNat (IntKind.wrap .i64 (i.int + (1:Int)))) (Array.toList (ByteArray.data s.str))) then k (Ex.exit (nat_lit 0)) (St.mk [(nat_lit 2,.unk)] []) else k Ex.ret (St.mk [(nat_lit 2,.val .bool (U.b false))] []) else False else bif Nat.blt (μ [.val (.int IntKind.i64) (U.i (IntKind.wrap .i64 (i.int + (1:Int)))),.val (.int IntKind.i64) m,.val .str s] []) N then (m.int=(↑(ByteArray.size s.str):Int)∧(0:Int)≤IntKind.wrap .i64 (i.int + (1:Int))∧IntKind.wrap .i64 (i.int + (1:Int))≤m.int)∧bif lettersR (List.drop (Int.toNat (IntKind.wrap .i64 (i.int + (1:Int)))) (Array.toList (ByteArray.data s.str))) then k (Ex.exit (nat_lit 0)) (St.mk [(nat_lit 2,.unk)] []) else k Ex.ret (St.mk [(nat_lit 2,.val .bool (U.b false))] []) else False else bif Nat.blt (μ [.val (.int IntKind.i64) (U.i (IntKind.wrap .i64 (i.int + (1:Int)))),.val (.int IntKind.i64) m,.val .str s] []) N then (m.int=(↑(ByteArray.size s.str):Int)∧(0:Int)≤IntKind.wrap .i64 (i.int + (1:Int))∧IntKind.wrap .i64 (i.int + (1:Int))≤m.int)∧bif lettersR (List.drop (Int.toNat (IntKind.wrap .i64 (i.int + (1:Int)))) (Array.toList (ByteArray.data s.str))) then k (Ex.exit (nat_lit 0)) (St.mk [(nat_lit 2,.unk)] []) else k Ex.ret (St.mk [(nat_lit 2,.val .bool (U.b false))] []) else False else bif decide ((↑(UInt8.toNat (List.getD (Array.toList (ByteArray.data s.str)) (Int.toNat i.int) (0:UInt8))):Int) > (122:Int)) then bif decide ((↑(UInt8.toNat (List.getD (Array.toList (ByteArray.data s.str)) (Int.toNat i.int) (0:UInt8))):Int) < (48:Int)) then bif (↑(UInt8.toNat (List.getD (Array.toList (ByteArray.data s.str)) (Int.toNat i.int) (0:UInt8))):Int) != (45:Int) then bif (↑(UInt8.toNat (List.getD (Array.toList (ByteArray.data s.str)) (Int.toNat i.int) (0:UInt8))):Int) != (95:Int) then bif (↑(UInt8.toNat (List.getD (Array.toList (ByteArray.data s.str)) (Int.toNat i.int) (0:UInt8))):Int) != (46:Int) then k Ex.ret (St.mk [(nat_lit 2,.val .bool (U.b false))] []) else bif Nat.blt (μ [.val (.int IntKind.i64) (U.i (IntKind.wrap .i64 (i.int + (1:Int)))),.val (.int IntKind.i64) m,.val .str s] []) N then (m.int=(↑(ByteArray.size s.str):Int)∧(0:Int)≤IntKind.wrap .i64 (i.int + (1:Int))∧IntKind.wrap .i64 (i.int + (1:Int))≤m.int)∧bif lettersR (List.drop (Int.toNat (IntKind.wrap .i64 (i.int + (1:Int)))) (Array.toList (ByteArray.data s.str))) then k (Ex.exit (nat_lit 0)) (St.mk [(nat_lit 2,.unk)] []) else k Ex.ret (St.mk [(nat_lit 2,.val .bool (U.b false))] []) else False else bif Nat.blt (μ [.val (.int IntKind.i64) (U.i (IntKind.wrap .i64 (i.int + (1:Int)))),.val (.int IntKind.i64) m,.val .str s] []) N then (m.int=(↑(ByteArray.size s.str):Int)∧(0:Int)≤IntKind.wrap .i64 (i.int + (1:Int))∧IntKind.wrap .i64 (i.int + (1:Int))≤m.int)∧bif lettersR (List.drop (Int.toNat (IntKind.wrap .i64 (i.int + (1:Int)))) (Array.toList (ByteArray.data s.str))) then k (Ex.exit (nat_lit 0)) (St.mk [(nat_lit 2,.unk)] []) else k Ex.ret (St.mk [(nat_lit 2,.val .bool (U.b false))] []) else False else bif Nat.blt (μ [.val (.int IntKind.i64) (U.i (IntKind.wrap .i64 (i.int + (1:Int)))),.val (.int IntKind.i64) m,.val .str s] []) N then (m.int=(↑(ByteArray.size s.str):Int)∧(0:Int)≤IntKind.wrap .i64 (i.int + (1:Int))∧IntKind.wrap .i64 (i.int + (1:Int))≤m.int)∧bif lettersR (List.drop (Int.toNat (IntKind.wrap .i64 (i.int + (1:Int)))) (Array.toList (ByteArray.data s.str))) then k (Ex.exit (nat_lit 0)) (St.mk [(nat_lit 2,.unk)] []) else k Ex.ret (St.mk [(nat_lit 2,.val .bool (U.b false))] []) else False else bif decide ((↑(UInt8.toNat (List.getD (Array.toList (ByteArray.data s.str)) (Int.toNat i.int) (0:UInt8))):Int) > (57:Int)) then bif (↑(UInt8.toNat (List.getD (Array.toList (ByteArray.data s.str)) (Int.toNat i.int) (0:UInt8))):Int) != (45:Int) then bif (↑(UInt8.toNat (List.getD (Array.toList (ByteArray.data s.str)) (Int.toNat i.int) (0:UInt8))):Int) != (95:Int) then bif (↑(UInt8.toNat (List.getD (Array.toList (ByteArray.data s.str)) (Int.toNat i.int) (0:UInt8))):Int) != (46:Int) then k Ex.ret (St.mk [(nat_lit 2,.val .bool (U.b false))] []) else bif Nat.blt (μ [.val (.int IntKind.i64) (U.i (IntKind.wrap .i64 (i.int + (1:Int)))),.val (.int IntKind.i64) m,.val .str s] []) N then (m.int=(↑(ByteArray.size s.str):Int)∧(0:Int)≤IntKind.wrap .i64 (i.int + (1:Int))∧IntKind.wrap .i64 (i.int + (1:Int))≤m.int)∧bif lettersR (List.drop (Int.toNat (IntKind.wrap .i64 (i.int + (1:Int)))) (Array.toList (ByteArray.data s.str))) then k (Ex.exit (nat_lit 0)) (St.mk [(nat_lit 2,.unk)] []) else k Ex.ret (St.mk [(nat_lit 2,.val .bool (U.b false))] []) else False else bif Nat.blt (μ [.val (.int IntKind.i64) (U.i (IntKind.wrap .i64 (i.int + (1:Int)))),.val (.int IntKind.i64) m,.val .str s] []) N then (m.int=(↑(ByteArray.size s.str):Int)∧(0:Int)≤IntKind.wrap .i64 (i.int + (1:Int))∧IntKind.wrap .i64 (i.int + (1:Int))≤m.int)∧bif lettersR (List.drop (Int.toNat (IntKind.wrap .i64 (i.int + (1:Int)))) (Array.toList (ByteArray.data s.str))) then k (Ex.exit (nat_lit 0)) (St.mk [(nat_lit 2,.unk)] []) else k Ex.ret (St.mk [(nat_lit 2,.val .bool (U.b false))] []) else False else bif Nat.blt (μ [.val (.int IntKind.i64) (U.i (IntKind.wrap .i64 (i.int + (1:Int)))),.val (.int IntKind.i64) m,.val .str s] []) N then (m.int=(↑(ByteArray.size s.str):Int)∧(0:Int)≤IntKind.wrap .i64 (i.int + (1:Int))∧IntKind.wrap .i64 (i.int + (1:Int))≤m.int)∧bif lettersR (List.drop (Int.toNat (IntKind.wrap .i64 (i.int + (1:Int)))) (Array.toList (ByteArray.data s.str))) then k (Ex.exit (nat_lit 0)) (St.mk [(nat_lit 2,.unk)] []) else k Ex.ret (St.mk [(nat_lit 2,.val .bool (U.b false))] []) else False else bif Nat.blt (μ [.val (.int IntKind.i64) (U.i (IntKind.wrap .i64 (i.int + (1:Int)))),.val (.int IntKind.i64) m,.val .str s] []) N then (m.int=(↑(ByteArray.size s.str):Int)∧(0:Int)≤IntKind.wrap .i64 (i.int + (1:Int))∧IntKind.wrap .i64 (i.int + (1:Int))≤m.int)∧bif lettersR (List.drop (Int.toNat (IntKind.wrap .i64 (i.int + (1:Int)))) (Array.toList (ByteArray.data s.str))) then k (Ex.exit (nat_lit 0)) (St.mk [(nat_lit 2,.unk)] []) else k Ex.ret (St.mk [(nat_lit 2,.val .bool (U.b false))] []) else False else bif Nat.blt (μ [.val (.int IntKind.i64) (U.i (IntKind.wrap .i64 (i.int + (1:Int)))),.val (.int IntKind.i64) m,.val .str s] []) N then (m.int=(↑(ByteArray.size s.str):Int)∧(0:Int)≤IntKind.wrap .i64 (i.int + (1:Int))∧IntKind.wrap .i64 (i.int + (1:Int))≤m.int)∧bif lettersR (List.drop (Int.toNat (IntKind.wrap .i64 (i.int + (1:Int)))) (Array.toList (ByteArray.data s.str))) then k (Ex.exit (nat_lit 0)) (St.mk [(nat_lit 2,.unk)] []) else k Ex.ret (St.mk [(nat_lit 2,.val .bool (U.b false))] []) else False else False else k (Ex.exit (nat_lit 0)) (St.mk [(nat_lit 2,.unk)] [])):=by kernel_rfl
theorem name_tree (R:RF) (s:U):(run nameC Try.f57 [[s]] R)=(bif ByteArray.toList (U.str s) == ByteArray.toList (ByteArray.mk #[]) then R [[U.b false]] else bif decide ((↑(ByteArray.size (U.str s)):Int) > (16:Int)) then R [[U.b false]] else ((↑(ByteArray.size
 (U.str s)):Int)=(↑(ByteArray.size (U.str s)):Int)∧(0:Int)≤(0:Int)∧(0:Int)≤(↑(ByteArray.size (U.str s)):Int))∧bif lettersR (List.drop (Int.toNat (0:Int)) (Array.toList (ByteArray.data
 (U.str s)))) then R [[U.b true]] else R [[U.b false]]):=by kernel_rfl
noncomputable def rnameLoop:LoopF:=fun _ svs _ k=>match svs with
 | [.val (.int .i64) i,.val .str s]=>
  (0≤i.int∧i.int≤(s.str.size:Int))∧
  (bif lettersR (s.str.data.toList.drop i.int.toNat) then k (.exit 0) ⟨[(2,.unk)],[]⟩ else k .ret ⟨[(2,vb (.b false))],[]⟩)
 | _=>False
noncomputable def rnameC:Ctx:=mkC PR eqs0 fnsNil trsNil (loopCons 0 [3,0] [] rnameLoop noLoops) (outCons 0 [2] [] noOut) noOut
theorem rname_round (pan:KP) (μ:Mu) (N:Nat) (k:KE) (i s:U):(exec (rnameC.panics pan) (loopBody Try.f32 0) 0 ⟨[(3,vi i),(0,vs s)],[]⟩ (again PR (some ([2],[])) none pan [3,0] [] rnameLoop μ N k))=(bif decide (i.int < (↑(ByteArray.size s.str):Int)) then bif decide ((0:Int)≤i.int∧i.int < (↑(ByteArray.size s.str):Int)) then bif decide ((↑(UInt8.toNat (List.getD (Array.toList (ByteArray.data s.str)) (Int.toNat i.int) (0:UInt8))):Int) ≥ (97:Int)) then bif decide ((↑(UInt8.toNat (List.getD (Array.toList (ByteArray.data s.str)) (Int.toNat i.int) (0:UInt8))):Int)≤(122:Int)) then bif Nat.blt (μ [.val (.int IntKind.i64) (U.i (IntKind.wrap .i64 (i.int + (1:Int)))),.val .str s] []) N then ((0:Int)≤IntKind.wrap .i64 (i.int + (1:Int))∧IntKind.wrap .i64 (i.int + (1:Int))≤(↑(ByteArray.size s.str):Int))∧bif lettersR (List.drop (Int.toNat (IntKind.wrap .i64 (i.int + (1:Int)))) (Array.toList (ByteArray.data s.str))) then k (Ex.exit (nat_lit 0)) (St.mk [(nat_lit 2,.unk)] []) else k Ex.ret (St.mk [(nat_lit 2,.val .bool (U.b false))] []) else False else bif decide ((↑(UInt8.toNat (List.getD (Array.toList (ByteArray.data s.str)) (Int.toNat i.int) (0:UInt8))):Int) ≥ (48:Int)) then bif decide ((↑(UInt8.toNat (List.getD (Array.toList (ByteArray.data s.str)) (Int.toNat i.int) (0:UInt8))):Int)≤(57:Int)) then bif Nat.blt (μ [.val (.int IntKind.i64) (U.i (IntKind.wrap .i64 (i.int + (1:Int)))),.val .str s] []) N then ((0:Int)≤IntKind.wrap .i64 (i.int + (1:Int))∧IntKind.wrap .i64 (i.int + (1:Int))≤(↑(ByteArray.size s.str):Int))∧bif lettersR (List.drop (Int.toNat (IntKind.wrap .i64 (i.int + (1:Int)))) (Array.toList (ByteArray.data s.str))) then k (Ex.exit (nat_lit 0)) (St.mk [(nat_lit 2,.unk)] []) else k Ex.ret (St.mk [(nat_lit 2,.val .bool (U.b false))] []) else False else bif (↑(UInt8.toNat (List.getD (Array.toList (ByteArray.data s.str)) (Int.toNat i.int) (0:UInt8))):Int) == (45:Int) then bif Nat.blt (μ [.val (.int IntKind.i64) (U.i (IntKind.wrap .i64 (i.int + (1:Int)))),.val .str s] []) N then ((0:Int)≤IntKind.wrap .i64 (i.int + (1:Int))∧IntKind.wrap .i64 (i.int + (1:Int))≤(↑(ByteArray.size s.str):Int))∧bif lettersR (List.drop (Int.toNat (IntKind.wrap .i64 (i.int + (1:Int)))) (Array.toList (ByteArray.data s.str))) then k (Ex.exit (nat_lit 0)) (St.mk [(nat_lit 2,.unk)] []) else k Ex.ret (St.mk [(nat_lit 2,.val .bool (U.b false))] []) else False else bif (↑(UInt8.toNat (List.getD (Array.toList (ByteArray.data s.str)) (Int.toNat i.int) (0:UInt8))):Int) == (95:Int) then bif Nat.blt (μ [.val (.int IntKind.i64) (U.i (IntKind.wrap .i64 (i.int + (1:Int)))),.val .str s] []) N then ((0:Int)≤IntKind.wrap .i64 (i.int + (1:Int))∧IntKind.wrap .i64 (i.int + (1:Int))≤(↑(ByteArray.size s.str):Int))∧bif lettersR (List.drop (Int.toNat (IntKind.wrap .i64 (i.int + (1:Int)))) (Array.toList (ByteArray.data s.str))) then k (Ex.exit (nat_lit 0)) (St.mk [(nat_lit 2,.unk)] []) else k Ex.ret (St.mk [(nat_lit 2,.val .bool (U.b false))] []) else False else bif !(↑(UInt8.toNat (List.getD (Array.toList (ByteArray.data s.str)) (Int.toNat i.int) (0:UInt8))):Int) == (46:Int) then k Ex.ret (St.mk [(nat_lit 2,.val .bool (U.b false))] []) else bif Nat.blt (μ [.val (.int IntKind.i64) (U.i (IntKind.wrap .i64 (i.int + (1:Int)))),.val .str s] []) N then ((0:Int)≤IntKind.wrap .i64 (i.int + (1:Int))∧IntKind.wrap .i64 (i.int + (1:Int))≤(↑(ByteArray.size s.str):Int))∧bif lettersR (List.drop (Int.toNat (IntKind.wrap .i64 (i.int + (1:Int)))) (Array.toList (ByteArray.data s.str))) then k (Ex.exit (nat_lit 0)) (St.mk [(nat_lit 2,.unk)] []) else k Ex.ret (St.mk [(nat_lit 2,.val .bool (U.b false))] []) else False else bif (↑(UInt8.toNat (List.getD (Array.toList (ByteArray.data s.str)) (Int.toNat i.int) (0:UInt8))):Int) == (45:Int) then bif Nat.blt (μ [.val (.int IntKind.i64) (U.i (IntKind.wrap .i64 (i.int + (1:Int)))),.val .str s] []) N then ((0:Int)≤IntKind.wrap .i64 (i.int + (1:Int))∧IntKind.wrap .i64 (i.int + (1:Int))≤(↑(ByteArray.size s.str):Int))∧bif lettersR (List.drop (Int.toNat (IntKind.wrap .i64 (i.int + (1:Int)))) (Array.toList (ByteArray.data s.str))) then k (Ex.exit (nat_lit 0)) (St.mk [(nat_lit 2,.unk)] []) else k Ex.ret (St.mk [(nat_lit 2,.val .bool (U.b false))] []) else False else bif (↑(UInt8.toNat (List.getD (Array.toList (ByteArray.data s.str)) (Int.toNat i.int) (0:UInt8))):Int) == (95:Int) then bif Nat.blt (μ [.val (.int IntKind.i64) (U.i (IntKind.wrap .i64 (i.int + (1:Int)))),.val .str s] []) N then ((0:Int)≤IntKind.wrap .i64 (i.int + (1:Int))∧IntKind.wrap .i64 (i.int + (1:Int))≤(↑(ByteArray.size s.str):Int))∧bif lettersR (List.drop (Int.toNat (IntKind.wrap .i64 (i.int + (1:Int)))) (Array.toList (ByteArray.data s.str))) then k (Ex.exit (nat_lit 0)) (St.mk [(nat_lit 2,.unk)] []) else k Ex.ret (St.mk [(nat_lit 2,.val .bool (U.b false))] []) else False else bif !(↑(UInt8.toNat (List.getD (Array.toList (ByteArray.data s.str)) (Int.toNat i.int) (0:UInt8))):Int) == (46:Int) then k Ex.ret (St.mk [(nat_lit 2,.val .bool (U.b false))] []) else bif Nat.blt (μ [.val (.int IntKind.i64) (U.i (IntKind.wrap .i64 (i.int + (1:Int)))),.val .str s] []) N then ((0:Int)≤IntKind.wrap .i64 (i.int + (1:Int))∧IntKind.wrap .i64 (i.int + (1:Int))≤(↑(ByteArray.size s.str):Int))∧bif lettersR (List.drop (Int.toNat (IntKind.wrap .i64 (i.int + (1:Int)))) (Array.toList (ByteArray.data s.str))) then k (Ex.exit (nat_lit 0)) (St.mk [(nat_lit 2,.unk)] []) else k Ex.ret (St.mk [(nat_lit 2,.val .bool (U.b false))] []) else False else bif decide ((↑(UInt8.toNat (List.getD (Array.toList (ByteArray.data s.str)) (Int.toNat i.int) (0:UInt8))):Int) ≥ (48:Int)) then bif decide ((↑(UInt8.toNat (List.getD (Array.toList (ByteArray.data s.str)) (Int.toNat i.int) (0:UInt8))):Int)≤(57:Int)) then bif Nat.blt (μ [.val (.int IntKind.i64) (U.i (IntKind.wrap .i64 (i.int + (1:Int)))),.val .str s] []) N then ((0:Int)≤IntKind.wrap .i64 (i.int + (1:Int))∧IntKind.wrap .i64 (i.int + (1:Int))≤(↑(ByteArray.size s.str):Int))∧bif lettersR (List.drop (Int.toNat (IntKind.wrap .i64 (i.int + (1:Int)))) (Array.toList (ByteArray.data s.str))) then k (Ex.exit (nat_lit 0)) (St.mk [(nat_lit 2,.unk)] []) else k Ex.ret (St.mk [(nat_lit 2,.val .bool (U.b false))] []) else False else bif (↑(UInt8.toNat (List.getD (Array.toList (ByteArray.data s.str)) (Int.toNat i.int) (0:UInt8))):Int) == (45:Int) then bif Nat.blt (μ [.val (.int IntKind.i64) (U.i (IntKind.wrap .i64 (i.int + (1:Int)))),.val .str s] []) N then ((0:Int)≤IntKind.wrap .i64 (i.int + (1:Int))∧IntKind.wrap .i64 (i.int + (1:Int))≤(↑(ByteArray.size s.str):Int))∧bif lettersR (List.drop (Int.toNat (IntKind.wrap .i64 (i.int + (1:Int)))) (Array.toList (ByteArray.data s.str))) then k (Ex.exit (nat_lit 0)) (St.mk [(nat_lit 2,.unk)] []) else k Ex.ret (St.mk [(nat_lit 2,.val .bool (U.b false))] []) else False else bif (↑(UInt8.toNat (List.getD (Array.toList (ByteArray.data s.str)) (Int.toNat i.int) (0:UInt8))):Int) == (95:Int) then bif Nat.blt (μ [.val (.int IntKind.i64) (U.i (IntKind.wrap .i64 (i.int + (1:Int)))),.val .str s] []) N then ((0:Int)≤IntKind.wrap .i64 (i.int + (1:Int))∧IntKind.wrap .i64 (i.int + (1:Int))≤(↑(ByteArray.size s.str):Int))∧bif lettersR (List.drop (Int.toNat (IntKind.wrap .i64 (i.int + (1:Int)))) (Array.toList (ByteArray.data s.str))) then k (Ex.exit (nat_lit 0)) (St.mk [(nat_lit 2,.unk)] []) else k Ex.ret (St.mk [(nat_lit 2,.val .bool (U.b false))] []) else False else bif !(↑(UInt8.toNat (List.getD (Array.toList (ByteArray.data s.str)) (Int.toNat i.int) (0:UInt8))):Int) == (46:Int) then k Ex.ret (St.mk [(nat_lit 2,.val .bool (U.b false))] []) else bif Nat.blt (μ [.val (.int IntKind.i64) (U.i (IntKind.wrap .i64 (i.int + (1:Int)))),.val .str s] []) N then ((0:Int)≤IntKind.wrap .i64 (i.int + (1:Int))∧IntKind.wrap .i64 (i.int + (1:Int))≤(↑(ByteArray.size s.str):Int))∧bif lettersR (List.drop (Int.toNat (IntKind.wrap .i64 (i.int + (1:Int)))) (Array.toList (ByteArray.data s.str))) then k (Ex.exit (nat_lit 0)) (St.mk [(nat_lit 2,.unk)] []) else k Ex.ret (St.mk [(nat_lit 2,.val .bool (U.b false))] []) else False else bif (↑(UInt8.toNat (List.getD (Array.toList (ByteArray.data s.str)) (Int.toNat i.int) (0:UInt8))):Int) == (45:Int) then bif Nat.blt (μ [.val (.int IntKind.i64) (U.i (IntKind.wrap .i64 (i.int + (1:Int)))),.val .str s] []) N then ((0:Int)≤IntKind.wrap .i64 (i.int + (1:Int))∧IntKind.wrap .i64 (i.int + (1:Int))≤(↑(ByteArray.size s.str):Int))∧bif lettersR (List.drop (Int.toNat (IntKind.wrap .i64 (i.int + (1:Int)))) (Array.toList (ByteArray.data s.str))) then k (Ex.exit (nat_lit 0)) (St.mk [(nat_lit 2,.unk)] []) else k Ex.ret (St.mk [(nat_lit 2,.val .bool (U.b false))] []) else False else bif (↑(UInt8.toNat (List.getD (Array.toList (ByteArray.data s.str)) (Int.toNat i.int) (0:UInt8))):Int) == (95:Int) then bif Nat.blt (μ [.val (.int IntKind.i64) (U.i (IntKind.wrap .i64 (i.int + (1:Int)))),.val .str s] []) N then ((0:Int)≤IntKind.wrap .i64 (i.int + (1:Int))∧IntKind.wrap .i64 (i.int + (1:Int))≤(↑(ByteArray.size s.str):Int))∧bif lettersR (List.drop (Int.toNat (IntKind.wrap .i64 (i.int + (1:Int)))) (Array.toList (ByteArray.data s.str))) then k (Ex.exit (nat_lit 0)) (St.mk [(nat_lit 2,.unk)] []) else k Ex.ret (St.mk [(nat_lit 2,.val .bool (U.b false))] []) else False else bif !(↑(UInt8.toNat (List.getD (Array.toList (ByteArray.data s.str)) (Int.toNat i.int) (0:UInt8))):Int) == (46:Int) then k Ex.ret (St.mk [(nat_lit 2,.val .bool (U.b false))] []) else bif Nat.blt (μ [.val (.int IntKind.i64) (U.i (IntKind.wrap .i64 (i.int + (1:Int)))),.val .str s] []) N then ((0:Int)≤IntKind.wrap .i64 (i.int + (1:Int))∧IntKind.wrap .i64 (i.int + (1:Int))≤(↑(ByteArray.size s.str):Int))∧bif lettersR (List.drop (Int.toNat (IntKind.wrap .i64 (i.int + (1:Int)))) (Array.toList (ByteArray.data s.str))) then k (Ex.exit (nat_lit 0)) (St.mk [(nat_lit 2,.unk)] []) else k Ex.ret (St.mk [(nat_lit 2,.val .bool (U.b false))] []) else False else False else k (Ex.exit (nat_lit 0)) (St.mk [(nat_lit 2,.unk)] [])):=by kernel_rfl
theorem rname_tree (R:RF) (s:U):(run rnameC Try.f32 [[s]] R)=(bif ByteArray.toList (U.str s) == ByteArray.toList (ByteArray.mk #[]) then R [[U.b false]] else bif decide ((↑(ByteArray.size (U.str s)):Int) > (16:Int)) then R [[U.b false]] else ((0:Int)≤(0 :
 Int)∧(0:Int)≤(↑(ByteArray.size (U.str s)):Int))∧bif lettersR (List.drop (Int.toNat (0:Int)) (Array.toList (ByteArray.data (U.str s)))) then R [[U.b true]] else R [[U.b false]]):=by kernel_rfl
end Go.Mat
