/- A part of the proof of this: the program mends a meta as the document does, and what was handed in stays what it was. Conditions: none. Joined of DenL, DenO, DenP, DenQ, DenM, DenT, DenU, DenV, DenW, DenX, DenY, DenZ, DenRF, DenRG, DenRH, DenRI, P1, P2, P3, B1, B2, B3, F1, F2. -/
import Derived.Test.YtjleagfibbbjnaaGreatC1
import Derived.Laws.Small
import Derived.OrdersHeld
import Derived.LoopN
import Derived.Laws.StructEq
import Derived.ProofKit
import Derived.Deep.Slices
import Derived.Below
import Derived.ShutString
import Derived.Carry
import Derived.OpenShut
import Derived.Defers
import Derived.Recover
import Derived.WideLaws
import Derived.RangeFuncRecord
import Derived.RangeFuncSeq
import Derived.OrdersIn
import Derived.Test.YtjleagfibbbjnaaGreatProg
import Derived.KernelRfl
namespace Go.Den
open Go Go.RowKit
section
variable {C:Ctx} {Θ:Anc} {n:Nat} {σ:St} {a:Act} {w:World} {Z:Nat→Prop} {G:Nat→Value} {o:Oper} {K:Act→World→Prop} {Q:Exit→Act→World→Prop} {k:St→Prop}
theorem dh (S:Sim C.P Θ n σ a w Z G) {x:Option Operand} {v:Option Int} (h:lst σ x=some v):(x=none∧v=none)∨∃ y kd i,x=some y∧v=some i∧a.eval y = .int kd i:=by
 unfold lst at h
 split at h
 ·injection h with h;exact .inl ⟨rfl,h.symm⟩
 ·rename_i y
  split at h
  ·rename_i kd u hu
   injection h with h
   have:=S.ev y
   rw [hu] at this
   exact .inr ⟨y,kd,u.int,rfl,h.symm,this.1⟩
  ·cases h
theorem eI {P:Program} {isSlice:Bool} {len cap:Nat} {lo hi mx:Option Operand} {l h m:Option Int} (hcap:len≤cap)
  (hl:(lo=none∧l=none)∨∃ y kd i,lo=some y∧l=some i∧a.eval y = .int kd i) (hh:(hi=none∧h=none)∨∃ y kd i,hi=some y∧h=some i∧a.eval y = .int kd i)
  (hm:(mx=none∧m=none)∨∃ y kd i,mx=some y∧m=some i∧a.eval y = .int kd i) (hmh:m.isSome=true→h.isSome=true)
  (hb:0≤l.getD 0∧l.getD 0≤h.getD len∧h.getD len≤m.getD (h.getD len)∧m.getD (h.getD len)≤len) :
  (Instr.sliceBounds isSlice len cap (lo.map a.eval) (hi.map a.eval) (mx.map a.eval)).run P w = .ok ((l.getD 0).toNat,(h.getD len).toNat,(m.getD cap).toNat) w:=by
 obtain ⟨b1,b2,b3,b4⟩:=hb
 have bound:∀ (k:IntKind) (i:Int) (y:Nat) (code:BoundsCode),0≤i→i≤y→(Instr.sliceBound (.int k i) y code).run P w = .ok i.toNat w:=fun k i y code h0 h1=>run_sliceBound w k i y code h0 h1
 rcases hm with ⟨rfl,rfl⟩ | ⟨ym,km,im,rfl,rfl,em⟩
 ·simp only [Option.getD_none,Option.map_none] at *
  rcases hh with ⟨rfl,rfl⟩ | ⟨yh,kh,ih,rfl,rfl,eh⟩
  ·simp only [Option.getD_none,Option.map_none] at *
   rcases hl with ⟨rfl,rfl⟩ | ⟨yl,kl,il,rfl,rfl,el⟩
   ·simp [Instr.sliceBounds]
   ·simp only [Option.getD_some,Option.map_some] at *
    simp [Instr.sliceBounds,el,bound kl il len _ b1 b2]
  ·simp only [Option.getD_some,Option.map_some] at *
   have c1:ih≤(cap:Int):=by omega
   rcases hl with ⟨rfl,rfl⟩ | ⟨yl,kl,il,rfl,rfl,el⟩
   ·simp only [Option.getD_none,Option.map_none] at *
    simp [Instr.sliceBounds,eh,bound kh ih cap _ (by omega) c1]
   ·simp only [Option.getD_some,Option.map_some] at *
    simp [Instr.sliceBounds,eh,el,bound kh ih cap _ (by omega) c1,bound kl il ih.toNat _ b1 (by omega)]
 ·rcases hh with ⟨rfl,rfl⟩ | ⟨yh,kh,ih,rfl,rfl,eh⟩
  ·exact absurd (hmh rfl) (by simp)
  ·simp only [Option.getD_some,Option.map_some] at *
   have c1:im≤(cap:Int):=by omega
   rcases hl with ⟨rfl,rfl⟩ | ⟨yl,kl,il,rfl,rfl,el⟩
   ·simp only [Option.getD_none,Option.map_none] at *
    simp [Instr.sliceBounds,em,eh,bound km im cap _ (by omega) c1,bound kh ih im.toNat _ (by omega) (by omega)]
   ·simp only [Option.getD_some,Option.map_some] at *
    simp [Instr.sliceBounds,em,eh,el,bound km im cap _ (by omega) c1,bound kh ih im.toNat _ (by omega) (by omega),bound kl il ih.toNat _ b1 (by omega)]
theorem uV {t e:TypeId} {x:Operand} {lo hi mx:Option Operand} {l h m:Option Int} {mm:Bool} {cs:List Ct} {u:U} (S:Sim C.P Θ n σ a w Z G) (hd:∀ t,o.dst=some t→t < n)
  (hk:∀ σ' a' w' Z' G',k σ'→Sim C.P Θ n σ' a' w' Z' G'→K a' w') (ho:o.op = .slice t x lo hi mx) (hu:C.P.underlying t=some (.slice e)) (hs:cI C.P e=some cs.length)
  (hl:lst σ lo=some l) (hh:lst σ hi=some h) (hm:lst σ mx=some m) (hmh:m.isSome=true→h.isSome=true) (hx:σ.ev x = .val (.sl mm cs) u)
  (hb:0≤l.getD 0∧l.getD 0≤h.getD u.list.length∧h.getD u.list.length≤m.getD (h.getD u.list.length)∧m.getD (h.getD u.list.length)≤u.list.length)
  (hkk:k (bS σ o.dst (.val (.sl mm cs) (.l ((u.list.take (h.getD u.list.length).toNat).drop (l.getD 0).toNat))))):o.wp C.P a w K Q:=by
 have hv:=S.ev x
 rw [hx] at hv
 obtain ⟨A,c,hv,hc,hcm,hel⟩:=hv
 have hbr:=eI (P:=C.P) (isSlice:=true) (w:=w) hc (dh S hl) (dh S hh) (dh S hm) hmh hb
 obtain ⟨b1,b2,b3,b4⟩:=hb
 have hm':(m.getD c).toNat=c∨(∃ im,m=some im∧(m.getD c).toNat=im.toNat):=by cases m with
  | none=>left;simp
  | some im=>right;exact ⟨im,rfl,rfl⟩
 refine aG (v:=.slice (if (m.getD c).toNat=(l.getD 0).toNat then A else A.map (·.add ((l.getD 0).toNat * cs.length))) ((h.getD u.list.length).toNat - (l.getD 0).toNat) ((m.getD c).toNat - (l.getD 0).toNat)) (w':=w) ?_ (hk _ _ _ _ _ hkk (S.put ?_ hd))
 ·simp [execOp,ho,hv,Instr.sliceAt,Instr.slice,run_underlying hu,hbr,cp hs]
 ·have hlen:((u.list.take (h.getD u.list.length).toNat).drop (l.getD 0).toNat).length=(h.getD u.list.length).toNat - (l.getD 0).toNat:=by
   simp only [List.length_drop,List.length_take];omega
  have hcapm:(h.getD u.list.length).toNat≤(m.getD c).toNat:=by
   cases m with
   | none=>simp only [Option.getD_none] at *;omega
   | some im=>simp only [Option.getD_some] at *;omega
  refine ⟨_,_,by rw [U.list_l,hlen],by rw [U.list_l,hlen];omega,?_,fun i hi=>?_⟩
  ·cases m with
   | none=>simp only [Option.getD_none] at *;omega
   | some im=>simp only [Option.getD_some] at *;omega
  rw [U.list_l,hlen] at hi
  obtain ⟨b,off,hA,hZ,hr⟩:=hel ((l.getD 0).toNat + i) (by omega)
  rw [if_neg (by omega),hA]
  refine ⟨b,off + (l.getD 0).toNat * cs.length,by simp [bp],hZ,?_⟩
  have hat:U.at (U.l ((u.list.take (h.getD u.list.length).toNat).drop (l.getD 0).toNat)).list i=U.at u.list ((l.getD 0).toNat + i):=by
   rw [U.list_l,dN _ _ (by rw [hlen];exact hi),dN _ _ (by omega)]
   simp
  rw [hat,Nat.add_assoc,← Nat.add_mul]
  exact hr
theorem pM {t e e':TypeId} {x:Operand} {lo hi mx:Option Operand} {l:Option Int} {m:Bool} {cs:List Ct} {id:Nat} {xs:List U} (S:Sim C.P Θ n σ a w Z G) (hd:∀ t,o.dst=some t→t < n)
  (hk:∀ σ' a' w' Z' G',k σ'→Sim C.P Θ n σ' a' w' Z' G'→K a' w') (ho:o.op = .slice t x lo hi mx) (hu:C.P.underlying t=some (.slice e)) (hs:cI C.P e=some cs.length)
  (hl:lst σ lo=some l) (hh:lst σ hi=some none) (hm:lst σ mx=some none) (hx:σ.ev x = .own id) (hob:az σ.objs id=some (.arr e' xs)) (hcs:Cs C.P e' = some (m,cs))
  (hb:0≤l.getD 0∧l.getD 0≤xs.length) (hkk:k (bS σ o.dst (.osl id (l.getD 0).toNat cs.length))):o.wp C.P a w K Q:=by
 have hv:a.eval x=G id:=by have:=S.ev x;rw [hx] at this;exact this
 obtain ⟨m2,cs2,vs,h1,h2,h3⟩:=S.obj id _ hob
 obtain ⟨A,c,hG,hc⟩:∃ A c,G id = .slice A xs.length c∧xs.length≤c:=by
  rcases h2.2 with ⟨h4,h5⟩ | ⟨g,cap,cur,h4,_,_,h6,_⟩
  ·exact ⟨none,0,by rw [h4,h5],by omega⟩
  ·exact ⟨_,cap,h4,h6⟩
 rw [hG] at hv
 have hbr:=eI (P:=C.P) (isSlice:=true) (w:=w) hc (dh S hl) (dh S hh) (dh S hm) (by simp) (by simp only [Option.getD_none];omega)
 refine aG (v:=gX (l.getD 0).toNat cs.length (G id)) (w':=w) ?_ (hk _ _ _ _ _ hkk (S.put (s:=.osl _ _ _) rfl hd))
 simp [execOp,ho,hv,Instr.sliceAt,Instr.slice,run_underlying hu,hbr,cp hs,gX,hG]
theorem ah.take1 {w:World} {Z:Nat→Prop} {c:Ct}:∀ {us:List U} {vs:List Value},ah w Z false [c] us vs→∀ n,ah w Z false [c] (us.take n) (vs.take n)
 | [],vs,h,n=>by have h:vs=[]:=h;subst h;simp;exact rfl
 | u :: us,vs,h,0=>by simp;exact rfl
 | u :: us,vs,h,n + 1=>by
  obtain ⟨p,q,rfl,hp,hq⟩:=h
  have hl:=hp.length
  match p,hl with
  | [x],_=>exact ⟨[x],q.take n,rfl,hp,hq.take1 n⟩
theorem ah.drop1 {w:World} {Z:Nat→Prop} {c:Ct}:∀ {us:List U} {vs:List Value},ah w Z false [c] us vs→∀ n,ah w Z false [c] (us.drop n) (vs.drop n)
 | [],vs,h,n=>by have h:vs=[]:=h;subst h;simp;exact rfl
 | u :: us,vs,h,0=>h
 | u :: us,vs,h,n + 1=>by
  obtain ⟨p,q,rfl,hp,hq⟩:=h
  have hl:=hp.length
  match p,hl with
  | [x],_=>exact hq.drop1 n
theorem t0 {P:Program} (S:Sim P Θ n σ a w Z G) {s:SV} {v:Value} {ys:List U} (hs:ag w Z G s v) (h:source P σ.objs false [.int .u8] false s=some ys) :
  ∃ A c news,v = .slice A ys.length c∧ah w Z false [.int .u8] ys news∧(ys≠[]→∃ b o,A=some ⟨b,o,none⟩∧∀ j u,news[j]? = some u→w.cell? ⟨b,o + j,none⟩=some u):=by
 unfold source at h
 simp only at h
 split at h
 ·rename_i u hu
  injection h with h
  subst h
  have plain:aR w Z (.sl false [.int .u8]) v u→∃ A c news,v = .slice A u.list.length c∧ah w Z false [.int .u8] u.list news∧(u.list≠[]→∃ b o,A=some ⟨b,o,none⟩∧∀ j x,news[j]? = some x→w.cell? ⟨b,o + j,none⟩=some x):=by
   rintro ⟨A,c,rfl,hc,_,hk'⟩
   cases hl:u.list with
   | nil=>exact ⟨A,c,[],rfl,rfl,fun h=>absurd rfl h⟩
   | cons x l=>
    rw [← hl]
    obtain ⟨b,o,hA,_⟩:=hk' 0 (by simp [hl])
    subst hA
    obtain ⟨vs,h1,h2⟩:=gq (us:=u.list) (o:=o) (b:=b) (fun k hkk=>by
     obtain ⟨b',o',hA,_,hr⟩:=hk' k hkk
     injection hA with hA
     injection hA with hb ho
     subst hb ho
     exact hr)
    exact ⟨_,c,vs,rfl,h1,fun _=>⟨b,o,rfl,h2⟩⟩
  unfold toU at hu
  split at hu
  ·rename_i id
   split at hu
   ·rename_i m1 cs1 e xs heq ho
    split at hu
    ·rename_i m' cs' hcs
     split at hu
     ·rename_i hb
      have hb:=Ct.beq_eq hb
      cases hb
      cases heq
      injection hu with hu
      subst hu
      obtain ⟨m2,cs2,vs,h1,h2,h3⟩:=S.obj id _ ho
      rw [hcs] at h1
      cases h1
      have hs:v=G id:=hs
      subst hs
      rcases h2.2 with ⟨h4,h5⟩ | ⟨g,cap,cur,h4,_⟩
      ·have hx:xs=[]:=List.eq_nil_of_length_eq_zero h5
       subst hx
       exact ⟨none,0,vs,h4,h3,fun h=>absurd rfl h⟩
      ·have hc:=World.ownsRow.cells h2 (g:=g) (by rw [h4];rfl)
       exact ⟨_,cap,vs,h4,h3,fun _=>⟨g,0,rfl,fun j u hj=>by have:=hc j u hj;rwa [bp] at this⟩⟩
     ·cases hu
    ·cases hu
   ·cases hu
  ·exact plain (dM hu hs)
 ·cases h
theorem Sim.setO_same {P:Program} (S:Sim P Θ n σ a w Z G) {id:Nat} {ob:Obj} (h:az σ.objs id=some ob):Sim P Θ n (σ.setO id ob) a w Z G:=by
 have he:∀ j,az (σ.setO id ob).objs j=az σ.objs j:=by
  intro j
  show az ((id,ob) :: dV σ.objs id) j=_
  rw [ba]
  by_cases e:id=j
  ·subst e;rw [if_pos rfl,h]
  ·rw [if_neg e,bO _ (Ne.symm e)]
 exact { size:=S.size,calm:=S.calm,slot:=S.slot,obj:=fun i o' hi=>S.obj i o' (by rw [← he i];exact hi),sep:=fun i i' o1 o2 b h1 h2=>S.sep i i' o1 o2 b (by rw [← he i];exact h1) (by rw [← he i'];exact h2),
         free:=fun i o1 b h1=>S.free i o1 b (by rw [← he i];exact h1),keep:=fun i o1 b h1=>S.keep i o1 b (by rw [← he i];exact h1),nlt:=S.nlt,lt:=S.lt,fut:=S.fut,new:=S.new,sub:=S.sub,flat:=S.flat,odd:=S.odd,row:=S.row }
theorem uz (z:Nat) (v:Value) (hv:∀ A n c,v = .slice A n c→A=none∨∃ b o,A=some ⟨b,o,none⟩):gX 0 z v=v:=by
 cases v<;>try rfl
 rename_i A n c
 show Value.slice (if c=0 then A else A.map (·.add (0 * z))) (n - 0) (c - 0)=_
 have:A.map (·.add (0 * z))=A:=by
  rcases hv _ _ _ rfl with rfl | ⟨b,o,rfl⟩
  ·rfl
  ·simp [bp]
 rw [this];simp
theorem pF {t tx e:TypeId} {p q:Operand} {args:Array Operand} {ts:Array TypeId} {id j:Nat} {ys:List U} (S:Sim C.P Θ n σ a w Z G) (hd:∀ t,o.dst=some t→t < n)
  (hk:∀ σ' a' w' Z' G',k σ'→Sim C.P Θ n σ' a' w' Z' G'→K a' w') (ho:o.op = .call { callee:=.builtin .copy,args:=args,argTypes:=ts }) (ha:args.toList=[p,q]) (ht:ts.toList=[t,tx])
  (hka:Θ.ka=false) (hu:C.P.underlying t=some (.slice e)) (hcs:Cs C.P e=some (false,[.int .u8])) (hsz:cI C.P e=some 1)
  (hsrc:source C.P σ.objs false [.int .u8] false (σ.ev q)=some ys) (hdst:a.eval p=gX j 1 (G id)) (h:ph C o e id j ys σ k):o.wp C.P a w K Q:=by
 have ha':args = #[p,q]:=by cases args;simp_all
 have ht':ts = #[t,tx]:=by cases ts;simp_all
 subst ha' ht'
 have hsz':(C.P.info? e).map (·.size)=some 1:=by
  unfold cI at hsz
  cases hi:C.P.info? e with
  | none=>rw [hi] at hsz;cases hsz
  | some i=>rw [hi] at hsz;simpa using hsz
 unfold ph at h
 split at h
 ·rename_i e' xs hob
  obtain ⟨hb,h⟩:=aA h
  simp only [Bool.and_eq_true] at hb
  have hee:=Nat.eq_of_beq_eq_true hb.1
  subst hee
  have hj:j≤xs.length:=of_decide_eq_true hb.2
  obtain ⟨m2,cs2,vs,g1,g2,g3⟩:=S.obj id _ hob
  rw [hcs] at g1
  cases g1
  obtain ⟨A,c,news,hq,hnews,hcells⟩:=t0 (ys:=ys) S (S.ev q) hsrc
  have hnl:news.length=ys.length:=by have:=hnews.length;simpa using this
  have hvl:vs.length=xs.length:=by have:=g3.length;simpa using this
  have htl:(ys.take (xs.length - j)).length=min (xs.length - j) ys.length:=List.length_take
  have hmax:xs.length≤maxLen:=(S.obj id _ hob).ok.1
  have fin:∀ w',(Builtin.copy_ #[t,tx] o.type #[a.eval p,a.eval q]).run C.P w = .ok (goInt (ys.take (xs.length - j)).length) w'→Sim C.P Θ n (σ.setO id (.arr e' (rB xs j ys))) a w' Z G→o.wp C.P a w K Q:=by
   intro w' hr S'
   refine aG (v:=goInt (ys.take (xs.length - j)).length) (w':=w') ?_ (hk _ _ _ _ _ h (S'.put (s:=.val _ _) ?_ hd))
   ·simp [execOp,ho,resolve,invoke,builtin,hr]
   ·refine ⟨rfl,?_,?_⟩
    ·show (-(2:Int) ^ 63)≤_
     simp only [U.int_i];omega
    ·show (((ys.take (xs.length - j)).length:Nat):Int)≤9223372036854775807
     have:(maxLen:Nat)=9223372036854775807:=by decide
     omega
  obtain ⟨gA,gc,hGid⟩:∃ gA gc,G id = .slice gA xs.length gc:=by
   rcases g2.2 with ⟨h4,h5⟩ | ⟨g,cap,cur,h4,_⟩
   ·exact ⟨none,0,by rw [h4,h5]⟩
   ·exact ⟨_,cap,h4⟩
  rw [hGid] at hdst
  have hdst:a.eval p = .slice (if gc=j then gA else gA.map (·.add (j * 1))) (xs.length - j) (gc - j):=hdst
  by_cases hz:min (xs.length - j) ys.length=0
  ·have htk:ys.take (xs.length - j)=[]:=List.eq_nil_of_length_eq_zero (by rw [htl];exact hz)
   have hov:rB xs j ys=xs:=by unfold rB;rw [htk];simp
   have hrun:=run_copy_none (P:=C.P) w t tx o.type e' (if gc=j then gA else gA.map (·.add (j * 1))) A (xs.length - j) (gc - j) ys.length c hu hsz' (by show min ys.length (xs.length - j)=0;omega)
   refine fin w ?_ ?_
   ·rw [hdst,hq,htk];exact hrun
   ·rw [hov];exact S.setO_same hob
  ·rcases g2.2 with ⟨h4,h5⟩ | ⟨g,cap,cur,h4,h40,h5,h6,h7,h8,h9⟩
   ·omega
   rw [hGid] at h4
   injection h4 with hA0 _ hc0
   subst hA0 hc0
   have hyne:ys≠[]:=fun e=>by rw [e] at hz;simp at hz
   obtain ⟨b,off,rfl,hcell⟩:=hcells hyne
   have hjc:¬ gc=j:=by omega
   rw [if_neg hjc] at hdst
   have hdst:a.eval p = .slice (some ⟨g,j,none⟩) (xs.length - j) (gc - j):=by
    rw [hdst];simp [bp]
   have hcl:(news.take (xs.length - j)).length=min (xs.length - j) ys.length:=by rw [List.length_take,hnl]
   have h1:∀ v ∈ news.take (xs.length - j),v.oneCell' = true:=fun v hv=>hnews.one v (List.mem_of_mem_take hv)
   have hat:∀ i,i < gc→(w.cell? ⟨g,i,none⟩).isSome=true:=fun i hi=>by
    have:i < cur.size:=by rw [h8];simpa using hi
    simp [World.cell?,h5,this]
   have hfr:∀ i,w.frozen? ⟨g,i,none⟩=false:=fun i=>by simp [World.frozen?,h5]
   have hrun:=run_copy_cells (P:=C.P) w t tx o.type e' g j (xs.length - j) (gc - j) ⟨b,off,none⟩ ys.length c (news.take (xs.length - j)) hu hsz' (by rw [hcl];show _=min ys.length (xs.length - j);omega)
    (fun i v hi=>by
      rw [bp]
      refine hcell i v ?_
      rw [List.getElem?_take] at hi
      split at hi
      ·exact hi
      ·cases hi) (fun i hi=>hat _ (by omega)) (fun i _=>hfr _) h1
   have hg:=cM g (news.take (xs.length - j)) j w
   obtain ⟨cur',k1,k2,k3⟩:=cc g e' (news.take (xs.length - j)) j w cur h5 (by rw [hcl,h8];simp;omega)
   have hbk:blk (G id)=some g:=by rw [hGid];rfl
   have hK:Stays w (w.setCells g j (news.take (xs.length - j))) Z Z:=⟨fun _ h=>h,fun c hc=>hg.block c (S.lt c hc) (fun e=>by
    cases e;exact (S.free id _ g hob hbk).1 hc)⟩
   have hel:ah w Z false [.int .u8] (rB xs j ys) (vs.take j ++ news.take (xs.length - j) ++ vs.drop (j + (news.take (xs.length - j)).length)):=by
    have e1:(news.take (xs.length - j)).length=(ys.take (xs.length - j)).length:=by rw [hcl,htl]
    rw [e1]
    exact ((g3.take1 j).app (hnews.take1 _)).app (g3.drop1 _)
   have hol:(rB xs j ys).length=xs.length:=by
    have:=hel.length
    simp only [List.length_append,List.length_take,List.length_drop,List.length_cons,List.length_nil,Nat.mul_one] at this
    omega
   refine fin _ ?_ (S.stored hob hbk hg (bV g _ _ w).2.2.2 hka ⟨false,[.int .u8],_,hcs,?_,hel.mono hK⟩)
   ·rw [hdst,hq,htl,← hcl];exact hrun
   ·rw [hol,hGid]
    have hel':=hel.length
    refine ⟨by rw [hel',hol],.inr ⟨g,gc,cur',rfl,Nat.zero_le _,k1,h6,h7,by rw [k3,h8],?_⟩⟩
    rw [k2]
    have hcurl:cur.toList.length=gc:=by simp [h8]
    have hcur:cur.toList=vs ++ cur.toList.drop xs.length:=by
     have h9:cur.toList.take xs.length=vs:=by simpa using h9
     rw [← h9,List.take_append_drop]
    generalize cur.toList.drop xs.length=tl at hcur
    rw [hcur]
    have hle:j + (news.take (xs.length - j)).length≤vs.length:=by rw [hcl,hvl];omega
    rw [List.take_append_of_le_length (l₁:=vs) (l₂:=tl) (i:=j) (by omega),List.drop_append_of_le_length hle,← List.append_assoc]
    have htot:(vs.take j ++ news.take (xs.length - j) ++ vs.drop (j + (news.take (xs.length - j)).length)).length=xs.length * [Ct.int IntKind.u8].length:=by rw [hel',hol]
    rw [← htot,List.take_left]
 ·cases h
theorem zg {l:List SV} {i:Nat} {c:Ct} {u:U} (h:nth .unk l i = .val c u):i < l.length:=by
 induction l generalizing i with
 | nil=>simp at h
 | cons x r ih=>cases i with
  | zero=>simp
  | succ i=>have:=ih (i:=i) h;simp;omega
theorem zW {f:FuncId} {cf:Operand} {args:Array Operand} {ts:Array TypeId} {e:Ext} (he:Hd C.P f e) (hkb:Θ.kb=false) (S:Sim C.P Θ n σ a w Z G) (hd:∀ t,o.dst=some t→t < n)
  (hk:∀ σ' a' w' Z' G',k σ'→Sim C.P Θ n σ' a' w' Z' G'→K a' w')
  (ho:o.op = .call { callee:=.value cf,args:=args,argTypes:=ts }) (hev:a.eval cf = .func (.func f) #[] #[]) (h:EM o.dst e (evs σ args.toList) σ k):o.wp C.P a w K Q:=by
 unfold EM at h
 split at h
 ·rename_i id off hargs
  obtain ⟨x,hx,hxv⟩:∃ x,args.toList=[x]∧σ.ev x = .ptr id off:=by
   cases hl:args.toList with
   | nil=>rw [hl] at hargs;cases hargs
   | cons x r=>cases r with
    | nil=>rw [hl] at hargs;exact ⟨x,rfl,by injection hargs⟩
    | cons y s=>rw [hl] at hargs;simp [evs] at hargs
  have hx':args = #[x]:=by apply Array.ext';simpa using hx
  obtain ⟨b,hG,hv⟩:∃ b,G id = .pointer (some ⟨b,0,none⟩)∧a.eval x = .pointer (some ⟨b,off,none⟩):=by have:=S.ev x;rw [hxv] at this;exact this
  split at h
  ·rename_i cells hob
   split at h
   ·rename_i u hc
    obtain ⟨b',ty,cur,h1,h2,h3⟩:=S.obj id _ hob
    rw [hG] at h1
    cases h1
    have hcl:cells.length=cur.size:=by have:=h3.length;simpa using this
    have hlt:off < cur.size:=by have:=zg hc;omega
    have hr:=h3.nth off cur[off] (by simp)
    rw [hc] at hr
    have hcell:cur[off] = .int .i64 u.int:=hr.1
    have hw:w.cell? ⟨b,off,none⟩=some (.int .i64 u.int):=by rw [cell_of_row w b off cur ty (0,0) h2,Array.getElem?_eq_getElem hlt,hcell]
    refine aG (v:=.int .i64 u.int) (w':=w) ?_ (hk _ _ _ _ _ h (S.put (by rw [← hcell];exact hr) hd))
    have:=he _ _ _ hw
    simp [execOp,ho,resolve,hev,Deferred.ofValue,invoke,hx',hv,this]
   ·cases h
  ·cases h
 ·rename_i id off y hargs
  obtain ⟨x,x2,hx,hxv,hxv2⟩:∃ x x2,args.toList=[x,x2]∧σ.ev x = .ptr id off∧σ.ev x2 = .val (.int .i64) y:=by
   cases hl:args.toList with
   | nil=>rw [hl] at hargs;cases hargs
   | cons x r=>cases r with
    | nil=>rw [hl] at hargs;simp [evs] at hargs
    | cons x2 s=>cases s with
     | nil=>rw [hl] at hargs;simp only [evs,List.cons.injEq,and_true] at hargs;exact ⟨x,x2,rfl,hargs.1,hargs.2⟩
     | cons y s=>rw [hl] at hargs;simp [evs] at hargs
  have hx':args = #[x,x2]:=by apply Array.ext';simpa using hx
  obtain ⟨b,hG,hv⟩:∃ b,G id = .pointer (some ⟨b,0,none⟩)∧a.eval x = .pointer (some ⟨b,off,none⟩):=by have:=S.ev x;rw [hxv] at this;exact this
  have hv2:a.eval x2 = .int .i64 y.int:=by have:=S.ev x2;rw [hxv2] at this;exact this.1
  split at h
  ·rename_i cells hob
   split at h
   ·rename_i u hc
    obtain ⟨b',ty,cur,h1,h2,h3⟩:=S.obj id _ hob
    rw [hG] at h1
    cases h1
    have hcl:cells.length=cur.size:=by have:=h3.length;simpa using this
    have hlt:off < cur.size:=by have:=zg hc;omega
    have hr:=h3.nth off cur[off] (by simp)
    rw [hc] at hr
    have hcell:cur[off] = .int .i64 u.int:=hr.1
    have hw:w.cell? ⟨b,off,none⟩=some (.int .i64 u.int):=by rw [cell_of_row w b off cur ty (0,0) h2,Array.getElem?_eq_getElem hlt,hcell]
    have hrun:=he _ _ y.int _ hw (by simp [World.frozen?,h2])
    obtain ⟨cur',g1,g2,g3⟩:=cc b ty [.int .i64 (IntKind.wrap .i64 (u.int + y.int))] off w cur h2 (by simp;omega)
    have hg:=cM b [.int .i64 (IntKind.wrap .i64 (u.int + y.int))] off w
    have hK:Stays w (w.setCells b off [.int .i64 (IntKind.wrap .i64 (u.int + y.int))]) Z Z:=⟨fun _ h=>h,fun c hc=>hg.block c (S.lt c hc) (fun e=>by
     cases e;exact (S.free id _ b hob (by rw [hG];rfl)).1 hc)⟩
    have hnew:∀ w':World,ag w' Z G (.val (.int .i64) (.i (IntKind.wrap .i64 (u.int + y.int)))) (.int .i64 (IntKind.wrap .i64 (u.int + y.int))):=fun w'=>du _ _
    have Snew:=S.stored (o':=.box (patch cells off [.val (.int .i64) (.i (IntKind.wrap .i64 (u.int + y.int)))])) hob (by rw [hG];rfl) hg (bV b _ _ w).2.2.2 hkb ⟨b,ty,cur',hG,g1,by
     rw [g2]
     exact ab.mono hK _ _ (h3.patch (m:=[.val (.int .i64) (.i (IntKind.wrap .i64 (u.int + y.int)))]) ⟨_,[],rfl,hnew w,rfl⟩ off)⟩
    refine aG (v:=.int .i64 (IntKind.wrap .i64 (u.int + y.int))) (w':=w.setCells b off [.int .i64 (IntKind.wrap .i64 (u.int + y.int))]) ?_ (hk _ _ _ _ _ h (Snew.put (hnew _) hd))
    simp [execOp,ho,resolve,hev,Deferred.ofValue,invoke,hx',hv,hv2,hrun]
    rfl
   ·cases h
  ·cases h
 ·cases h
theorem yg {f:FuncId} {cf:Operand} {args:Array Operand} {ts:Array TypeId} {cs:List SV} (hC:C.Ok) (hT:Θ.lets C o=true) (S:Sim C.P Θ n σ a w Z G) (hd:∀ t,o.dst=some t→t < n)
  (hk:∀ σ' a' w' Z' G',k σ'→Sim C.P Θ n σ' a' w' Z' G'→K a' w') (hp:∀ s σ' w' Z' G' v,C.pan s σ'→Sim C.P Θ n σ' a w' Z' G'→ag w' Z' G' s v→Q (.panic [{ v:=v,recovered:=false }]) a w')
  (ho:o.op = .call { callee:=.value cf,args:=args,argTypes:=ts }) (hcf:σ.ev cf = .clo f cs) (h:xx C o.dst f cf args.toList σ k):o.wp C.P a w K Q:=by
 unfold xx at h
 split at h
 ·cases h
 rename_i fn hf
 split at h
 ·rename_i e hE
  split at h
  case h_2=>cases h
  rename_i f' hcf2
  rw [hcf] at hcf2
  cases hcf2
  have hev:a.eval cf = .func (.func f) #[] #[]:=by
   have:=S.ev cf
   rw [hcf] at this
   obtain ⟨vs,h1,h2⟩:=this
   have h2:vs.toList=[]:=h2
   have:vs = #[]:=by apply Array.ext';simpa using h2
   rw [h1,this]
  have ht:Θ.kb=false:=by
   have htc:lJ C o=true:=by
    unfold lJ
    rw [ho]
    cases cf with
    | func g=>
     have:g=f:=by
      have:SV.clo g []=SV.clo f []:=hcf
      cases this;rfl
     subst this
     simp [hE]
    | tmp t=>rfl
    | const v=>rfl
    | global g=>rfl
   have hb:eF C o=true:=by unfold eF;rw [ho];exact htc
   unfold Anc.lets at hT
   rw [hb] at hT
   simp only [Bool.and_eq_true,Bool.or_eq_true] at hT
   simpa using hT.1
  exact zW (hC.exts f e hE) ht S hd hk ho hev h
 rename_i hE
 split at h
 ·rename_i fs F hF
  have ht:C.calm f=false→Θ.kb=false∧Θ.ka=false:=by
   intro hcalm
   have htc:lJ C o=true:=by
    unfold lJ
    rw [ho]
    cases cf with
    | func g=>
     have:g=f:=by
      have:SV.clo g []=SV.clo f cs:=hcf
      cases this;rfl
     subst this
     simp [hE,hF,hcalm]
    | tmp t=>rfl
    | const v=>rfl
    | global g=>rfl
   have hb:eF C o=true:=by unfold eF;rw [ho];exact htc
   have ha:jt C o=true:=by unfold jt;rw [ho];exact htc
   unfold Anc.lets at hT
   simpa [hb,ha] using hT
  exact vQ hC ht S hd hk hp ho hcf hf hF h
 ·split at h
  case h_2=>cases h
  rename_i f' hcf2
  rw [hcf] at hcf2
  cases hcf2
  have hev:a.eval cf = .func (.func f) #[] #[]:=by
   have:=S.ev cf
   rw [hcf] at this
   obtain ⟨vs,h1,h2⟩:=this
   have h2:vs.toList=[]:=h2
   have:vs = #[]:=by apply Array.ext';simpa using h2
   rw [h1,this]
  split at h
  ·rename_i hsc
   refine zh hC S hd hk ho hev hf (g:=toU C.P σ.objs) (Zc:=fun b=>Z b∨Live σ G b) (fun c s u v hu hs=>sI S hu hs) ?_ ?_ h
   ·rintro b (hb | ⟨id,e,ob,h1,h2⟩)
    ·exact S.lt b hb
    ·exact cg.lt S h1 h2
   ·intro rs svs w' v Z' hsv hrr h1 h2 h3
    refine ⟨fun b=>Z b,fun b hb=>.inl hb,fun b hb=>hb,fun b hb=>h2 b (h3 b (.inl hb)),?_⟩
    unfold iE at hrr ⊢
    split at hrr
    ·rename_i s
     obtain ⟨v',t',hv,hs,_⟩:=kA (Z':=Z) hsc hsv (vs:=[v]) ⟨v,[],rfl,hrr,rfl⟩
     cases hv
     exact hs
    ·rename_i hne
     obtain ⟨vs,rfl,hs⟩:=hrr
     exact ⟨vs,rfl,kA hsc hsv hs⟩
  ·split at h
   ·rename_i σ' hfr
    obtain ⟨Z',S'⟩:=cX S hfr
    exact zh hC S' hd hk ho hev hf (g:=cQ) (Zc:=Z') (fun c s u v hu hs=>dM hu hs) S'.lt
     (fun rs svs w' v Z'' hsv hrr h1 h2 h3=>⟨Z'',h1,h3,h2,hrr⟩) h
   ·cases h
theorem mV (hC:C.Ok) (hT:Θ.lets C o=true) (S:Sim C.P Θ n σ a w Z G) (hd:∀ t,o.dst=some t→t < n) (hst:∀ t x y,o.op = .store t x y→o.dst=none) (hst':∀ {t x i v},o.op = .mapUpdate t x i v→o.dst=none) (hst'':∀ {t x i v},o.op = .entryStore t x i v→o.dst=none) (hst3:∀ {t x i v},o.op = .insert t x i v→o.dst=none)
  (h:op1 C o σ k) (hk:∀ σ' a' w' Z' G',k σ'→Sim C.P Θ n σ' a' w' Z' G'→K a' w') (hp:∀ s σ' w' Z' G' v,C.pan s σ'→Sim C.P Θ n σ' a w' Z' G'→ag w' Z' G' s v→Q (.panic [{ v:=v,recovered:=false }]) a w'):o.wp C.P a w K Q:=by
 have h0:=h
 unfold op1 at h
 split at h
 ·rename_i x ho
  exact jy ho (hk _ _ _ _ _ h (S.put (S.ev x) hd))
 ·rename_i x ho
  split at h
  ·rename_i d e hn hdst hnc
   split at h
   ·rename_i hsm
    have hv:a.eval x = .slice none 0 0:=by have:=S.ev x;rw [uW hn] at this;exact this
    obtain ⟨i,m,cs,z,h1,h2,h3,h4,h5,h6,h7⟩:=bF hsm
    refine eY ho ?_
    rw [hv]
    exact jv (ob:=.arr e []) (s:=.own (2 * (d * 64 + 62))) (id:=2 * (d * 64 + 62)) (row:=none) (v:=.slice none 0 0) S hdst hd hk (by omega) ⟨rfl,rfl,rfl,Nat.le_refl _,fun _ _ _=>rfl⟩ (fun b hb=>by cases hb) (fun b hb=>by cases hb)
     ⟨m,cs,[],h2,by simp only [if_true];exact World.ownsRow_nil w 0 e cs.length,rfl⟩ (by show _=_;simp) h
   ·cases h
  ·exact eY ho (hk _ _ _ _ _ h (S.put (S.ev x) hd))
 ·rename_i c x y ho
  split at h
  ·rename_i u hu
   have hc:a.eval c = .bool u.bool:=by have:=S.ev c;rw [hu] at this;exact this
   refine E7 ho hc ?_
   rcases bL h with ⟨hb,h⟩ | ⟨hb,h⟩
   ·rw [hb];exact hk _ _ _ _ _ h (S.put (S.ev x) hd)
   ·rw [hb];exact hk _ _ _ _ _ h (S.put (S.ev y) hd)
  ·cases h
 ·rename_i t x ho
  split at h
  ·rename_i d hdst
   obtain ⟨hb,h⟩:=aA h
   exact np ho (mH S hdst hd hk (gE S hb).1 h)
  ·cases h
 ·rename_i t ho
  split at h
  ·rename_i d z hdst hz
   unfold zeroCells at hz
   split at hz
   ·rename_i i hi
    split at hz
    ·rename_i zv hzv
     injection hz with hz
     subst hz
     exact gO ho hi hzv (mH S hdst hd hk (gv _) h)
    ·cases hz
   ·cases hz
  ·cases h
 ·rename_i t ps ho
  split at h
  ·rename_i fs z hu hz
   split at h
   ·rename_i cs hs hf
    exact vJ S hd hk ho hu hz hs hf h
   ·cases h
  ·cases h
 ·rename_i t ne ps ho
  split at h
  ·rename_i e d hnc hdst
   split at h
   ·rename_i m cs σ' hcs hsm hfr
    obtain ⟨Z',S'⟩:=cX S hfr
    split at h
    ·rename_i z hz
     split at h
     ·rename_i hps
      exact xA S' hdst hd hk ho (cW hnc) hsm hps h
     ·cases h
    ·rename_i z hz
     split at h
     ·rename_i v hps
      split at h
      ·rename_i us hus
       obtain ⟨h1,h2⟩:Nat.ble cs.length 16777216=true∧k ((σ'.new (2 * (d * 64 + 63)) (.arr e [ofElem m us])).set d (.own (2 * (d * 64 + 63)))):=aA h
       refine rS S' hdst hd hk ho (cW hnc) hcs hsm hz (xs:=[ofElem m us]) ?_ (by have:=Nat.le_of_ble_eq_true h1;omega) (by omega) h2
       rw [hps]
       simp only [fk,hus]
       rfl
      ·cases h
     ·cases h
    ·rename_i z hne hz
     split at h
     ·rename_i xs hl
      obtain ⟨h1,h2⟩:=aA h
      simp only [Bool.and_eq_true] at h1
      exact rS S' hdst hd hk ho (cW hnc) hcs hsm hz hl (by have:=Nat.le_of_ble_eq_true h1.1;omega) (by have:=h1.2;simpa [Nat.blt_eq] using this) h2
     ·cases h
    ·cases h
   ·cases h
  ·cases h
 ·rename_i t l c ho
  split at h
  ·rename_i e d kl ul kc uc hnc hdst hl hc
   split at h
   ·rename_i z hsm hz
    obtain ⟨hb,h⟩:=aA h
    exact yk S hdst hd hk ho (cW hnc) hl hc hsm hz (of_decide_eq_true hb) h
   ·cases h
  ·cases h
 ·rename_i t x ho
  exact yi S hd hk ho h0
 ·rename_i t x y ho
  have hT:!Θ.kb && !Θ.ka:=by unfold Anc.lets eF jt at hT;rw [ho] at hT;exact hT
  simp only [Bool.and_eq_true,Bool.not_eq_true'] at hT
  exact wa hT.1 hT.2 S (hst _ _ _ ho) hk ho h0
 ·rename_i x ho
  have hx:=S.ev x
  split at h
  ·rename_i id off hp
   rw [hp] at hx
   obtain ⟨b,hG,hv⟩:=hx
   exact ki ho hv (hk _ _ _ _ _ h (S.put ⟨b,hG,rfl⟩ hd))
  ·rename_i id sz j off hp
   rw [hp] at hx
   obtain ⟨b,n',c,hG,hv⟩:=hx
   exact ki ho hv (hk _ _ _ _ _ h (S.put ⟨b,n',c,hG,rfl⟩ hd))
  ·rename_i cs us hp
   rw [hp] at hx
   obtain ⟨b,off,hv,hb,hr⟩:=hx
   exact ki ho hv (hk _ _ _ _ _ h (S.put ⟨b,off,rfl,hb,hr⟩ hd))
  ·cases h
 ·rename_i op t x y t2 ho
  exact Ia hC ho (S.ev x) (S.ev y) h (fun s v hs hv=>hk _ _ _ _ _ hs (S.put hv hd))
 ·rename_i t x ho
  split at h
  ·rename_i u hu
   have hx:a.eval x = .bool u.bool:=by have:=S.ev x;rw [hu] at this;exact this
   exact Ix ho hx (hk _ _ _ _ _ h (S.put rfl hd))
  ·cases h
 ·rename_i t x ho
  split at h
  ·rename_i i u hu
   have hx:a.eval x = .int i u.int:=by have:=S.ev x;rw [hu] at this;exact this.1
   exact IN ho hx (hk _ _ _ _ _ h (S.put (s:=.val _ _) (du _ _) hd))
  ·cases h
 ·rename_i t x ho
  split at h
  ·rename_i i u hu
   have hx:a.eval x = .int i u.int:=by have:=S.ev x;rw [hu] at this;exact this.1
   exact Cx ho hx (hk _ _ _ _ _ h (S.put (s:=.val _ _) (du _ _) hd))
  ·cases h
 ·rename_i s t x ho
  have hx:=S.ev x
  split at h
  ·rename_i i1 i kd u hs ht hp
   rw [hp] at hx
   have hx:a.eval x = .int kd u.int:=hx.1
   refine aG (v:=.int i (i.wrap u.int)) (w':=w) ?_ (hk _ _ _ _ _ h (S.put (s:=.val _ _) (du _ _) hd))
   simp [execOp,ho,hx,convert,run_underlying hs,run_underlying ht,Conv.intToInt]
  ·rename_i e hs ht
   split at h
   ·rename_i he
    split at h
    ·rename_i u hu
     have hr:=sI S hu hx
     have hrun:=mB (C:=C) hr
     refine aG (v:=.string ⟨(u.list.map fun x:U=>UInt8.ofNat x.int.toNat).toArray⟩) (w':=w) ?_ (hk _ _ _ _ _ h (S.put (s:=.val .str _) ⟨rfl,by have:=hr.ok.1;simpa [ByteArray.size] using this⟩ hd))
     obtain ⟨A,c,hv,_⟩:=hr
     rw [hv] at hrun
     simp [execOp,ho,hv,convert,run_underlying hs,run_underlying ht,run_underlying he,hrun]
    ·cases h
   ·cases h
  ·rename_i u hs ht hp
   rw [hp] at hx
   obtain ⟨hx,hxs⟩:a.eval x = .string u.str∧u.str.size≤maxLen:=hx
   refine aG (v:=.string u.str) (w':=w) ?_ (hk _ _ _ _ _ h (S.put (s:=.val .str _) ⟨rfl,hxs⟩ hd))
   simp [execOp,ho,hx,convert,run_underlying hs,run_underlying ht]
  ·cases h
 ·rename_i s x f ho
  split at h
  ·rename_i fd hf
   split at h
   ·rename_i k' hs
    have hx:=S.ev x
    split at h
    ·rename_i id off hp
     rw [hp] at hx
     obtain ⟨b,hG,hv⟩:=hx
     exact bn ho hf hs hv (hk _ _ _ _ _ h (S.put ⟨b,hG,rfl⟩ hd))
    ·rename_i id sz j off hp
     rw [hp] at hx
     obtain ⟨b,n',c,hG,hv⟩:=hx
     exact bn ho hf hs hv (hk _ _ _ _ _ h (S.put ⟨b,n',c,hG,by rw [Nat.add_assoc]⟩ hd))
    ·rename_i cs us hp
     rw [hp] at hx
     obtain ⟨b,off,hv,hb,hr⟩:=hx
     exact bn ho hf hs hv (hk _ _ _ _ _ h (S.put ⟨b,off + fd.offset,rfl,hb,hr.drop fd.offset⟩ hd))
    ·cases h
   ·cases h
  ·cases h
 ·rename_i s x f ho
  have hx:=S.ev x
  split at h
  ·rename_i fd cells hf hp
   rw [hp] at hx
   obtain ⟨vs,hv,hr⟩:=hx
   split at h
   ·rename_i v hpt
    obtain ⟨v',hrun,hrep⟩:=uF (P:=C.P) hr hpt
    exact CB ho hf hv (hrun w) (hk _ _ _ _ _ h (S.put hrep hd))
   ·cases h
  ·cases h
 ·rename_i t x i ho
  have hx:=S.ev x
  have hi:=S.ev i
  split at h
  ·rename_i e m cs u kd j hu hp hj
   rw [hp] at hx
   rw [hj] at hi
   obtain ⟨hb1,h⟩:=aA h
   obtain ⟨hb,h⟩:=aA h
   obtain ⟨h1,h2⟩:=of_decide_eq_true hb
   obtain ⟨A,c,hv,hc,hcm,hel⟩:=hx
   obtain ⟨b,off,hA,hZ,hr⟩:=hel j.int.toNat (by omega)
   rw [hA] at hv
   exact gy ho hu (cY hb1) hv hi.1 h1 h2 (hk _ _ _ _ _ h (S.put ⟨b,_,rfl,hZ,hr⟩ hd))
  ·rename_i e' id kd j hu hp hj
   rw [hp] at hx
   rw [hj] at hi
   split at h
   ·rename_i e xs hob
    split at h
    ·rename_i m cs hcs
     obtain ⟨hb1,h⟩:=aA h
     obtain ⟨hb,h⟩:=aA h
     obtain ⟨h1,h2⟩:=of_decide_eq_true hb
     obtain ⟨m2,cs2,vs,g1,g2,g3⟩:=S.obj id _ hob
     rw [hcs] at g1
     cases g1
     rcases g2.2 with ⟨_,g4⟩ | ⟨g,cap,cur,g4,_⟩
     ·omega
     have hx:a.eval x=G id:=hx
     rw [g4] at hx
     exact gy (off:=0) ho hu (cY hb1) hx hi.1 h1 h2 (hk _ _ _ _ _ h (S.put ⟨g,xs.length,cap,g4,by simp⟩ hd))
    ·cases h
   ·cases h
  ·cases h
 ·rename_i t x i ho
  have hx:=S.ev x
  have hi:=S.ev i
  split at h
  ·rename_i s kd j hu hp hj
   rw [hp] at hx
   rw [hj] at hi
   obtain ⟨hb,h⟩:=aA h
   obtain ⟨h1,h2⟩:=of_decide_eq_true hb
   exact CI ho hu hx.1 hi.1 h1 h2 (hk _ _ _ _ _ h (S.put (s:=.val _ _) (CO _) hd))
  ·cases h
 ·rename_i x i ho
  have hx:=S.ev x
  split at h
  ·rename_i vs hp
   rw [hp] at hx
   obtain ⟨us,hv,hr⟩:=hx
   obtain ⟨hb,h⟩:=aA h
   have hb:i < vs.length:=by simpa [Nat.blt_eq] using hb
   have hl:=hr.length
   have hi:i < us.size:=by simp at hl;omega
   have hget:us[i]? = some us[i]:=Array.getElem?_eq_getElem hi
   exact wW ho hv hget (hk _ _ _ _ _ h (S.put (hr.nth i _ (by simp [hi])) hd))
  ·cases h
 ·rename_i t x lo hi mx ho
  split at h
  ·rename_i e l h1 m hu hl hh hm
   split at h
   ·rename_i mm cs u hx
    obtain ⟨hsz,h⟩:=aA h
    unfold op1.sliceK at h
    obtain ⟨hb,h⟩:=aA h
    simp only [Bool.and_eq_true] at hb
    refine uV S hd hk ho hu (cY hsz) hl hh hm (fun hms=>?_) hx (of_decide_eq_true hb.1) h
    cases m with
    | none=>cases hms
    | some m=>cases h1 with
     | none=>simp at hb
     | some _=>rfl
   ·rename_i id hx
    split at h
    ·rename_i e' xs hob
     split at h
     ·rename_i mm cs hcs
      obtain ⟨hsz,h⟩:=aA h
      obtain ⟨hb,h⟩:=aA h
      exact pM S hd hk ho hu (cY hsz) hl hh hm hx hob hcs (of_decide_eq_true hb) h
     ·cases h
    ·cases h
   ·cases h
  ·rename_i l h1 hu hl hh hm
   split at h
   ·rename_i u hx
    obtain ⟨hb,h⟩:=aA h
    have hb:=of_decide_eq_true hb
    obtain ⟨hv,hvs⟩:a.eval x = .string u.str∧u.str.size≤maxLen:=by have:=S.ev x;rw [hx] at this;exact this
    have hbr:=eI (P:=C.P) (isSlice:=false) (w:=w) (len:=u.str.size) (cap:=u.str.size) (Nat.le_refl _) (dh S hl) (dh S hh) (.inl ⟨rfl,rfl⟩) (mx:=none) (m:=none) (by simp) ⟨hb.1,hb.2.1,by simp,by simpa using hb.2.2⟩
    have hmx:mx=none:=by
     rcases dh S hm with ⟨h2,_⟩ | ⟨y,kd,i,_,h2,_⟩
     ·exact h2
     ·cases h2
    subst hmx
    refine aG (v:=.string (u.str.extract (l.getD 0).toNat (h1.getD u.str.size).toNat)) (w':=w) ?_ (hk _ _ _ _ _ h (S.put (s:=.val .str _) ⟨rfl,by show (u.str.extract _ _).size≤maxLen;rw [ByteArray.size_extract];omega⟩ hd))
    simp only [Option.map_none] at hbr
    simp [execOp,ho,hv,Instr.sliceAt,Instr.slice,run_underlying hu,hbr]
   ·cases h
  ·cases h
 ·rename_i args ts ho
  split at h
  ·rename_i s t hargs hts
   obtain ⟨p,hp,rfl⟩:=ze hargs
   have hx:=S.ev p
   split at h
   ·rename_i e m cs u hu hev
    rw [hev] at hx
    have hl:u.list.length≤maxLen:=(aR.ok (c:=.sl m cs) hx).1
    obtain ⟨A,c,hv,_⟩:=hx
    exact fC ho hp hts hu hv (hk _ _ _ _ _ h (S.put (s:=.val _ _) (eE hl) hd))
   ·rename_i e id hu hev
    rw [hev] at hx
    split at h
    ·rename_i e' xs hob
     obtain ⟨m2,cs2,vs,g1,g2,g3⟩:=S.obj id _ hob
     have hl:xs.length≤maxLen:=(cg.ok (S.obj id _ hob)).1
     have hx:a.eval p=G id:=hx
     rcases g2.2 with ⟨g4,g5⟩ | ⟨g,cap,cur,g4,_⟩
     ·rw [g4] at hx
      rw [g5] at h
      exact fC ho hp hts hu hx (hk _ _ _ _ _ h (S.put (s:=.val _ _) (eE (Nat.zero_le _)) hd))
     ·rw [g4] at hx
      exact fC ho hp hts hu hx (hk _ _ _ _ _ h (S.put (s:=.val _ _) (eE hl) hd))
    ·cases h
   ·rename_i e hu hev
    rw [hev] at hx
    exact fC ho hp hts hu hx (hk _ _ _ _ _ h (S.put (s:=.val _ _) (eE (n:=0) (Nat.zero_le _)) hd))
   ·rename_i kt vt id hu hev
    rw [hev] at hx
    split at h
    ·rename_i t' es hob
     obtain ⟨b',ents,kt',vt',km,kcs,vm,vcs,g1,g2,g3,g4,g5,g6⟩:=S.obj id _ hob
     obtain ⟨b,hG,hv⟩:=hx
     rw [hG] at g1
     cases g1
     have hl:ents.size=es.length:=by simpa using bC.length g6
     obtain ⟨hb,h⟩:=aA h
     have hb:=Nat.le_of_ble_eq_true hb
     refine xE ho hp hts hu hv g2 ?_
     rw [hl]
     exact hk _ _ _ _ _ h (S.put (s:=.val _ _) (eE (by unfold room at hb;unfold maxLen;omega)) hd)
    ·cases h
   ·rename_i u hu hev
    rw [hev] at hx
    exact qA ho hp hts hu hx.1 (hk _ _ _ _ _ h (S.put (s:=.val _ _) (eE hx.2) hd))
   ·cases h
  ·cases h
 ·rename_i args ts ho
  split at h
  ·rename_i i x j y hargs
   obtain ⟨p,q,hp,hx,hy⟩:=od hargs
   obtain ⟨hs,h'⟩:=aA h
   have hij:=g9 hs
   subst hij
   have hvx:aR w Z (.int i) (a.eval p) x:=by have:=S.ev p;rw [← hx] at this;exact this
   have hvy:aR w Z (.int i) (a.eval q) y:=by have:=S.ev q;rw [← hy] at this;exact this
   have ha':args = #[p,q]:=by cases args;simp_all
   subst ha'
   refine aG (v:=.int i (bif decide (y.int < x.int) then y.int else x.int)) (w':=w) ?_ (hk _ _ _ _ _ h' (S.put (s:=.val (.int i) (.i _)) ⟨rfl,?_⟩ hd))
   ·simp [execOp,ho,resolve,invoke,builtin,hvx.1,hvy.1,run_min_int2]
   ·have h1:=hvx.2
    have h2:=hvy.2
    show i.min≤(bif decide (y.int < x.int) then y.int else x.int)∧(bif decide (y.int < x.int) then y.int else x.int)≤i.max
    cases decide (y.int < x.int)<;>first | exact h1 | exact h2
  ·cases h
 ·rename_i args ts ho
  split at h
  ·rename_i i x j y hargs
   obtain ⟨p,q,hp,hx,hy⟩:=od hargs
   obtain ⟨hs,h'⟩:=aA h
   have hij:=g9 hs
   subst hij
   have hvx:aR w Z (.int i) (a.eval p) x:=by have:=S.ev p;rw [← hx] at this;exact this
   have hvy:aR w Z (.int i) (a.eval q) y:=by have:=S.ev q;rw [← hy] at this;exact this
   have ha':args = #[p,q]:=by cases args;simp_all
   subst ha'
   refine aG (v:=.int i (bif decide (x.int < y.int) then y.int else x.int)) (w':=w) ?_ (hk _ _ _ _ _ h' (S.put (s:=.val (.int i) (.i _)) ⟨rfl,?_⟩ hd))
   ·simp [execOp,ho,resolve,invoke,builtin,hvx.1,hvy.1,run_max_int2]
   ·have h1:=hvx.2
    have h2:=hvy.2
    show i.min≤(bif decide (x.int < y.int) then y.int else x.int)∧(bif decide (x.int < y.int) then y.int else x.int)≤i.max
    cases decide (x.int < y.int)<;>first | exact h1 | exact h2
  ·cases h
 ·rename_i args ts ho
  split at h
  ·rename_i s x t tx d hargs hts hdst
   obtain ⟨p,q,hp,rfl,rfl⟩:=od hargs
   have hka:Θ.ka=false:=by unfold Anc.lets eF jt at hT;rw [ho] at hT;simp at hT;exact hT.2
   split at h
   ·rename_i e e' hnc hu
    exact mL (str:=false) S hdst hd hk ho hp hts hka (cW hnc) (by simpa using ⟨e',hu⟩) h
   ·rename_i e hnc hu
    exact mL (str:=true) S hdst hd hk ho hp hts hka (cW hnc) (by simpa using hu) h
   ·cases h
  ·cases h
 ·rename_i cf args ts ho
  split at h
  ·rename_i f cs hcf
   exact yg hC hT S hd hk hp ho hcf h
  ·cases h
 ·rename_i t x i ok ho
  exact tZ S hd hk ho h0
 ·rename_i t x i v ho
  have hT:Θ.kb=false:=by unfold Anc.lets eF at hT;rw [ho] at hT;simp at hT;exact hT.1
  exact tz hT S (hst' ho) hk ho h0
 ·rename_i t x i v ho
  have hT:Θ.kb=false:=by unfold Anc.lets eF at hT;rw [ho] at hT;simp at hT;exact hT.1
  exact s8 hT S (hst3 ho) hk ho h0
 ·rename_i t x i ho
  have hT:Θ.kb=false:=by unfold Anc.lets eF at hT;rw [ho] at hT;simp at hT;exact hT.1
  exact vx hT S hd hk ho h0
 ·rename_i t x i v ho
  have hT:Θ.kb=false:=by unfold Anc.lets eF at hT;rw [ho] at hT;simp at hT;exact hT.1
  exact nc hT S (hst'' ho) hk ho h0
 ·rename_i f first caps ho
  split at h
  ·rename_i hfi
   refine aG (v:=.func (.func f) #[] (caps.map a.eval)) (w':=w) ?_ (hk _ _ _ _ _ h (S.put ⟨_,rfl,by simpa using S.evs_rep caps.toList⟩ hd))
   have:first = #[]:=by apply Array.ext';simpa using hfi
   simp [execOp,ho,Instr.makeFunc,this]
  ·cases h
 ·rename_i t x ho
  split at h
  ·cases h
  ·rename_i d hni hu
   refine aG (v:=.iface t (a.eval x)) (w':=w) ?_ (hk _ _ _ _ _ h (S.put ⟨_,rfl,S.ev x⟩ hd))
   simp only [execOp,ho,Instr.makeInterface,Sem.run_bind,run_underlying hu,Result.andThen]
   cases d<;>first | rfl | (exact absurd hu (hni _))
  ·cases h
 ·rename_i x ho
  split at h
  ·rename_i t s hx
   have hr:=S.ev x
   rw [hx] at hr
   have hr':=hr
   obtain ⟨y,hv,_⟩:=hr
   unfold Oper.wp
   have hrun:(execOp a.eval o).run C.P w = .halt (.panic (.iface t y)) w:=by simp [execOp,ho,hv,Instr.panic,goPanic]
   rw [hrun]
   have:=hp _ _ _ _ _ _ h S hr'
   rw [hv] at this
   exact this
  ·cases h
 ·rename_i t ho
  split at h
  ·rename_i d kt vt hdst hu
   have hrun:(execOp a.eval o).run C.P w = .ok (.value (.map (some w.heap.size))) (w.alloc (.map #[] 0)):=by
    simp only [execOp,ho,Instr.makeMap,newObj]
    rfl
   obtain ⟨⟨km,kcs⟩,hk1⟩:∃ x,Cs C.P kt=some x:=by
    cases hx:Cs C.P kt with
    | none=>rw [hx] at h;exact h.elim
    | some x=>exact ⟨x,rfl⟩
   rw [hk1] at h
   obtain ⟨⟨vm,vcs⟩,hk2⟩:∃ x,Cs C.P vt=some x:=by
    cases hx:Cs C.P vt with
    | none=>rw [hx] at h;exact h.elim
    | some x=>exact ⟨x,rfl⟩
   rw [hk2] at h
   have hg:w.grownBy (w.alloc (.map #[] 0)) none:=World.grownBy_alloc w _ none
   have S':=S.newO (id:=2 * (d * 64)) (o:=.map t []) (v:=.pointer (some ⟨w.heap.size,0,none⟩)) (row:=none) (by omega) hg (fun b hb=>by cases hb) (fun b hb=>.inr (by simp [blk] at hb;omega))
    ⟨w.heap.size,#[],kt,vt,km,kcs,vm,vcs,by simp,heap_alloc_new w _,hu,hk1,hk2,rfl⟩
   have S'':=S'.put (d:=o.dst) (s:=.mp (2 * (d * 64))) (v:=.map (some w.heap.size)) ⟨w.heap.size,by simp,rfl⟩ hd
   refine aG hrun ?_
   rw [hdst] at S'' ⊢
   exact hk _ _ _ _ _ h S''
  ·cases h
 ·rename_i args ts ho
  split at h
  ·rename_i d s t tx hev hts
   split at h
   ·rename_i e e2 hne hux
    split at h
    ·rename_i ys hcs hsrc
     obtain ⟨hsz,h⟩:=aA h
     obtain ⟨p,q,hpq,hp,hq⟩:=od hev
     subst hp hq
     have hka:Θ.ka=false:=by unfold Anc.lets eF lJ jt at hT;rw [ho] at hT;simpa using hT
     split at h
     ·rename_i id hd0
      have hx:a.eval p=G id:=by have:=S.ev p;rw [hd0] at this;exact this
      refine pF S hd hk ho hpq hts hka (cW hne) hcs (cY hsz) hsrc ?_ h
      rw [hx,uz]
      intro A n' c' hG
      have hob:∃ e' xs,az σ.objs id=some (.arr e' xs):=by
       unfold ph at h
       split at h
       ·exact ⟨_,_,by assumption⟩
       ·cases h
      obtain ⟨e',xs,hob⟩:=hob
      obtain ⟨_,_,_,_,h2,_⟩:=S.obj id _ hob
      rcases h2.2 with ⟨h3,_⟩ | ⟨g,cap,cur,h3,_⟩
      ·rw [hG] at h3;injection h3 with h3;exact .inl h3
      ·rw [hG] at h3;injection h3 with h3;exact .inr ⟨_,_,h3⟩
     ·rename_i id j hd0
      have hx:a.eval p=gX j 1 (G id):=by have:=S.ev p;rw [hd0] at this;exact this
      exact pF S hd hk ho hpq hts hka (cW hne) hcs (cY hsz) hsrc hx h
     ·cases h
    ·cases h
   ·cases h
  ·cases h
 ·cases h
end
end Go.Den

namespace Go.Den
open Go Go.RowKit
section
variable {P:Program} {ops:Array Oper} {Q:Exit→Act→World→Prop} {md:Region.Mode}
def m4 (P:Program) (md:Region.Mode) (ops:Array Oper) (Q:Exit→Act→World→Prop):Nat→Array Bool→Act→World→(Nat→Prop)→Prop
 | 0,listed,a,w,_=>Region.ready md ops listed=[]∧Q .normal a w
 | fuel + 1,listed,a,w,H=>(Region.ready md ops listed=[]→Q .normal a w)∧
  ∀ i ∈ Region.ready md ops listed,wpOp P ops Q i (fun a' w'=>∃ H':Nat→Prop,(∀ b,H b→H' b)∧(∀ b,H b→w'.heap[b]? = w.heap[b]?)∧m4 P md ops Q fuel (listed.setIfInBounds i true) a' w' H') a w
theorem m4.any:∀ (fuel:Nat) (listed:Array Bool) (a:Act) (w:World) (H:Nat→Prop),m4 P md ops Q fuel listed a w H→wpAny P md ops Q fuel listed a w
 | 0,_,_,_,_,h=>h
 | fuel + 1,_,_,_,_,h=>⟨h.1,fun i hi=>wpOp_mono (fun a' w' ⟨_,_,_,h'⟩=>m4.any fuel _ a' w' _ h') (h.2 i hi)⟩
theorem wq {o:Oper} {v:Value} {a:Act} {S S':World→Prop} (h:∀ w,S' w→S w) (hy:YieldsIf P ops S o v a):YieldsIf P ops S' o v a:=
 hy.imp (fun ⟨h1,h2⟩=>⟨h1,fun w hw=>h2 w (h w hw)⟩) id
theorem m4.first {i:Nat} {oi:Oper} {v:Value} (hi:ops[i]? = some oi) (hsel:Region.noSelect ops=true) (hQ:∀ c a w d v,Q (.panic c) (a.put d v) w→Q (.panic c) a w) :
  ∀ (fuel:Nat) (listed:Array Bool) (a:Act) (w:World) (H:Nat→Prop),
   (∀ j oj,ops[j]? = some oj→j≠i→listed.getD j true=false→(∀ e ∈ oj.after,Region.binds md e=true→e.on≠i)→oi.apart ops oj=true)→
   i ∈ Region.ready md ops listed→YieldsIf P ops (fun w'=>∀ b,H b→w'.heap[b]? = w.heap[b]?) oi v a→m4 P md ops Q fuel (listed.setIfInBounds i true) (a.put oi.dst v) w H→m4 P md ops Q (fuel + 1) listed a w H:=by
 intro fuel
 induction fuel with
 | zero=>
  intro listed a w H _ hr hy h
  refine ⟨fun h=>(by rw [h] at hr;cases hr),fun j hj=>?_⟩
  by_cases hji:j=i
  ·subst hji;exact hy.wpOp hi (fun _ _=>rfl) ⟨H,fun _ h=>h,fun _ _=>rfl,h⟩
  ·have:=ready_mono hj hji
   rw [h.1] at this
   cases this
 | succ fuel ih=>
  intro listed a w H hfree hr hy h
  refine ⟨fun h=>(by rw [h] at hr;cases hr),fun j hj=>?_⟩
  by_cases hji:j=i
  ·subst hji;exact hy.wpOp hi (fun _ _=>rfl) ⟨H,fun _ h=>h,fun _ _=>rfl,h⟩
  ·have hjr:=ready_mono hj hji
   obtain ⟨hun,oj,hoj,hall⟩:=mem_ready.1 hj
   have hwait:∀ e ∈ oj.after,Region.binds md e=true→e.on≠i:=by
    intro e he hb heq
    have h1:=hall e he hb
    have h2:=(mem_ready.1 hr).1
    rw [heq] at h1
    by_cases hlt:i < listed.size
    ·simp [hlt] at h1 h2;rw [h1] at h2;cases h2
    ·simp [Array.getElem?_eq_none (Nat.le_of_not_lt hlt)] at h1
   have hput:=wpOp_putIf hoj (hfree j oj hoj hji hun hwait) (fun cs b=>Region.noSelect_spec hsel i oi cs b hi) (fun cs b=>Region.noSelect_spec hsel j oj cs b hoj)
    (fun c a w h=>hQ c a w _ _ h) hy (h.2 j hjr)
   refine wpOp_mono ?_ hput
   rintro a' w' ⟨hy',H',hsub,hsame,h'⟩
   refine ⟨H',hsub,hsame,ih (listed.setIfInBounds j true) a' w' H' ?_ (ready_mono hr (Ne.symm hji)) (wq (fun w'' h b hb=>(h b (hsub b hb)).trans (hsame b hb)) hy') ?_⟩
   ·intro k ok hk hki hkun hkw
    refine hfree k ok hk hki ?_ hkw
    by_cases hjk:j=k
    ·subst hjk;exact hun
    ·rw [getD_set_ne true hjk] at hkun;exact hkun
   ·rw [Array.setIfInBounds_comm _ _ hji]
    exact h'
theorem wF {id:Nat} {a:Act} {w:World} {H:Nat→Prop} (hm:P.follows .mixedOrders=true) (h:m4 P .any ops Q ops.size (Array.replicate ops.size false) a { w with drawn:=w.drawn + 1 } H):(Code.region id ops true).wp P Q a w:=
 wp_region_any hm (m4.any _ _ _ _ _ h)
end
end Go.Den

namespace Go.Den
open Go Go.RowKit
section
variable {C:Ctx} {a:Act} {w:World} {Z:Nat→Prop} {G:Nat→Value} {o:Oper}
theorem iI {op:BinOp} {t:TypeId} {x y:Operand} {i j:IntKind} {m n:Int} {v:Value} (hx:a.eval x = .int i m) (hy:a.eval y = .int j n)
  (h:∀ w':World,(binOp op t (.int i m) (.int j n)).run C.P w' = .ok v w'):∀ w':World,(do eqGuard op t x y (a.eval x) (a.eval y);binOp op t (a.eval x) (a.eval y)).run C.P w' = .ok v w':=by
 intro w'
 rw [hx,hy]
 simp only [Sem.run_bind,kn,Result.andThen,h]
theorem Gk (hC:C.Ok) {op:BinOp} {t:TypeId} {x y:Operand} {sx sy:SV} {k:SV→Prop} (hx:ag w Z G sx (a.eval x)) (hy:ag w Z G sy (a.eval y))
  (h:bin C op t sx sy k):∃ s v,k s∧ag w Z G s v∧∀ w':World,(do eqGuard op t x y (a.eval x) (a.eval y);binOp op t (a.eval x) (a.eval y)).run C.P w' = .ok v w':=by
 unfold bin at h
 split at h
 ·rename_i i m j n
  obtain ⟨hx,hmr⟩:a.eval x = .int i m.int∧i.min≤m.int∧m.int≤i.max:=hx
  have hy:a.eval y = .int j n.int:=hy.1
  split at h
  ·rcases bL h with ⟨_,h⟩ | ⟨hb,h⟩
   ·cases h
   ·have hb:¬ n.int < 0:=of_decide_eq_false hb
    refine ⟨_,.int i (i.wrap (m.int * 2 ^ (min n.int.toNat i.bits))),h,du _ _,iI hx hy fun w'=>?_⟩
    simp [binOp,Op.shift,hb]
  ·rcases bL h with ⟨_,h⟩ | ⟨hb,h⟩
   ·cases h
   ·have hb:¬ n.int < 0:=of_decide_eq_false hb
    refine ⟨_,.int i (m.int.fdiv (2 ^ (min n.int.toNat i.bits))),h,zq hmr _,iI hx hy fun w'=>?_⟩
    simp [binOp,Op.shift,hb]
  ·rename_i hnl hnr
   split at h
   ·cases h
   ·rename_i hs
    have:=g9 hs
    subst this
    split at h
    ·rcases bL h with ⟨_,h⟩ | ⟨hb,h⟩
     ·cases h
     ·have hb:¬ n.int=0:=of_decide_eq_false hb
      refine ⟨_,.int i (i.wrap (m.int.tdiv n.int)),h,du _ _,iI hx hy fun w'=>?_⟩
      simp [binOp,Op.intDiv,hb]
    ·rcases bL h with ⟨_,h⟩ | ⟨hb,h⟩
     ·cases h
     ·have hb:¬ n.int=0:=of_decide_eq_false hb
      refine ⟨_,.int i (m.int.tmod n.int),h,zw hmr _,iI hx hy fun w'=>?_⟩
      simp [binOp,Op.intDiv,hb]
    ·rename_i hnq hnm
     split at h
     ·rename_i z hz
      refine ⟨_,.int i z,h,rQ hz,iI hx hy fun w'=>?_⟩
      cases op<;>simp [arith] at hz<;>subst hz<;>simp [binOp,Op.intArith,Op.intBits]
     ·rename_i hz
      split at h
      ·rename_i b hb
       refine ⟨_,.bool b,h,rfl,iI hx hy fun w'=>?_⟩
       cases op<;>simp [cmp] at hb<;>subst hb<;>simp [binOp,Op.intCmp]
      ·cases h
 ·rename_i m n
  have hx:a.eval x = .string m.str:=hx.1
  have hy:a.eval y = .string n.str:=hy.1
  split at h
  ·refine ⟨_,.bool (m.str.toList == n.str.toList),h,rfl,fun w'=>?_⟩
   rw [hx,hy]
   simp [eqGuard,binOp,Op.stringOp]
  ·refine ⟨_,.bool !(m.str.toList == n.str.toList),h,rfl,fun w'=>?_⟩
   rw [hx,hy]
   simp [eqGuard,binOp,Op.stringOp]
  ·cases h
 ·rename_i m n
  have hx:a.eval x = .bool m.bool:=hx
  have hy:a.eval y = .bool n.bool:=hy
  split at h
  ·rename_i hu
   split at h
   ·refine ⟨_,.bool (m.bool == n.bool),h,rfl,fun w'=>?_⟩
    rw [hx,hy]
    simp [eqGuard,binOp,run_equal_bool hu]
   ·refine ⟨_,.bool !(m.bool == n.bool),h,rfl,fun w'=>?_⟩
    rw [hx,hy]
    simp [eqGuard,binOp,run_equal_bool hu]
   ·cases h
  ·cases h
 ·rename_i xs ys
  split at h
  ·rename_i ks hks
   split at h
   ·rename_i b hb
    obtain ⟨vs,hvx,hrx⟩:=hx
    obtain ⟨us,hvy,hry⟩:=hy
    obtain ⟨is,js,l1,l2,e1,e2,rfl⟩:=jh hb hrx hry
    have h12:=fun w'=>hC.eqs t ks hks x y is js w' l1 l2
    have hx:a.eval x=jZ ks is:=by rw [hvx];unfold jZ;rw [← e1]
    have hy:a.eval y=jZ ks js:=by rw [hvy];unfold jZ;rw [← e2]
    split at h
    ·refine ⟨_,.bool (decide (is=js)),h,rfl,fun w'=>?_⟩
     rw [hx,hy];exact (h12 w').1
    ·refine ⟨_,.bool (!decide (is=js)),h,rfl,fun w'=>?_⟩
     rw [hx,hy];exact (h12 w').2
    ·cases h
   ·cases h
  ·cases h
 ·rename_i mm cs u
  split at h
  ·rename_i el hu
   obtain ⟨A,c,hx,_,_,hel⟩:=hx
   have hy:a.eval y = .slice none 0 0:=hy
   cases A with
   | none=>
    have h0:=nA (fun h=>let ⟨b,o,e,_⟩:=hel 0 h;⟨b,o,e⟩)
    split at h
    ·refine ⟨_,.bool true,h.t h0,rfl,fun w'=>?_⟩
     rw [hx,hy]
     simp [eqGuard,binOp,cJ hu]
    ·refine ⟨_,.bool false,h.t h0,rfl,fun w'=>?_⟩
     rw [hx,hy]
     simp [eqGuard,binOp,cJ hu]
    ·cases h
   | some p=>
    split at h
    ·refine ⟨_,.bool false,h.f,rfl,fun w'=>?_⟩
     rw [hx,hy]
     simp [eqGuard,binOp,cJ hu]
    ·refine ⟨_,.bool true,h.f,rfl,fun w'=>?_⟩
     rw [hx,hy]
     simp [eqGuard,binOp,cJ hu]
    ·cases h
  ·cases h
 ·cases h
end
def kept (kb ka:Bool):Obj→Bool
 | .arr _ _=>ka
 | _=>kb
def l6 (kb ka:Bool) (σ:St) (G:Nat→Value) (Z:Nat→Prop) (b:Nat):Prop:=Z b∨∃ id ob,az σ.objs id=some ob∧blk (G id)=some b∧kept kb ka ob=true
section
variable {C:Ctx} {Θ:Anc} {n:Nat} {σ:St} {a:Act} {w:World} {Z:Nat→Prop} {G:Nat→Value} {o:Oper} {k:St→Prop}
theorem kq (hC:C.Ok) (S:Sim C.P Θ n σ a w Z G) {kb ka:Bool} (hq:ow C.P kb ka σ o=true) (h:op1 C o σ k) :
  ∃ s v,k (bS σ o.dst s)∧ag w Z G s v∧∀ w':World,(∀ b,l6 kb ka σ G Z b→w'.heap[b]? = w.heap[b]?)→(execOp a.eval o).run C.P w' = .ok (.value v) w':=by
 have h0:=h
 unfold ow at hq
 unfold op1 at h
 split at hq
 ·rename_i x ho
  simp only [ho] at h
  exact ⟨_,_,h,S.ev x,fun w' _=>by simp [execOp,ho]⟩
 ·rename_i x ho
  simp only [ho] at h
  have hn:isNil (σ.ev x)=false:=by simpa using hq
  split at h
  ·rename_i h1 _ _;rw [hn] at h1;cases h1
  ·exact ⟨_,_,h,S.ev x,fun w' _=>by simp [execOp,ho]⟩
 ·rename_i c x y ho
  simp only [ho] at h
  split at h
  ·rename_i u hu
   have hc:a.eval c = .bool u.bool:=by have:=S.ev c;rw [hu] at this;exact this
   rcases bL h with ⟨hb,h⟩ | ⟨hb,h⟩
   ·exact ⟨_,_,h,S.ev x,fun w' _=>by simp [execOp,ho,hc,asBool,hb]⟩
   ·exact ⟨_,_,h,S.ev y,fun w' _=>by simp [execOp,ho,hc,asBool,hb]⟩
  ·cases h
 ·rename_i t x ho
  simp only [ho] at h
  have hx:=S.ev x
  split at h
  ·rename_i id off hp
   rw [hp] at hx
   simp only [hp] at hq
   obtain ⟨b,hG,hv⟩:=hx
   split at h
   ·rename_i cells hob
    split at h
    ·rename_i s hs
     obtain ⟨b',ty,c,h1,h2,h3⟩:=S.obj id _ hob
     rw [hG] at h1
     cases h1
     obtain ⟨v,hl,hrep⟩:=gw (P:=C.P) (o:=0) (b:=b) h3 (fun j v hj=>by rw [Nat.zero_add,cell_of_row w b j c ty (0,0) h2];simpa using hj) hs
     refine ⟨_,v,h,hrep,fun w' hw'=>?_⟩
     have:=hl w' (hw' b (.inr ⟨id,_,hob,by rw [hG];rfl,hq⟩))
     rw [Nat.zero_add] at this
     simp [execOp,ho,hv,Instr.loadAt,Instr.sureAddr,this]
    ·cases h
   ·cases h
  ·rename_i id sz j off hp
   rw [hp] at hx
   simp only [hp] at hq
   obtain ⟨b,n',c,hG,hv⟩:=hx
   split at h
   ·rename_i e xs hob
    split at h
    ·rename_i m cs hcs
     obtain ⟨hb,h'⟩:=aA h
     clear h
     simp only [Bool.and_eq_true] at hb
     have hsz:=Nat.eq_of_beq_eq_true hb.1
     have hj:j < xs.length:=by simpa [Nat.blt_eq] using hb.2
     subst hsz
     split at h'
     ·rename_i s hs
      obtain ⟨m2,cs2,vs,h1,h2,h3⟩:=S.obj id _ hob
      rw [hcs] at h1
      cases h1
      obtain ⟨p,q,r',hvs,hpl,hq'⟩:=h3.at_ j hj
      have hcell:=World.ownsRow.cells h2 (g:=b) (by rw [hG];rfl)
      obtain ⟨v,hl,hrep⟩:=gw (P:=C.P) (o:=j * cs.length) (b:=b) (G:=G) (aX.vals hq') (fun i v hi=>by
       have:=hcell (p.length + i) v (by rw [hvs,List.append_assoc,List.getElem?_append_right (by omega),Nat.add_sub_cancel_left,List.getElem?_append_left (by
        have:=(List.getElem?_eq_some_iff.1 hi).1;omega)];exact hi)
       rw [bp,hpl] at this
       simpa using this) hs
      refine ⟨_,v,h',hrep,fun w' hw'=>?_⟩
      have:=hl w' (hw' b (.inr ⟨id,_,hob,by rw [hG];rfl,hq⟩))
      simp [execOp,ho,hv,Instr.loadAt,Instr.sureAddr,this]
     ·cases h'
    ·cases h
   ·cases h
  ·rename_i cs us hp
   rw [hp] at hx
   obtain ⟨b,off,hv,hb,hr⟩:=hx
   split at h
   ·rename_i s hs
    obtain ⟨vs,hl,hvs,hcell⟩:=bz.vals (G:=G) hr
    obtain ⟨v,hl',hrep⟩:=gw (P:=C.P) (o:=off) (b:=b) hvs hcell hs
    refine ⟨_,v,h,hrep,fun w' hw'=>?_⟩
    have:=hl' w' (hw' b (.inl hb))
    simp only [Nat.add_zero] at this
    simp [execOp,ho,hv,Instr.loadAt,Instr.sureAddr,this]
   ·cases h
  ·cases h
 ·rename_i x ho
  simp only [ho] at h
  have hx:=S.ev x
  split at h
  ·rename_i id off hp
   rw [hp] at hx
   obtain ⟨b,hG,hv⟩:=hx
   exact ⟨_,_,h,⟨b,hG,rfl⟩,fun w' _=>by simp [execOp,ho,hv]⟩
  ·rename_i id sz j off hp
   rw [hp] at hx
   obtain ⟨b,n',c,hG,hv⟩:=hx
   exact ⟨_,_,h,⟨b,n',c,hG,rfl⟩,fun w' _=>by simp [execOp,ho,hv]⟩
  ·rename_i cs us hp
   rw [hp] at hx
   obtain ⟨b,off,hv,hb,hr⟩:=hx
   exact ⟨_,_,h,⟨b,off,rfl,hb,hr⟩,fun w' _=>by simp [execOp,ho,hv]⟩
  ·cases h
 ·rename_i op t x y t2 ho
  simp only [ho] at h
  obtain ⟨s,v,h1,h2,h3⟩:=Gk (a:=a) (x:=x) (y:=y) hC (S.ev x) (S.ev y) h
  refine ⟨s,v,h1,h2,fun w' _=>?_⟩
  have h3:=h3 w'
  simp only [Sem.run_bind] at h3
  simp only [execOp,ho,Sem.run_bind]
  cases hg:(eqGuard op t x y (a.eval x) (a.eval y)).run C.P w' with
  | ok u w1=>
   rw [hg] at h3
   simp only [Result.andThen] at h3 ⊢
   rw [h3]
   rfl
  | halt e w1=>rw [hg] at h3;simp [Result.andThen] at h3
 ·rename_i op t x ho
  simp only [ho] at h
  cases op<;>first | (exact h.elim) | dsimp only at h
  ·split at h
   ·rename_i i u hu
    have hx:a.eval x = .int i u.int:=by have:=S.ev x;rw [hu] at this;exact this.1
    exact ⟨_,.int i (i.wrap (0 - u.int)),h,du _ _,fun w' _=>by simp [execOp,ho,hx,Op.unary,Op.intArith]⟩
   ·cases h
  ·split at h
   ·rename_i i u hu
    have hx:a.eval x = .int i u.int:=by have:=S.ev x;rw [hu] at this;exact this.1
    exact ⟨_,.int i (ei i u.int),h,du _ _,fun w' _=>by simp [execOp,ho,hx,rO]⟩
   ·cases h
  ·split at h
   ·rename_i u hu
    have hx:a.eval x = .bool u.bool:=by have:=S.ev x;rw [hu] at this;exact this
    exact ⟨_,.bool !u.bool,h,rfl,fun w' _=>by simp [execOp,ho,hx,Op.unary]⟩
   ·cases h
 ·rename_i s t x ho
  simp only [ho] at h
  have hx:=S.ev x
  split at h
  ·rename_i i1 i kd u hs ht hp
   rw [hp] at hx
   have hx:a.eval x = .int kd u.int:=hx.1
   exact ⟨_,.int i (i.wrap u.int),h,du _ _,fun w' _=>by simp [execOp,ho,hx,convert,run_underlying hs,run_underlying ht,Conv.intToInt]⟩
  ·rename_i e hs ht
   split at h
   ·rename_i he
    split at h
    ·rename_i u hu
     have hpl:cQ (.sl false [.int .u8]) (σ.ev x)=some u:=by
      unfold toU at hu
      split at hu
      ·rename_i id hid
       simp only [hs,hid] at hq
       cases hq
      ·exact hu
     have hr:=dM hpl hx
     refine ⟨_,.string ⟨(u.list.map fun x:U=>UInt8.ofNat x.int.toNat).toArray⟩,h,⟨rfl,by have:=hr.ok.1;simpa [ByteArray.size] using this⟩,fun w' hw'=>?_⟩
     have hr':=aR.mono (w':=w') (Z':=Z) ⟨fun _ h=>h,fun b hb=>hw' b (.inl hb)⟩ _ _ _ hr
     have hrun:=mB (C:=C) hr'
     obtain ⟨A,c,hv,_⟩:=hr
     rw [hv] at hrun
     simp [execOp,ho,hv,convert,run_underlying hs,run_underlying ht,run_underlying he,hrun]
    ·cases h
   ·cases h
  ·rename_i u hs ht hp
   rw [hp] at hx
   obtain ⟨hx,hxs⟩:a.eval x = .string u.str∧u.str.size≤maxLen:=hx
   exact ⟨_,.string u.str,h,⟨rfl,hxs⟩,fun w' _=>by simp [execOp,ho,hx,convert,run_underlying hs,run_underlying ht]⟩
  ·cases h
 ·rename_i s x f ho
  simp only [ho] at h
  split at h
  ·rename_i fd hf
   split at h
   ·rename_i k' hs
    have hx:=S.ev x
    have hf0:=hf
    unfold ep at hf
    split at hf
    ·rename_i fs hu
     split at h
     ·rename_i id off hp
      rw [hp] at hx
      obtain ⟨b,hG,hv⟩:=hx
      exact ⟨_,.pointer (some ⟨b,off + fd.offset,none⟩),h,⟨b,hG,rfl⟩,fun w' _=>by simp [execOp,ho,hv,Instr.fieldAt,run_underlying hu,hf,Instr.sureAddr,fieldPlace,cp hs,bp]⟩
     ·rename_i id sz j off hp
      rw [hp] at hx
      obtain ⟨b,n',c,hG,hv⟩:=hx
      exact ⟨_,.pointer (some ⟨b,(j * sz + off) + fd.offset,none⟩),h,⟨b,n',c,hG,by rw [Nat.add_assoc]⟩,fun w' _=>by simp [execOp,ho,hv,Instr.fieldAt,run_underlying hu,hf,Instr.sureAddr,fieldPlace,cp hs,bp]⟩
     ·rename_i cs us hp
      rw [hp] at hx
      obtain ⟨b,off,hv,hb,hr⟩:=hx
      exact ⟨_,.pointer (some ⟨b,off + fd.offset,none⟩),h,⟨b,off + fd.offset,rfl,hb,hr.drop fd.offset⟩,fun w' _=>by simp [execOp,ho,hv,Instr.fieldAt,run_underlying hu,hf,Instr.sureAddr,fieldPlace,cp hs,bp]⟩
     ·cases h
    ·cases hf
   ·cases h
  ·cases h
 ·rename_i s x f ho
  simp only [ho] at h
  have hx:=S.ev x
  split at h
  ·rename_i fd cells hf hp
   rw [hp] at hx
   obtain ⟨vs,hv,hr⟩:=hx
   split at h
   ·rename_i v hpt
    obtain ⟨v',hrun,hrep⟩:=uF (P:=C.P) hr hpt
    unfold ep at hf
    split at hf
    ·rename_i fs hu
     exact ⟨_,v',h,hrep,fun w' _=>by simp [execOp,ho,hv,Instr.field,run_underlying hu,hf,asAgg,hrun w']⟩
    ·cases hf
   ·cases h
  ·cases h
 ·rename_i t x i ho
  simp only [ho] at h
  have hx:=S.ev x
  have hi:=S.ev i
  split at h
  ·rename_i e m cs u kd j hu hp hj
   rw [hp] at hx
   rw [hj] at hi
   have hi:a.eval i = .int kd j.int:=hi.1
   obtain ⟨hb1,h⟩:=aA h
   obtain ⟨hb,h⟩:=aA h
   obtain ⟨h1,h2⟩:=of_decide_eq_true hb
   obtain ⟨A,c,hv,hc,hcm,hel⟩:=hx
   obtain ⟨b,off,hA,hZ,hr⟩:=hel j.int.toNat (by omega)
   rw [hA] at hv
   exact ⟨_,.pointer (some ⟨b,off + j.int.toNat * cs.length,none⟩),h,⟨b,_,rfl,hZ,hr⟩,fun w' _=>by simp [execOp,ho,hv,hi,Instr.indexAt,asIntOf,run_underlying hu,cp (cY hb1),bp,h1,h2]⟩
  ·rename_i e' id kd j hu hp hj
   rw [hp] at hx
   rw [hj] at hi
   have hi:a.eval i = .int kd j.int:=hi.1
   split at h
   ·rename_i e xs hob
    split at h
    ·rename_i m cs hcs
     obtain ⟨hb1,h⟩:=aA h
     obtain ⟨hb,h⟩:=aA h
     obtain ⟨h1,h2⟩:=of_decide_eq_true hb
     obtain ⟨m2,cs2,vs,g1,g2,g3⟩:=S.obj id _ hob
     rw [hcs] at g1
     cases g1
     rcases g2.2 with ⟨_,g4⟩ | ⟨g,cap,cur,g4,_⟩
     ·omega
     have hx:a.eval x=G id:=hx
     rw [g4] at hx
     exact ⟨_,.pointer (some ⟨g,0 + j.int.toNat * cs.length,none⟩),h,⟨g,xs.length,cap,g4,by simp⟩,fun w' _=>by simp [execOp,ho,hx,hi,Instr.indexAt,asIntOf,run_underlying hu,cp (cY hb1),bp,h1,h2]⟩
    ·cases h
   ·cases h
  ·cases h
 ·rename_i t x i ho
  simp only [ho] at h
  have hx:=S.ev x
  have hi:=S.ev i
  split at h
  ·rename_i s kd j hu hp hj
   rw [hp] at hx
   rw [hj] at hi
   have hx:a.eval x = .string s.str:=hx.1
   have hi:a.eval i = .int kd j.int:=hi.1
   obtain ⟨hb,h⟩:=aA h
   obtain ⟨h1,h2⟩:=of_decide_eq_true hb
   have hj':j.int.toNat < s.str.size:=by omega
   have hget:s.str[j.int.toNat]? = some s.str[j.int.toNat]:=by simp [hj']
   have hdata:s.str.data[j.int.toNat]? = some s.str[j.int.toNat]:=Array.getElem?_eq_getElem hj'
   exact ⟨_,.int .u8 (s.str.data.toList.getD j.int.toNat 0).toNat,h,CO _,fun w' _=>by simp [execOp,ho,hx,hi,Instr.index,asIntOf,run_underlying hu,h1,hget,hdata]⟩
  ·cases h
 ·rename_i x i ho
  simp only [ho] at h
  have hx:=S.ev x
  split at h
  ·rename_i vs hp
   rw [hp] at hx
   obtain ⟨us,hv,hr⟩:=hx
   obtain ⟨hb,h⟩:=aA h
   have hb:i < vs.length:=by simpa [Nat.blt_eq] using hb
   have hl:=hr.length
   have hi:i < us.size:=by simp at hl;omega
   have hget:us[i]? = some us[i]:=Array.getElem?_eq_getElem hi
   exact ⟨_,us[i],h,hr.nth i _ (by simp [hi]),fun w' _=>by simp [execOp,ho,hv,Instr.extract,hget]⟩
  ·cases h
 ·rename_i t x lo hi mx ho
  simp only [ho] at h
  split at h
  ·rename_i e l h1 m hu hl hh hm
   split at h
   ·rename_i mm cs u hx
    obtain ⟨hsz,h⟩:=aA h
    unfold op1.sliceK at h
    obtain ⟨hb,h⟩:=aA h
    simp only [Bool.and_eq_true] at hb
    have hmh:m.isSome=true→h1.isSome=true:=fun hms=>by
     cases m with
     | none=>cases hms
     | some m=>cases h1 with
      | none=>simp at hb
      | some _=>rfl
    have hb:=of_decide_eq_true hb.1
    have hs:=cY hsz
    have hv:=S.ev x
    rw [hx] at hv
    obtain ⟨A,c,hv,hc,hcm,hel⟩:=hv
    have hbr:=fun w':World=>eI (P:=C.P) (isSlice:=true) (w:=w') hc (dh S hl) (dh S hh) (dh S hm) hmh hb
    obtain ⟨b1,b2,b3,b4⟩:=hb
    have hm':(m.getD c).toNat=c∨(∃ im,m=some im∧(m.getD c).toNat=im.toNat):=by cases m with
     | none=>left;simp
     | some im=>right;exact ⟨im,rfl,rfl⟩
    refine ⟨_,.slice (if (m.getD c).toNat=(l.getD 0).toNat then A else A.map (·.add ((l.getD 0).toNat * cs.length))) ((h1.getD u.list.length).toNat - (l.getD 0).toNat) ((m.getD c).toNat - (l.getD 0).toNat),h,?_,fun w' _=>?_⟩
    ·have hlen:((u.list.take (h1.getD u.list.length).toNat).drop (l.getD 0).toNat).length=(h1.getD u.list.length).toNat - (l.getD 0).toNat:=by
      simp only [List.length_drop,List.length_take];omega
     have hcapm:(h1.getD u.list.length).toNat≤(m.getD c).toNat:=by
      cases m with
      | none=>simp only [Option.getD_none] at *;omega
      | some im=>simp only [Option.getD_some] at *;omega
     refine ⟨_,_,by rw [U.list_l,hlen],by rw [U.list_l,hlen];omega,?_,fun i hi=>?_⟩
     ·cases m with
      | none=>simp only [Option.getD_none] at *;omega
      | some im=>simp only [Option.getD_some] at *;omega
     rw [U.list_l,hlen] at hi
     obtain ⟨b,off,hA,hZ,hr⟩:=hel ((l.getD 0).toNat + i) (by omega)
     rw [if_neg (by omega),hA]
     refine ⟨b,off + (l.getD 0).toNat * cs.length,by simp [bp],hZ,?_⟩
     have hat:U.at (U.l ((u.list.take (h1.getD u.list.length).toNat).drop (l.getD 0).toNat)).list i=U.at u.list ((l.getD 0).toNat + i):=by
      rw [U.list_l,dN _ _ (by rw [hlen];exact hi),dN _ _ (by omega)]
      simp
     rw [hat,Nat.add_assoc,← Nat.add_mul]
     exact hr
    ·simp [execOp,ho,hv,Instr.sliceAt,Instr.slice,run_underlying hu,hbr w',cp hs]
   ·rename_i id hx
    simp [hx] at hq
   ·cases h
  ·rename_i l h1 hu hl hh hm
   split at h
   ·rename_i u hx
    obtain ⟨hb,h⟩:=aA h
    have hb:=of_decide_eq_true hb
    obtain ⟨hv,hvs⟩:a.eval x = .string u.str∧u.str.size≤maxLen:=by have:=S.ev x;rw [hx] at this;exact this
    have hbr:=fun w':World=>eI (P:=C.P) (isSlice:=false) (w:=w') (len:=u.str.size) (cap:=u.str.size) (Nat.le_refl _) (dh S hl) (dh S hh) (.inl ⟨rfl,rfl⟩) (mx:=none) (m:=none) (by simp) ⟨hb.1,hb.2.1,by simp,by simpa using hb.2.2⟩
    have hmx:mx=none:=by
     rcases dh S hm with ⟨h2,_⟩ | ⟨y,kd,i,_,h2,_⟩
     ·exact h2
     ·cases h2
    subst hmx
    refine ⟨_,.string (u.str.extract (l.getD 0).toNat (h1.getD u.str.size).toNat),h,⟨rfl,by show (u.str.extract _ _).size≤maxLen;rw [ByteArray.size_extract];omega⟩,fun w' _=>?_⟩
    have hbr:=hbr w'
    simp only [Option.map_none] at hbr
    simp [execOp,ho,hv,Instr.sliceAt,Instr.slice,run_underlying hu,hbr]
   ·cases h
  ·cases h
 ·rename_i t ps ho
  simp only [ho] at h
  split at h
  ·rename_i fs z hu hz
   split at h
   ·rename_i cs hs hf
    obtain ⟨out,hr,hrep⟩:=kZ (w:=w) (Z:=Z) (G:=G) S.flat (vs:=ps.map fun x=>(x.1,a.eval x.2)) hu hz hs hf (by simpa using i6 S ps.toList)
    refine ⟨_,.agg out,h,⟨out,rfl,hrep⟩,fun w' _=>?_⟩
    have heq:(ps.map fun (i,x)=>(i,a.eval x))=ps.map fun x=>(x.1,a.eval x.2):=rfl
    simp only [execOp,ho,Sem.run_bind]
    rw [heq,hr w']
    rfl
   ·cases h
  ·cases h
 ·rename_i f first caps ho
  simp only [ho] at h
  split at h
  ·rename_i hfi
   refine ⟨_,.func (.func f) #[] (caps.map a.eval),h,⟨_,rfl,by simpa using S.evs_rep caps.toList⟩,fun w' _=>?_⟩
   have:first = #[]:=by apply Array.ext';simpa using hfi
   simp [execOp,ho,Instr.makeFunc,this]
  ·cases h
 ·rename_i t x ho
  simp only [ho] at h
  split at h
  ·cases h
  ·rename_i d hni hu
   refine ⟨_,.iface t (a.eval x),h,⟨_,rfl,S.ev x⟩,fun w' _=>?_⟩
   simp only [execOp,ho,Instr.makeInterface,Sem.run_bind,run_underlying hu,Result.andThen]
   cases d<;>first | rfl | (exact absurd hu (hni _))
  ·cases h
 ·rename_i args ts ho
  simp only [ho] at h
  split at h
  ·rename_i s t hargs hts
   obtain ⟨p,hp,rfl⟩:=ze hargs
   have hx:=S.ev p
   have ha':args = #[p]:=by cases args;simp_all
   have ht':ts = #[t]:=by cases ts;simp_all
   subst ha' ht'
   split at h
   ·rename_i e m cs u hu hev
    rw [hev] at hx
    have hl:u.list.length≤maxLen:=(aR.ok (c:=.sl m cs) hx).1
    obtain ⟨A,c,hv,_⟩:=hx
    exact ⟨_,.int .i64 (u.list.length:Int),h,eE hl,fun w' _=>by simp [execOp,ho,resolve,invoke,builtin,Builtin.len_,run_underlying hu,hv,goInt]⟩
   ·rename_i e id hu hev
    rw [hev] at hx
    split at h
    ·rename_i e' xs hob
     obtain ⟨m2,cs2,vs,g1,g2,g3⟩:=S.obj id _ hob
     have hl:xs.length≤maxLen:=(cg.ok (S.obj id _ hob)).1
     have hx:a.eval p=G id:=hx
     rcases g2.2 with ⟨g4,g5⟩ | ⟨g,cap,cur,g4,_⟩
     ·rw [g4] at hx
      exact ⟨_,.int .i64 (xs.length:Int),h,eE hl,fun w' _=>by simp [execOp,ho,resolve,invoke,builtin,Builtin.len_,run_underlying hu,hx,goInt,g5]⟩
     ·rw [g4] at hx
      exact ⟨_,.int .i64 (xs.length:Int),h,eE hl,fun w' _=>by simp [execOp,ho,resolve,invoke,builtin,Builtin.len_,run_underlying hu,hx,goInt]⟩
    ·cases h
   ·rename_i e hu hev
    rw [hev] at hx
    have hx:a.eval p = .slice none 0 0:=hx
    exact ⟨_,.int .i64 0,h,eE (n:=0) (Nat.zero_le _),fun w' _=>by simp [execOp,ho,resolve,invoke,builtin,Builtin.len_,run_underlying hu,hx,goInt]⟩
   ·rename_i id hu hev
    rw [hargs,hev] at hq
    cases hq
   ·rename_i u hu hev
    rw [hev] at hx
    obtain ⟨hx,hxs⟩:a.eval p = .string u.str∧u.str.size≤maxLen:=hx
    exact ⟨_,.int .i64 (u.str.size:Int),h,eE hxs,fun w' _=>by simp [execOp,ho,resolve,invoke,builtin,Builtin.len_,run_underlying hu,hx,goInt]⟩
   ·cases h
  ·cases h
 ·cases hq
end
end Go.Den

namespace Go.Den
open Go Go.RowKit
def ke (n:Nat) (o:Oper):Bool:=match o.dst with
 | some t=>(match o.op with | .store _ _ _=>false | .mapUpdate _ _ _ _=>false | .entryStore _ _ _ _=>false | .insert _ _ _ _=>false | _=>true) && Nat.blt t n
 | none=>true
def bg (n:Nat):List Oper→Bool
 | []=>true
 | o :: r=>match ke n o with | true=>bg n r | false=>false
theorem lP {n:Nat} {o:Oper} (h:ke n o=true):(∀ t,o.dst=some t→t < n)∧(∀ t x y,o.op = .store t x y→o.dst=none)∧(∀ {t x i v},o.op = .mapUpdate t x i v→o.dst=none)∧(∀ {t x i v},o.op = .entryStore t x i v→o.dst=none)∧(∀ {t x i v},o.op = .insert t x i v→o.dst=none):=by
 unfold ke at h
 split at h
 ·rename_i t ht
  simp only [Bool.and_eq_true] at h
  refine ⟨fun t' ht'=>?_,fun t' x y ho=>?_,fun ho=>?_,fun ho=>?_,fun ho=>?_⟩
  ·rw [ht] at ht';cases ht';simpa [Nat.blt_eq] using h.2
  all_goals (rw [ho] at h;simp at h)
 ·rename_i ht
  exact ⟨fun t' ht'=>(by rw [ht] at ht';cases ht'),fun _ _ _ _=>ht,fun _=>ht,fun _=>ht,fun _=>ht⟩
theorem gx:∀ (l:List Oper) (j:Nat),nth none (l.map some) j=l[j]?
 | [],0=>rfl
 | [],_ + 1=>rfl
 | _ :: _,0=>rfl
 | _ :: l,j + 1=>gx l j
theorem wZ {ops:Array Oper} {j t:Nat} {a:Act} (hgs:pO ops.toList j=some t):(∀ b,a.tmps.getD t undef = .bool b→yielded ops a.tmps j=some b)∧(a.tmps.getD t undef=undef→yielded ops a.tmps j=none):=by
 have hops:(ops[j]?).bind (·.dst)=some t:=by
  unfold pO at hgs
  rw [gx] at hgs
  rw [← Array.getElem?_toList]
  cases hj:ops.toList[j]? with
  | none=>rw [hj] at hgs;cases hgs
  | some oj=>rw [hj] at hgs;exact hgs
 constructor
 ·intro b hb
  unfold yielded
  rw [hops]
  simp only [Option.bind_some]
  have:a.tmps[t]? = some (.bool b):=by
   rw [Array.getD_eq_getD_getElem?] at hb
   cases ht:a.tmps[t]? with
   | none=>rw [ht] at hb;cases hb
   | some v=>rw [ht] at hb;simp at hb;rw [hb]
  rw [this]
 ·intro hb
  unfold yielded
  rw [hops]
  simp only [Option.bind_some]
  rw [Array.getD_eq_getD_getElem?] at hb
  cases ht:a.tmps[t]? with
  | none=>rfl
  | some v=>rw [ht] at hb;simp at hb;rw [hb];rfl
theorem nZ {n:Nat}:∀ {l:List Oper},bg n l=true→∀ o ∈ l,ke n o=true
 | [],_,_,h=>by cases h
 | p :: r,hok,o,h=>by
  unfold bg at hok
  split at hok
  ·rename_i hp
   rcases List.mem_cons.1 h with rfl | h
   ·exact hp
   ·exact nZ hok o h
  ·cases hok
theorem pD {n:Nat} {ops:Array Oper} (hok:bg n ops.toList=true) {i:Nat} {o:Oper} (hi:ops[i]? = some o):ke n o=true:=
 nZ hok o (by have:=Array.mem_of_getElem? hi;simpa using this)
theorem rX {C:Ctx}:∀ {l:List Oper},qu C l=true→∀ o ∈ l,eF C o=false
 | [],_,_,h=>by cases h
 | p :: r,hok,o,h=>by
  unfold qu at hok
  split at hok
  ·cases hok
  ·rename_i hp
   rcases List.mem_cons.1 h with rfl | h
   ·exact hp
   ·exact rX hok o h
theorem qJ {C:Ctx}:∀ {l:List Oper},pV C l=true→∀ o ∈ l,jt C o=false
 | [],_,_,h=>by cases h
 | p :: r,hok,o,h=>by
  unfold pV at hok
  split at hok
  ·cases hok
  ·rename_i hp
   rcases List.mem_cons.1 h with rfl | h
   ·exact hp
   ·exact qJ hok o h
section
variable {C:Ctx} {Θ:Anc} {n:Nat} {K:Act→World→Prop} {Q:Exit→Act→World→Prop}
theorem ng (hC:C.Ok) {ops:Array Oper} {i:Nat} {o:Oper} {l:List Oper} {σ:St} {a:Act} {w:World} {Z:Nat→Prop} {G:Nat→Value} {k:St→Prop} (hi:ops[i]? = some o) (hok:ke n o=true) (hT:Θ.lets C o=true)
  (S:Sim C.P Θ n σ a w Z G) (h:ak C ops.toList (o :: l) σ k)
  (hrest:∀ σ' a' w' Z' G',ak C ops.toList l σ' k→Sim C.P Θ n σ' a' w' Z' G'→K a' w') (hp:∀ s σ' w' Z' G' v,C.pan s σ'→Sim C.P Θ n σ' a w' Z' G'→ag w' Z' G' s v→Q (.panic [{ v:=v,recovered:=false }]) a w'):wpOp C.P ops Q i K a w:=by
 obtain ⟨hd,hst,hst1,hst2,hst3⟩:=lP hok
 simp only [wpOp,hi]
 unfold ak at h
 split at h
 ·rename_i hg
  have hw:Region.wanted o (yielded ops a.tmps)=true:=by simp [Region.wanted,hg]
  rw [if_pos hw]
  exact .inl (mV hC hT S hd hst hst1 hst2 hst3 h hrest hp)
 ·rename_i j want hg
  split at h
  ·cases h
  ·rename_i t hgs
   have hops:(ops[j]?).bind (·.dst)=some t:=by
    unfold pO at hgs
    rw [gx] at hgs
    rw [← Array.getElem?_toList]
    cases hj:ops.toList[j]? with
    | none=>rw [hj] at hgs;cases hgs
    | some oj=>rw [hj] at hgs;exact hgs
   have hyes:∀ b,a.tmps.getD t undef = .bool b→yielded ops a.tmps j=some b:=by
    intro b hb
    unfold yielded
    rw [hops]
    simp only [Option.bind_some]
    have:a.tmps[t]? = some (.bool b):=by
     rw [Array.getD_eq_getD_getElem?] at hb
     cases ht:a.tmps[t]? with
     | none=>rw [ht] at hb;cases hb
     | some v=>rw [ht] at hb;simp at hb;rw [hb]
    rw [this]
   have hno:a.tmps.getD t undef=undef→yielded ops a.tmps j=none:=by
    intro hb
    unfold yielded
    rw [hops]
    simp only [Option.bind_some]
    rw [Array.getD_eq_getD_getElem?] at hb
    cases ht:a.tmps[t]? with
    | none=>rfl
    | some v=>rw [ht] at hb;simp at hb;rw [hb];rfl
   have hslot:=S.slot t
   split at h
   ·rename_i u hu
    rw [hu] at hslot
    have hv:a.tmps.getD t undef = .bool u.bool:=hslot
    rcases bL h with ⟨hb,h⟩ | ⟨hb,h⟩
    ·have S':=S.know (t:=t) (s:=.val .bool (.b true)) (by rw [hv,hb];rfl)
     have hw:Region.wanted o (yielded ops a.tmps)=true:=by simp [Region.wanted,hg,hyes _ hv,hb]
     rw [if_pos hw]
     exact .inl (mV hC hT S' hd hst hst1 hst2 hst3 h hrest hp)
    ·have S':=S.know (t:=t) (s:=.val .bool (.b false)) (by rw [hv,hb];rfl)
     have hw:¬ Region.wanted o (yielded ops a.tmps)=true:=by simp [Region.wanted,hg,hyes _ hv,hb]
     rw [if_neg hw]
     exact hrest _ _ _ _ _ h (S'.put (s:=.und) rfl hd)
   ·rename_i u hu
    rw [hu] at hslot
    have hv:a.tmps.getD t undef = .bool u.bool:=hslot
    rcases bL h with ⟨hb,h⟩ | ⟨hb,h⟩
    ·have S':=S.know (t:=t) (s:=.val .bool (.b true)) (by rw [hv,hb];rfl)
     have hw:¬ Region.wanted o (yielded ops a.tmps)=true:=by simp [Region.wanted,hg,hyes _ hv,hb]
     rw [if_neg hw]
     exact hrest _ _ _ _ _ h (S'.put (s:=.und) rfl hd)
    ·have S':=S.know (t:=t) (s:=.val .bool (.b false)) (by rw [hv,hb];rfl)
     have hw:Region.wanted o (yielded ops a.tmps)=true:=by simp [Region.wanted,hg,hyes _ hv,hb]
     rw [if_pos hw]
     exact .inl (mV hC hT S' hd hst hst1 hst2 hst3 h hrest hp)
   ·rename_i hu
    rw [hu] at hslot
    have hv:a.tmps.getD t undef=undef:=hslot
    have hw:¬ Region.wanted o (yielded ops a.tmps)=true:=by simp [Region.wanted,hg,hno hv]
    rw [if_neg hw]
    exact hrest _ _ _ _ _ h (S.put (s:=.und) rfl hd)
   ·cases h
structure Inv (P:Program) (Θ:Anc) (kb ka:Bool) (n:Nat) (σ:St) (a:Act) (w:World) (Z:Nat→Prop) (G:Nat→Value) (L:Nat→Prop):Prop where
 sim:Sim P Θ n σ a w Z G
 old:∀ b,L b→Θ.M b∨Θ.w.heap.size≤b
 lt:∀ b,L b→b < w.heap.size
 keep:∀ id o b,az σ.objs id=some o→blk (G id)=some b→L b→kept kb ka o=true
def anchor (ds:List Deferred) (kb ka:Bool) (σ:St) (w:World) (Z:Nat→Prop) (G:Nat→Value) (L:Nat→Prop):Anc where
 w:=w
 M:=fun b=>∃ id o,az σ.objs id=some o∧blk (G id)=some b∧kept kb ka o=false
 N:=fun b=>L b∨∃ id o,az σ.objs id=some o∧blk (G id)=some b∧kept kb ka o=true
 Z0:=Z
 kb:=kb
 ka:=ka
 G0:=G
 ds:=ds
theorem GV {kb ka:Bool} {σ:St} {w:World} {Z:Nat→Prop} {G:Nat→Value} {L:Nat→Prop} {ops:Array Oper} (hkb:qu C ops.toList=kb) (hka:pV C ops.toList=ka) {i:Nat} {o:Oper} {ds:List Deferred} (hi:ops[i]? = some o):(anchor ds kb ka σ w Z G L).lets C o=true:=by
 have hm:o ∈ ops.toList:=by have:=Array.mem_of_getElem? hi;simpa using this
 unfold Anc.lets
 simp only [Bool.and_eq_true,Bool.or_eq_true,Bool.not_eq_true']
 constructor
 ·show eF C o=false∨kb=false
  cases kb with
  | true=>exact .inl (rX hkb o hm)
  | false=>exact .inr rfl
 ·show jt C o=false∨ka=false
  cases ka with
  | true=>exact .inl (qJ hka o hm)
  | false=>exact .inr rfl
theorem pz (Θ:Anc) (o:Obj):Θ.keeps o=kept Θ.kb Θ.ka o:=by cases o<;>rfl
theorem Inv.enter {P:Program} {kb ka:Bool} {σ:St} {a:Act} {w:World} {Z:Nat→Prop} {G:Nat→Value} {L:Nat→Prop} (I:Inv P Θ kb ka n σ a w Z G L):Sim P (anchor Θ.ds kb ka σ w Z G L) n σ a w Z G:=
 {size:=I.sim.size,calm:=I.sim.calm,slot:=I.sim.slot,obj:=I.sim.obj,sep:=I.sim.sep,lt:=I.sim.lt,flat:=I.sim.flat,fut:=Fut.refl _ w,odd:=fun _ _=>rfl,row:=fun _ hb=>.inl hb
  free:=fun id o b h hb=>⟨(I.sim.free id o b h hb).1,by
   cases hk:kept kb ka o with
   | true=>exact .inr (.inl (.inr ⟨id,o,h,hb,hk⟩))
   | false=>exact .inl ⟨id,o,h,hb,hk⟩⟩
  keep:=fun id o b h hb hN=>by
   rw [pz]
   rcases hN with hN | ⟨id',o',h',hb',hk'⟩
   ·exact I.keep id o b h hb hN
   ·have:=I.sim.sep id id' o o' b h h' hb hb'
    subst this
    rw [h] at h'
    cases h'
    exact hk'
  nlt:=fun b hN=>by
   rcases hN with hN | ⟨id',o',h',hb',hk'⟩
   ·exact I.lt b hN
   ·exact cg.lt I.sim h' hb'
  new:=fun b hb=>.inl hb
  sub:=fun b hb=>hb }
theorem Inv.leave {P:Program} {kb ka:Bool} {σ σ':St} {a a':Act} {w w':World} {Z Z':Nat→Prop} {G G':Nat→Value} {L:Nat→Prop} (hN:∀ b,¬ Θ.N b) (I:Inv P Θ kb ka n σ a w Z G L)
  (S:Sim P (anchor Θ.ds kb ka σ w Z G L) n σ' a' w' Z' G'):Inv P Θ kb ka n σ' a' w' Z' G' (anchor Θ.ds kb ka σ w Z G L).N∧
    (∀ b,(l6 kb ka σ G Z b∨L b)→(l6 kb ka σ' G' Z' b∨(anchor Θ.ds kb ka σ w Z G L).N b))∧∀ b,(l6 kb ka σ G Z b∨L b)→w'.heap[b]? = w.heap[b]?:=by
 have live0:∀ id o b,az σ.objs id=some o→blk (G id)=some b→Θ.M b∨Θ.w.heap.size≤b:=fun id o b h hb=>by
  rcases (I.sim.free id o b h hb).2 with h1 | h1 | h1
  ·exact .inl h1
  ·exact absurd h1 (hN b)
  ·exact .inr h1
 have hM:∀ b,(anchor Θ.ds kb ka σ w Z G L).M b→Θ.M b∨Θ.w.heap.size≤b:=fun b ⟨id,o,h,hb,_⟩=>live0 id o b h hb
 have hNN:∀ b,(anchor Θ.ds kb ka σ w Z G L).N b→Θ.M b∨Θ.w.heap.size≤b:=fun b hb=>by
  rcases hb with hb | ⟨id,o,h,hb,_⟩
  ·exact I.old b hb
  ·exact live0 id o b h hb
 have hsz:Θ.w.heap.size≤w.heap.size:=I.sim.fut.size
 have hsame:∀ b,(l6 kb ka σ G Z b∨L b)→w'.heap[b]? = w.heap[b]?:=by
  intro b hb
  refine S.fut.block b ?_ ?_
  ·rcases hb with (hb | ⟨id,o,h,hb,_⟩) | hb
   ·exact I.sim.lt b hb
   ·exact cg.lt I.sim h hb
   ·exact I.lt b hb
  ·rintro ⟨id,o,h,hbo,hk⟩
   rcases hb with (hb | ⟨id',o',h',hb',hk'⟩) | hb
   ·exact (I.sim.free id o b h hbo).1 hb
   ·have:=I.sim.sep id id' o o' b h h' hbo hb'
    subst this
    rw [h] at h'
    cases h'
    rw [hk] at hk';cases hk'
   ·have:=I.keep id o b h hbo hb
    rw [hk] at this;cases this
 refine ⟨⟨?_,hNN,fun b hb=>Nat.lt_of_lt_of_le (S.nlt b hb) S.fut.size,fun id o b h hb hL=>by have:=S.keep id o b h hb hL;rw [pz] at this;exact this⟩,?_,hsame⟩
 ·refine { size:=S.size,calm:=S.calm,slot:=S.slot,obj:=S.obj,sep:=S.sep,lt:=S.lt,flat:=S.flat,odd:=fun i hi=>(S.odd i hi).trans (I.sim.odd i hi),row:=fun b hb=>(S.row b hb).elim (fun h=>(I.sim.row b h).imp (fun h=>h) fun h2=>h2.of (hsame b (.inl (.inl h)))) .inr,fut:=?_,free:=?_,keep:=?_,nlt:=I.sim.nlt,new:=?_,sub:=fun b hb=>S.sub b (I.sim.sub b hb) }
  ·intro id o b h hb
   refine ⟨(S.free id o b h hb).1,?_⟩
   rcases (S.free id o b h hb).2 with h1 | h1 | h1
   ·exact (hM b h1).elim .inl (fun h=>.inr (.inr h))
   ·exact (hNN b h1).elim .inl (fun h=>.inr (.inr h))
   ·exact .inr (.inr (Nat.le_trans hsz h1))
  ·exact fun id o b _ _ h=>absurd h (hN b)
  ·exact I.sim.fut.trans S.fut (fun _ h=>h) (fun b hb hm=>by
    rcases hM b hm with h | h
    ·exact h
    ·omega)
  ·intro b hb
   rcases S.new b hb with h1 | h1 | h1 | h1
   ·exact I.sim.new b h1
   ·exact (hM b h1).elim (fun h=>.inr (.inl h)) (fun h=>.inr (.inr (.inr h)))
   ·exact (hNN b h1).elim (fun h=>.inr (.inl h)) (fun h=>.inr (.inr (.inr h)))
   ·exact .inr (.inr (.inr (Nat.le_trans hsz h1)))
 ·rintro b ((hb | hb) | hb)
  ·exact .inl (.inl (S.sub b hb))
  ·exact .inr (.inr hb)
  ·exact .inr (.inl hb)
theorem nY {P:Program} {kb ka:Bool} {ops:Array Oper} {listed:Array Bool} {σ:St}:∀ {rs:List Nat} {i:Nat} {o:Oper},sK P kb ka ops listed σ rs=some (i,o)→
  i ∈ rs∧ops[i]? = some o∧xK P kb ka ops.toList σ o=true∧Region.free .any ops listed i=true
 | [],i,o,h=>by cases h
 | j :: r,i,o,h=>by
  unfold sK at h
  split at h
  ·cases h
  ·rename_i oj hj
   split at h
   ·rename_i h1 h2
    injection h with h
    injection h with h3 h4
    subst h3 h4
    exact ⟨List.mem_cons_self ..,hj,h1,h2⟩
   ·obtain ⟨h1,h2⟩:=nY h
    exact ⟨List.mem_cons_of_mem _ h1,h2⟩
theorem wD {f:Nat→Prop}:∀ {l:List Nat},Ih f l→∀ i ∈ l,f i
 | [],_,i,hi=>by cases hi
 | [j],h,i,hi=>by
  have:i=j:=by simpa using hi
  subst this;exact h
 | j :: j' :: r,h,i,hi=>by
  rcases List.mem_cons.1 hi with rfl | hi
  ·exact h.l
  ·exact wD (l:=j' :: r) h.r i hi
theorem ly (hC:C.Ok) {ops:Array Oper} {kb ka:Bool} (hkb:qu C ops.toList=kb) (hka:pV C ops.toList=ka) (hsel:Region.noSelect ops=true) (hok:bg n ops.toList=true) (hN:∀ b,¬ Θ.N b)
  (hQ:∀ c a w d v,Q (.panic c) (a.put d v) w→Q (.panic c) a w) (hp:∀ s σ' a' w' Z' G' v,C.pan s σ'→Sim C.P Θ n σ' a' w' Z' G'→ag w' Z' G' s v→Q (.panic [{ v:=v,recovered:=false }]) a' w') {k:St→Prop} (hk:∀ σ' a' w' Z' G',k σ'→Sim C.P Θ n σ' a' w' Z' G'→Q .normal a' w'):∀ (fuel:Nat) (listed:Array Bool) {σ:St} {a:Act} {w:World} {Z:Nat→Prop} {G:Nat→Value} {L:Nat→Prop},
    Inv C.P Θ kb ka n σ a w Z G L→nD C ops kb ka fuel listed σ k→m4 C.P .any ops Q fuel listed a w (fun b=>l6 kb ka σ G Z b∨L b)
 | 0,listed,σ,a,w,Z,G,L,I,h=>by
  unfold nD at h
  split at h
  ·rename_i hr
   exact ⟨hr,hk _ _ _ _ _ h I.sim⟩
  ·exact h.elim
 | fuel + 1,listed,σ,a,w,Z,G,L,I,h=>by
  have heavy:∀ i o,ops[i]? = some o→ak C ops.toList [o] σ (fun σ'=>nD C ops kb ka fuel (listed.setIfInBounds i true) σ' k)→
    wpOp C.P ops Q i (fun a' w'=>∃ H':Nat→Prop,(∀ b,(l6 kb ka σ G Z b∨L b)→H' b)∧(∀ b,(l6 kb ka σ G Z b∨L b)→w'.heap[b]? = w.heap[b]?)∧m4 C.P .any ops Q fuel (listed.setIfInBounds i true) a' w' H') a w:=by
   intro i o hi h
   refine ng hC hi (pD hok hi) (GV hkb hka hi) I.enter h ?_ (fun s σ' w' Z' G' v h' S' hr=>hp s σ' a w' Z' G' v h' (I.leave hN S').1.sim hr)
   intro σ' a' w' Z' G' h' S'
   obtain ⟨I',h1,h2⟩:=I.leave hN S'
   exact ⟨_,h1,h2,ly hC hkb hka hsel hok hN hQ hp hk fuel (listed.setIfInBounds i true) I' h'⟩
  unfold nD at h
  split at h
  ·rename_i hr
   exact ⟨fun _=>hk _ _ _ _ _ h I.sim,fun i hi=>by rw [hr] at hi;cases hi⟩
  ·rename_i hrs
   split at h
   ·rename_i i o hf
    obtain ⟨hir,hi,hq,hfree⟩:=nY hf
    have hd:=(lP (pD hok hi)).1
    have take:∀ {σ1:St} (S1:Sim C.P Θ n σ1 a w Z G) (ho:σ1.objs=σ.objs) (s:SV) (v:Value),ag w Z G s v→YieldsIf C.P ops (fun w'=>∀ b,(l6 kb ka σ G Z b∨L b)→w'.heap[b]? = w.heap[b]?) o v a→
      nD C ops kb ka fuel (listed.setIfInBounds i true) (bS σ1 o.dst s) k→m4 C.P .any ops Q (fuel + 1) listed a w (fun b=>l6 kb ka σ G Z b∨L b):=by
     intro σ1 S1 ho s v hrep hy hk'
     have S2:=S1.put (s:=s) hrep hd
     have hobj:(bS σ1 o.dst s).objs=σ.objs:=by cases o.dst<;>exact ho
     have I2:Inv C.P Θ kb ka n (bS σ1 o.dst s) (a.put o.dst v) w Z G L:=⟨S2,I.old,I.lt,by rw [hobj];exact I.keep⟩
     refine m4.first hi hsel hQ fuel listed a w _ (Region.free_spec hi hfree) hir hy ?_
     have:=ly hC hkb hka hsel hok hN hQ hp hk fuel (listed.setIfInBounds i true) I2 hk'
     unfold l6 at this ⊢
     rw [hobj] at this
     exact this
    have held:∀ {σ1:St} (_:σ1.objs=σ.objs) {w':World},(∀ b,(l6 kb ka σ G Z b∨L b)→w'.heap[b]? = w.heap[b]?)→∀ b,l6 kb ka σ1 G Z b→w'.heap[b]? = w.heap[b]?:=by
     intro σ1 ho w' hw b hb
     refine hw b (.inl ?_)
     unfold l6 at hb ⊢
     rwa [ho] at hb
    unfold ak at h
    unfold xK at hq
    split at h
    ·rename_i hg
     rw [hg] at hq
     have hw:Region.wanted o (yielded ops a.tmps)=true:=by simp [Region.wanted,hg]
     obtain ⟨s,v,h1,h2,h3⟩:=kq hC I.sim hq h
     exact take I.sim rfl s v h2 (.inl ⟨hw,fun w' hw'=>h3 w' (held rfl hw')⟩) h1
    ·rename_i j want hg
     rw [hg] at hq
     simp only at hq
     split at h
     ·cases h
     ·rename_i t hgs
      rw [hgs] at hq
      simp only at hq
      obtain ⟨hyes,hno⟩:=wZ (a:=a) hgs
      have hslot:=I.sim.slot t
      split at h
      ·rename_i u hu
       rw [hu] at hslot hq
       simp only at hq
       have hv:a.tmps.getD t undef = .bool u.bool:=hslot
       rcases bL h with ⟨hb,h⟩ | ⟨hb,h⟩
       ·have S':=I.sim.know (t:=t) (s:=.val .bool (.b true)) (by rw [hv,hb];rfl)
        have hw:Region.wanted o (yielded ops a.tmps)=true:=by simp [Region.wanted,hg,hyes _ hv,hb]
        obtain ⟨s,v,h1,h2,h3⟩:=kq hC S' hq h
        exact take S' rfl s v h2 (.inl ⟨hw,fun w' hw'=>h3 w' (held rfl hw')⟩) h1
       ·have S':=I.sim.know (t:=t) (s:=.val .bool (.b false)) (by rw [hv,hb];rfl)
        have hw:Region.wanted o (yielded ops a.tmps)=false:=by simp [Region.wanted,hg,hyes _ hv,hb]
        exact take S' rfl .und undef rfl (.inr ⟨hw,rfl⟩) h
      ·rename_i u hu
       rw [hu] at hslot hq
       simp only at hq
       have hv:a.tmps.getD t undef = .bool u.bool:=hslot
       rcases bL h with ⟨hb,h⟩ | ⟨hb,h⟩
       ·have S':=I.sim.know (t:=t) (s:=.val .bool (.b true)) (by rw [hv,hb];rfl)
        have hw:Region.wanted o (yielded ops a.tmps)=false:=by simp [Region.wanted,hg,hyes _ hv,hb]
        exact take S' rfl .und undef rfl (.inr ⟨hw,rfl⟩) h
       ·have S':=I.sim.know (t:=t) (s:=.val .bool (.b false)) (by rw [hv,hb];rfl)
        have hw:Region.wanted o (yielded ops a.tmps)=true:=by simp [Region.wanted,hg,hyes _ hv,hb]
        obtain ⟨s,v,h1,h2,h3⟩:=kq hC S' hq h
        exact take S' rfl s v h2 (.inl ⟨hw,fun w' hw'=>h3 w' (held rfl hw')⟩) h1
      ·rename_i hu
       rw [hu] at hslot
       have hv:a.tmps.getD t undef=undef:=hslot
       have hw:Region.wanted o (yielded ops a.tmps)=false:=by simp [Region.wanted,hg,hno hv]
       exact take I.sim rfl .und undef rfl (.inr ⟨hw,rfl⟩) h
      ·cases h
   ·refine ⟨fun h0=>absurd h0 hrs,fun i hi=>?_⟩
    have hone:=wD h i hi
    unfold Jq at hone
    split at hone
    ·rename_i o hi'
     exact heavy i o hi' hone
    ·exact hone.elim
end
end Go.Den

namespace Go.Den
open Go Go.RowKit
def codeOk (n:Nat):Code→Bool
 | .region _ ops draw=>match draw with | true=>bg n ops.toList && Region.noSelect ops | false=>bg n ops.toList
 | .seq a b=>match codeOk n a with | true=>codeOk n b | false=>false
 | .cond _ a b=>match codeOk n a with | true=>codeOk n b | false=>false
 | .block _ a=>codeOk n a
 | .loop a=>codeOk n a
 | _=>true
def aE (C:Ctx) (c:Nat) (body:Code):Prop:=∀ ts os F,C.loops c=some (ts,os,F)→∃ μ:List SV→List Obj→Nat,∀ (pan:SV→St→Prop) (svs:List SV) (l:List Obj) (k:Ex→St→Prop),
 svs.length=ts.length→l.length=os.length→okS.okSs svs→EO C.P l→F pan svs l k→exec (C.panics pan) body c ⟨ts.zip svs,os.zip l⟩ (again C.P (C.lout c) (C.lout (c + 1048576)) pan ts os F μ (μ svs l) k)
def cy (C:Ctx):Code→Nat→Prop
 | .seq a b,c=>cy C a c∧cy C b c
 | .cond _ a b,c=>cy C a c∧cy C b c
 | .block id a,_=>cy C a id
 | .loop a,c=>cy C a c∧aE C c a
 | _,_=>True
theorem rE (env:List (Nat × SV)):∀ (ts:List Nat) (t:Nat),get (rF env ts) t=get env t∨get (rF env ts) t = .unk
 | [],_=>.inr rfl
 | s :: ts,t=>by
  have e:get (rF env (s :: ts)) t=if s=t then get env s else get (rF env ts) t:=aF s t _ _
  rw [e]
  by_cases h:s=t
  ·rw [if_pos h,h];exact .inl rfl
  ·rw [if_neg h];exact rE env ts t
theorem lC (objs:List (Nat × Obj)):∀ (ts:List Nat) (t:Nat) (o:Obj),az (t9 objs ts) t=some o→az objs t=some o
 | [],_,_,h=>by cases h
 | s :: ts,t,o,h=>by
  unfold t9 at h
  split at h
  ·rename_i o' ho
   rw [ba] at h
   by_cases hs:s=t
   ·rw [if_pos hs] at h;rw [← hs,ho];exact h
   ·rw [if_neg hs] at h;exact lC objs ts t o h
  ·exact lC objs ts t o h
theorem tI (env:List (Nat × SV)):∀ (ts:List Nat) (t:Nat),get (ts.zip (lu env ts)) t=get env t∨get (ts.zip (lu env ts)) t = .unk
 | [],_=>.inr rfl
 | s :: ts,t=>by
  have e:get ((s :: ts).zip (lu env (s :: ts))) t=if s=t then get env s else get (ts.zip (lu env ts)) t:=aF s t _ _
  rw [e]
  by_cases h:s=t
  ·rw [if_pos h,h];exact .inl rfl
  ·rw [if_neg h];exact tI env ts t
theorem qg (objs:List (Nat × Obj)):∀ (ts:List Nat) (l:List Obj),kr objs ts=some l→∀ (t:Nat) (o:Obj),az (ts.zip l) t=some o→az objs t=some o
 | [],l,_,_,_,h=>by cases l<;>cases h
 | s :: ts,l,hl,t,o,h=>by
  unfold kr at hl
  split at hl
  ·rename_i o' os ho hos
   injection hl with hl
   subst hl
   have h:az ((s,o') :: ts.zip os) t=some o:=h
   rw [ba] at h
   by_cases hs:s=t
   ·rw [if_pos hs] at h;rw [← hs,ho];exact h
   ·rw [if_neg hs] at h;exact qg objs ts os hos t o h
  ·cases hl
theorem kC (env:List (Nat × SV)):∀ ts:List Nat,(lu env ts).length=ts.length
 | []=>rfl
 | _ :: ts=>by simp [lu,kC env ts]
theorem jA (objs:List (Nat × Obj)):∀ (ts:List Nat) (l:List Obj),kr objs ts=some l→l.length=ts.length
 | [],l,h=>by simp only [kr,Option.some.injEq] at h;subst h;rfl
 | s :: ts,l,h=>by
  unfold kr at h
  split at h
  ·rename_i o os ho hos
   injection h with h
   subst h
   simp [jA objs ts os hos]
  ·cases h
section
variable {C:Ctx} {Θ:Anc} {n:Nat} {Q:Exit→Act→World→Prop}
theorem qf {P:Program} {σ:St} {a:Act} {w:World} {Z:Nat→Prop} {G:Nat→Value} {x:Option (List Nat × List Nat)} (S:Sim P Θ n σ a w Z G):Sim P Θ n (mask σ x) a w Z G:=by
 unfold mask
 split
 ·exact S
 ·rename_i ts os
  exact S.less (rE _ ts) (lC _ os)
theorem si {P:Program} {σ:St} {a:Act} {w:World} {Z:Nat→Prop} {G:Nat→Value} (S:Sim P Θ n σ a w Z G):∀ ts:List Nat,okS.okSs (lu σ.env ts)
 | []=>trivial
 | t :: ts=>⟨ag.ok (S.slot t),si S ts⟩
theorem pH {P:Program} {σ:St} {a:Act} {w:World} {Z:Nat→Prop} {G:Nat→Value} (S:Sim P Θ n σ a w Z G):∀ (os:List Nat) (l:List Obj),kr σ.objs os=some l→EO P l
 | [],l,h=>by simp only [kr,Option.some.injEq] at h;subst h;trivial
 | o :: os,l,h=>by
  unfold kr at h
  split at h
  ·rename_i x xs h1 h2
   injection h with h
   subst h
   exact ⟨cg.ok (S.obj _ _ h1),pH S os _ h2⟩
  ·cases h
def x8 (C:Ctx) (Θ:Anc) (n:Nat) (Q:Exit→Act→World→Prop):Prop:=∀ s σ' a' w' Z' G' v,C.pan s σ'→Sim C.P Θ n σ' a' w' Z' G'→ag w' Z' G' s v→Q (.panic [{ v:=v,recovered:=false }]) a' w'
theorem lj (hC:C.Ok) (hp:x8 C Θ n Q) (hkb:Θ.kb=false) (hka:Θ.ka=false) {ops:Array Oper} {k:St→Prop} (hk:∀ σ' a' w' Z' G',k σ'→Sim C.P Θ n σ' a' w' Z' G'→Q .normal a' w') :
  ∀ (l:List Oper) (i:Nat) {σ:St} {a:Act} {w:World} {Z:Nat→Prop} {G:Nat→Value},ops.toList.drop i=l→bg n l=true→Sim C.P Θ n σ a w Z G→ak C ops.toList l σ k→
   wpOps C.P ops Q (List.range' i l.length) a w
 | [],i,σ,a,w,Z,G,_,_,S,h=>hk _ _ _ _ _ h S
 | o :: l,i,σ,a,w,Z,G,hl,hok,S,h=>by
  unfold bg at hok
  split at hok
  ·rename_i hoo
   have hi:ops[i]? = some o:=by
    rw [← Array.getElem?_toList]
    have:=List.getElem?_drop (xs:=ops.toList) (i:=i) (j:=0)
    rw [hl] at this
    simpa using this.symm
   rw [List.length_cons,List.range'_succ,wpOps_cons]
   refine ng hC hi hoo (by simp [Anc.lets,hkb,hka]) S h (fun σ' a' w' Z' G' h' S'=>lj hC hp hkb hka hk l (i + 1) ?_ hok S' h') (fun s σ' w' Z' G' v h' S' hr=>hp s σ' _ w' Z' G' v h' S' hr)
   rw [← List.tail_drop,hl]
   rfl
  ·cases hok
def jb:Ex→Exit
 | .normal=>.normal
 | .ret=>.ret
 | .exit n=>.exit n
def er:Code→Bool
 | .region _ _ draw=>draw
 | .seq a b=>er a || er b
 | .cond _ a b=>er a || er b
 | .block _ a=>er a
 | .loop a=>er a
 | _=>false
theorem c5 (hC:C.Ok) (hkb:Θ.kb=false) (hka:Θ.ka=false) (hN:∀ b,¬ Θ.N b):∀ (code:Code) (c:Nat) {Q:Exit→Act→World→Prop} {σ:St} {a:Act} {w:World} {Z:Nat→Prop} {G:Nat→Value} {k:Ex→St→Prop},codeOk n code=true→cy C code c→Sim C.P Θ n σ a w Z G→
  exec C code c σ k→(∀ e σ' a' w' Z' G',k e σ'→Sim C.P Θ n σ' a' w' Z' G'→Q (jb e) a' w')→x8 C Θ n Q→(er code=true→∀ c a w d v,Q (.panic c) (a.put d v) w→Q (.panic c) a w)→code.wp C.P Q a w
 | .skip,c,Q,σ,a,w,Z,G,k,_,_,S,h,hk,_,_=>wp_skip (hk .normal _ _ _ _ _ h S)
 | .ret,c,Q,σ,a,w,Z,G,k,_,_,S,h,hk,_,_=>wp_ret (hk .ret _ _ _ _ _ h S)
 | .exit m,c,Q,σ,a,w,Z,G,k,_,_,S,h,hk,_,_=>wp_exit (hk (.exit m) _ _ _ _ _ h S)
 | .seq x y,c,Q,σ,a,w,Z,G,k,hok,hl,S,h,hk,hp,hQ=>by
  unfold codeOk at hok
  split at hok
  ·rename_i hx
   refine wp_seq (c5 hC hkb hka hN x c hx hl.1 S h ?_ hp (fun h=>hQ (by simp [er,h])))
   intro e σ' a' w' Z' G' he S'
   cases e with
   | normal=>exact c5 hC hkb hka hN y c hok hl.2 S' he hk hp (fun h=>hQ (by simp [er,h]))
   | ret=>exact hk .ret _ _ _ _ _ he S'
   | exit m=>exact hk (.exit m) _ _ _ _ _ he S'
  ·cases hok
 | .cond x y z,c,Q,σ,a,w,Z,G,k,hok,hl,S,h,hk,hp,hQ=>by
  unfold codeOk at hok
  split at hok
  ·rename_i hx
   unfold exec at h
   split at h
   ·rename_i u hu
    have hv:a.eval x = .bool u.bool:=by have:=S.ev x;rw [hu] at this;exact this
    refine wp_cond hv ?_
    rcases bL h with ⟨hb,h⟩ | ⟨hb,h⟩
    ·rw [hb];exact c5 hC hkb hka hN y c hx hl.1 S h hk hp (fun h=>hQ (by simp [er,h]))
    ·rw [hb];exact c5 hC hkb hka hN z c hok hl.2 S h hk hp (fun h=>hQ (by simp [er,h]))
   ·cases h
  ·cases hok
 | .block id x,c,Q,σ,a,w,Z,G,k,hok,hl,S,h,hk,hp,hQ=>by
  refine wp_block (c5 hC hkb hka hN x id hok hl S h ?_ hp hQ)
  have hmask:∀ σ' a' w' Z' G',Sim C.P Θ n σ' a' w' Z' G'→Sim C.P Θ n (mask σ' (C.kout id)) a' w' Z' G':=fun _ _ _ _ _ S'=>qf S'
  intro e σ' a' w' Z' G' he S'
  cases e with
  | normal=>exact hk .normal _ _ _ _ _ he (hmask _ _ _ _ _ S')
  | ret=>exact hk .ret _ _ _ _ _ he S'
  | exit m=>
   show (if m=id then Q .normal a' w' else Q (.exit m) a' w')
   unfold Ha at he
   rcases bL he with ⟨hb,he⟩ | ⟨hb,he⟩
   ·rw [if_pos (Nat.eq_of_beq_eq_true hb)]
    exact hk .normal _ _ _ _ _ he (hmask _ _ _ _ _ S')
   ·rw [if_neg (Nat.ne_of_beq_eq_false hb)]
    exact hk (.exit m) _ _ _ _ _ he S'
 | .loop x,c,Q,σ,a,w,Z,G,k,hok,hl,S,h,hk,hp,hQ=>by
  unfold exec at h
  split at h
  ·rename_i ts os F hF
   split at h
   ·rename_i σ1 hfr
    obtain ⟨Z1,S1⟩:=cX S hfr
    split at h
    case h_2=>cases h
    rename_i l hos
    obtain ⟨μ,hμ⟩:=hl.2 ts os F hF
    have key:∀ (N:Nat) (svs:List SV) (l:List Obj) (a:Act) (w:World) (Z:Nat→Prop) (G:Nat→Value),μ svs l < N→svs.length=ts.length→l.length=os.length→okS.okSs svs→EO C.P l→F C.pan svs l k→
      Sim C.P Θ n ⟨ts.zip svs,os.zip l⟩ a w Z G→Code.rounds C.P x Q N a w:=by
     intro N
     induction N with
     | zero=>intro svs l a w Z G hlt;omega
     | succ N ih=>
      intro svs l a w Z G hlt h1 h2 ho1 ho2 hFk S1
      rw [rounds_succ]
      refine c5 hC hkb hka hN x c hok hl.1 S1 (hμ C.pan svs l k h1 h2 ho1 ho2 hFk) ?_ hp hQ
      intro e σ' a' w' Z' G' he S'
      cases e with
      | normal=>
       simp only [again] at he
       split at he
       ·rename_i σ2 hfr2
        obtain ⟨Z2,S2⟩:=cX S' hfr2
        split at he
        ·rename_i l' hl'
         obtain ⟨hb,he⟩:=aA he
         have hb:μ (lu σ2.env ts) l' < μ svs l:=by simpa [Nat.blt_eq] using hb
         exact ih _ _ _ _ _ _ (by omega) (kC _ _) (jA _ _ _ hl') (si S2 ts) (pH S2 os l' hl') he (S2.less (tI _ ts) (qg _ os l' hl'))
        ·cases he
       ·cases he
      | ret=>exact hk .ret _ _ _ _ _ he (qf S')
      | exit m=>exact hk (.exit m) _ _ _ _ _ he (qf S')
    exact wp_loop_rounds (μ (lu σ1.env ts) l + 1) (key _ _ _ _ _ _ _ (Nat.lt_succ_self _) (kC _ _) (jA _ _ _ hos) (si S1 ts) (pH S1 os l hos) h (S1.less (tI _ ts) (qg _ os l hos)))
   ·cases h
  ·cases h
 | .region id ops draw,c,Q,σ,a,w,Z,G,k,hok,_,S,h,hk,hp,hQ=>by
  unfold codeOk at hok
  unfold exec at h
  cases draw with
  | true=>
   simp only [Bool.and_eq_true] at hok
   have I:Inv C.P Θ (qu C ops.toList) (pV C ops.toList) n σ a { w with drawn:=w.drawn + 1 } Z G (fun _=>False):=⟨S.drew _,fun _ h=>h.elim,fun _ h=>h.elim,fun _ _ _ _ _ h=>h.elim⟩
   have:=ly (Q:=Q) hC rfl rfl hok.2 hok.1 hN (hQ rfl) (fun s σ' a' w' Z' G' v h' S' hr=>hp s σ' a' w' Z' G' v h' S' hr) (k:=fun σ'=>k .normal σ') (fun σ' a' w' Z' G' h' S'=>hk .normal _ _ _ _ _ h' S') _ _ I h
   exact wF hC.mixed this
  | false=>
   refine wp_region ?_
   have:=lj (Q:=Q) hC hp hkb hka (k:=fun σ'=>k .normal σ') (fun σ' a' w' Z' G' h' S'=>hk .normal _ _ _ _ _ h' S') ops.toList 0 rfl hok S h
   rw [List.range_eq_range']
   simpa using this
end
theorem Ctx.Ok.panics {C:Ctx} (h:C.Ok) (pan:SV→St→Prop):(C.panics pan).Ok:=⟨h.fns,h.trs,h.eqs,h.mixed,h.exts⟩
theorem cy.panics {C:Ctx} (pan:SV→St→Prop):∀ {code:Code} {c:Nat},cy C code c→cy (C.panics pan) code c
 | .seq _ _,_,h=>⟨cy.panics pan h.1,cy.panics pan h.2⟩
 | .cond _ _ _,_,h=>⟨cy.panics pan h.1,cy.panics pan h.2⟩
 | .block _ x,c,h=>cy.panics (code:=x) pan h
 | .loop _,_,h=>⟨cy.panics pan h.1,h.2⟩
 | .skip,_,_=>trivial
 | .region _ _ _,_,_=>trivial
 | .rangeFunc _ _ _ _,_,_=>trivial
 | .exit _,_,_=>trivial
 | .scope _,_,_=>trivial
 | .label _,_,_=>trivial
 | .goto _,_,_=>trivial
 | .ret,_,_=>trivial
 | .refuse _,_,_=>trivial
theorem ux {P:Program} {w:World} {Z:Nat→Prop} {G:Nat→Value}:∀ {ts:List TypeId} {us:List (List U)} {svs:List SV} {vs:List Value} {env:List (Nat × SV)} {i:Nat},aU P ts us=some svs→args P i ts us=some env→ab w Z none_ svs vs→
  vs.length=ts.length∧∀ t,(get env t = .unk∨∃ v,i≤t∧vs[t - i]? = some v∧ag w Z G (get env t) v)
 | [],[],svs,vs,env,i,h,he,hr=>by
  simp only [aU,Option.some.injEq] at h
  subst h
  have hr:vs=[]:=hr
  subst hr
  simp only [args,Option.some.injEq] at he
  subst he
  exact ⟨rfl,fun t=>.inl rfl⟩
 | [],_ :: _,svs,vs,env,i,h,he,hr=>by simp [aU] at h
 | _ :: _,[],svs,vs,env,i,h,he,hr=>by simp [aU] at h
 | t :: ts,u :: us,svs,vs,env,i,h,he,hr=>by
  unfold aU at h
  unfold args at he
  split at h
  ·rename_i s l h1 h2
   injection h with h
   subst h
   rw [h1] at he
   split at he
   ·rename_i s' env' hs' henv
    injection he with he
    subst he
    injection hs' with hs'
    subst hs'
    obtain ⟨v,r,rfl,hv,hr⟩:=hr
    obtain ⟨hl,ih⟩:=ux h2 henv hr
    refine ⟨by simp [hl],fun t'=>?_⟩
    rw [aF]
    by_cases ht:i=t'
    ·subst ht
     rw [if_pos rfl]
     exact .inr ⟨v,Nat.le_refl _,by simp,lL h1 hv⟩
    ·rw [if_neg ht]
     rcases ih t' with h3 | ⟨v',h3,h4,h5⟩
     ·exact .inl h3
     ·refine .inr ⟨v',by omega,?_,h5⟩
      rw [show t' - i=(t' - (i + 1)) + 1 by omega]
      simpa using h4
   ·cases he
  ·cases h
def nT (tmps:Array Value):ResultVar→Sem Value
 | .tmp t=>pure (tmps.getD t undef)
 | .cell x t=>do loadVar t (← asAddr (tmps.getD x undef))
theorem gG (fn:Func) (tmps:Array Value):results fn tmps=(do let vs ← fn.results.mapM (nT tmps);pure (if h:vs.size=1 then vs[0] else .tuple vs)):=by
 unfold results
 congr 1
theorem ga {P:Program} {Θ:Anc} {n:Nat} {σ:St} {a:Act} {w:World} {Z:Nat→Prop} {G:Nat→Value} (S:Sim P Θ n σ a w Z G):∀ {l:List ResultVar} {svs:List SV},fg P σ l=some svs→
  ∃ vs:List Value,(l.mapM (nT a.tmps)).run P w = .ok vs w∧ab w Z G svs vs
 | [],svs,h=>by
  simp only [fg,Option.some.injEq] at h
  subst h
  exact ⟨[],rfl,rfl⟩
 | .tmp t :: l,svs,h=>by
  unfold fg at h
  split at h
  ·rename_i r hr
   injection h with h
   subst h
   obtain ⟨vs,h1,h2⟩:=ga S hr
   have h0:(nT a.tmps (.tmp t)).run P w = .ok (a.tmps.getD t undef) w:=rfl
   refine ⟨a.tmps.getD t undef :: vs,?_,⟨_,_,rfl,S.slot t,h2⟩⟩
   simp only [List.mapM_cons,Sem.run_bind,h0,h1,Result.andThen,Sem.run_pure]
  ·cases h
 | .cell x t :: l,svs,h=>by
  unfold fg at h
  split at h
  ·rename_i id off r hp hr
   split at h
   ·rename_i cells hob
    split at h
    ·rename_i s hs
     injection h with h
     subst h
     obtain ⟨vs,h1,h2⟩:=ga S hr
     have hx:=S.slot x
     rw [hp] at hx
     obtain ⟨b,hG,hv⟩:=hx
     obtain ⟨b',ty,c,g1,g2,g3⟩:=S.obj id _ hob
     rw [hG] at g1
     cases g1
     obtain ⟨v,hl,hrep⟩:=fV (P:=P) (o:=0) (b:=b) g3 (fun j v hj=>by rw [Nat.zero_add,cell_of_row w b j c ty (0,0) g2];simpa using hj) hs
     rw [Nat.zero_add] at hl
     have h0:(nT a.tmps (.cell x t)).run P w = .ok v w:=by
      simp only [nT,Sem.run_bind,hv,asAddr,Sem.run_pure,Result.andThen,hl]
     refine ⟨v :: vs,?_,⟨_,_,rfl,hrep,h2⟩⟩
     simp only [List.mapM_cons,Sem.run_bind,h0,h1,Result.andThen,Sem.run_pure]
    ·cases h
   ·cases h
  ·cases h
def xm (P:Program) (ts:List TypeId) (us:List (List U)):Prop:=ez P ts us∧∀ svs,aU P ts us=some svs→okS.okSs svs
theorem Be {C:Ctx} (hC:C.Ok) {f:FuncId} {fn:Func} {code:Code} {us rs:List (List U)} (hf:C.P.funcs[f]? = some fn) (hbody:fn.body=some code) (hname:(fn.name == "runtime.NumGoroutine")=false)
  (hparams:fn.params.size≤fn.ntmps) (hok:codeOk fn.ntmps code=true) (hloops:cy C code 0) (hrun:xm C.P fn.params.toList us→run C fn us (· = rs)):vc C.P f fn us rs where
 body:=by rw [hbody];rfl
 name:=hname
 calls:=by
  intro w Z vs hZ hsh ⟨svs,hsvs,hrep⟩
  have hrun:=hrun ⟨hsh,fun svs' h=>by rw [hsvs] at h;cases h;exact hrep.ok⟩
  unfold run at hrun
  split at hrun
  ·rename_i env henv
   obtain ⟨hl,hargs⟩:=ux (G:=fun _=>.pointer none) hsvs henv hrep
   have hbd:bh fn=code:=by unfold bh;rw [hbody]
   rw [hbd] at hrun
   have hlen:vs.toArray.size=fn.params.size:=by simpa using hl
   have S:Sim C.P ⟨w,fun _=>False,fun _=>False,Z,false,false,fun _=>.pointer none,[]⟩ fn.ntmps ⟨env,[]⟩ { tmps:=vs.toArray ++ Array.replicate (fn.ntmps - vs.toArray.size) undef,defers:=[] } w Z (fun _=>.pointer none):=
    {size:=by simp only [Array.size_append,Array.size_replicate,hlen];omega
     calm:=rfl
     slot:=fun t=>by
      rcases hargs t with h | ⟨v,_,h2,h3⟩
      ·show ag w Z _ (get env t) _
       rw [h];trivial
      ·show ag w Z _ (get env t) _
       have ht:t < vs.length:=by
        have:=(List.getElem?_eq_some_iff.1 h2).1;omega
       have hv:(vs.toArray ++ Array.replicate (fn.ntmps - vs.toArray.size) undef).getD t undef=v:=by
        rw [Array.getD_eq_getD_getElem?,Array.getElem?_append_left (by simpa using ht)]
        simp only [Nat.sub_zero] at h2
        simp [h2]
       rw [hv]
       exact h3
     obj:=fun id o h=>by cases h
     sep:=fun id id' o o' b h=>by cases h
     free:=fun id o b h=>by cases h
     keep:=fun id o b h=>by cases h
     nlt:=fun _ h=>h.elim
     lt:=hZ
     fut:=Fut.refl _ w
     new:=fun b hb=>.inl hb
     sub:=fun b hb=>hb
     flat:=fun _=>rfl
     odd:=fun _ _=>rfl
     row:=fun _ hb=>.inl hb }
   refine calls_of_wp hf hbody (c5 (hC.panics fun _ _=>False) rfl rfl (fun _ h=>h) code 0 hok (hloops.panics _) S hrun ?_ (fun _ _ _ _ _ _ _ h _ _=>False.elim h) (fun _ c a w d v h=>by cases d<;>exact h))
   intro e σ' a' w' Z' G' he S'
   have S':Sim C.P _ _ _ _ _ _ _:=S'
   have hfin:(match fg C.P σ' fn.results.toList with | some vs=>ij C.P (toU C.P σ'.objs) fn.resultTypes.toList vs | none=>none)=some rs∧(jb e = .normal∨jb e = .ret):=by
    unfold Jj at he
    split at he
    ·rename_i rs' hrs'
     have he:rs' = rs:=he
     subst he
     cases e with
     | normal=>exact ⟨hrs',.inl rfl⟩
     | ret=>exact ⟨hrs',.inr rfl⟩
     | exit m=>cases hrs'
    ·exact he.elim
   obtain ⟨hfin,hexit⟩:=hfin
   have hpost:∀ R,(∃ v,(results fn a'.tmps).run C.P w' = .ok v w'∧R (Ending.returned v) w')→bodyPost C.P fn R (jb e) a' w':=by
    intro R ⟨v,h1,h2⟩
    rcases hexit with h | h<;>(rw [h];exact ⟨S'.calm,v,h1,h2⟩)
   refine hpost _ ?_
   split at hfin
   ·rename_i rvs hrv
    obtain ⟨rv,hrun',hrr⟩:=ga S' hrv
    obtain ⟨svs',hu,hreps⟩:=nw (Zc:=fun b=>Z' b∨Live σ' G' b) (fun c s u v hu hs=>sI S' hu hs) hfin hrr
    have hres:(results fn a'.tmps).run C.P w' = .ok (if h:rv.toArray.size=1 then rv.toArray[0] else .tuple rv.toArray) w':=by
     rw [gG,Array.mapM_eq_mapM_toList]
     simp [hrun']
    refine ⟨_,hres,_,fun b=>Z' b∨Live σ' G' b,rfl,S'.fut,fun b hb=>.inl (S'.sub b hb),?_,?_,svs',hu,?_⟩
    ·rintro b (hb | ⟨id,e,xs,h1,h2⟩)
     ·rcases S'.new b hb with h | h | h | h
      ·exact .inl h
      ·exact h.elim
      ·exact h.elim
      ·exact (S'.row b hb).imp (fun h=>h) fun h2=>⟨h,h2⟩
     ·rcases (S'.free id _ b h1 h2).2 with h3 | h3
      ·exact h3.elim
      ·exact .inr ⟨h3.elim False.elim (fun h=>h),qV (S'.obj id _ h1) h2⟩
    ·rintro b (hb | ⟨id,e,xs,h1,h2⟩)
     ·exact S'.lt b hb
     ·exact cg.lt S' h1 h2
    ·unfold iE
     split
     ·rename_i s
      obtain ⟨v,t,rfl,hv,ht⟩:=hreps
      have ht:t=[]:=ht
      subst ht
      exact hv
     ·rename_i hne
      have hl2:=hreps.length
      have h1:¬ rv.toArray.size=1:=by
       intro h
       have h:rv.length=1:=by simpa using h
       rw [h] at hl2
       obtain ⟨s,hs⟩:=List.length_eq_one_iff.1 hl2
       exact hne s hs
      rw [dif_neg h1]
      exact ⟨_,rfl,by simpa using hreps⟩
   ·cases hfin
  ·cases hrun
theorem mT:∀ {vs:List SV} {k t:Nat},get (fa k vs) t = .unk∨(k≤t∧∃ s,vs[t - k]? = some s∧get (fa k vs) t=s)
 | [],_,_=>.inl rfl
 | s :: vs,k,t=>by
  have e:get (fa k (s :: vs)) t=if k=t then s else get (fa (k + 1) vs) t:=aF k t _ _
  rw [e]
  by_cases h:k=t
  ·subst h
   rw [if_pos rfl]
   exact .inr ⟨Nat.le_refl _,s,by simp,rfl⟩
  ·rw [if_neg h]
   rcases mT (vs:=vs) (k:=k + 1) (t:=t) with h1 | ⟨h1,s',h2,h3⟩
   ·exact .inl h1
   ·refine .inr ⟨by omega,s',?_,h3⟩
    rw [show t - k=(t - (k + 1)) + 1 by omega]
    simpa using h2
theorem rU {objs0:bX}:∀ {m:List (Nat × Nat)} {i j:Nat},td.clear objs0 m=true→(i,j) ∈ m→i=j∨j ∉ iL objs0
 | (a,b) :: r,i,j,hc,h=>by
  unfold td.clear at hc
  cases hb:(Nat.beq a b || !dZ b (iL objs0)) with
  | false=>rw [hb] at hc;cases hc
  | true=>
   rw [hb] at hc
   rcases List.mem_cons.1 h with h | h
   ·cases h
    simp only [Bool.or_eq_true,Bool.not_eq_true'] at hb
    rcases hb with hb | hb
    ·exact .inl (Nat.eq_of_beq_eq_true hb)
    ·exact .inr (fun hm=>by rw [pd.2 hm] at hb;cases hb)
   ·exact rU hc h
theorem lS {P:Program} {w w':World} {Z Z':Nat→Prop} {G G':Nat→Value} {n:Nat} {a:Act} {objs0:bX} {σ:St} {ds:List Deferred} {R:Out→bX→Prop} {out:Out} {e:Ending}
  (S:Sim P ⟨w,bH G objs0,fun _=>False,Z,false,false,G,ds⟩ n σ a w' Z' G') (hflat:∀ id,(G id).oneCell' = true) (hout:lT w' Z' G' out e) (h:td objs0 R out σ.objs) :
  ∃ out objs' Z' G',R out objs'∧lT w' Z' G' out e∧zI P w Z G objs0 w' Z' G' objs':=by
 unfold td at h
 simp only at h
 generalize qd objs0 σ.objs objs0.length (reach σ.objs 400 (iL objs0 ++ out.hs) [])=m at h
 obtain ⟨hb,h⟩:=aA h
 simp only [Bool.and_eq_true] at hb
 obtain ⟨⟨h1,h2⟩,h3⟩:=hb
 let G2:Nat→Value:=fun j=>match lk (cm m) j with | some i=>G' i | none=>G j
 have hG2:∀ i j,lk m i=some j→G2 j=G' i:=fun i j hij=>by show (match lk (cm m) j with | some i=>G' i | none=>G j)=_;rw [jX h2 hij]
 have hL:∀ j o',az (dO σ.objs m m) j=some o'→∃ i p,lk m i=some j∧az σ.objs i=some p∧o' = p.ren m∧G2 j=G' i:=fun j o' hj=>by
  obtain ⟨i,p,g1,g2,g3⟩:=fQ hj
  exact ⟨i,p,cL h1 g1,g2,g3,hG2 i j (cL h1 g1)⟩
 have hpos:0≤w.heap.size:=Nat.zero_le _
 have hodd:∀ id,id % 2=1→(∃ o,az objs0 id=some o)→G2 id=G id:=fun id hid ⟨o,ho⟩=>by
  show (match lk (cm m) id with | some i=>G' i | none=>G id)=_
  split
  ·rename_i i hi
   have hm:(i,id) ∈ m:=gB.1 (lG hi)
   rcases rU h3 hm with hc | hc
   ·subst hc;exact S.odd i hid
   ·exact absurd (rT (qt ho)) hc
  ·rfl
 ·refine ⟨_,_,Z',G2,h,?_,?_⟩
  ·cases out with
   | ret vs=>
    match vs,hout with
    | [v],⟨x,he,hx⟩=>exact ⟨x,he,ag.ren hG2 _ _ hx⟩
    | [],⟨x,he,hx⟩=>exact ⟨x,he,ag.ren hG2 (.tup []) _ hx⟩
    | v :: v' :: vs,⟨x,he,hx⟩=>exact ⟨x,he,ag.ren hG2 (.tup (v :: v' :: vs)) _ hx⟩
   | pan s=>
    obtain ⟨x,he,hx⟩:=hout
    exact ⟨x,he,ag.ren hG2 _ _ hx⟩
  ·exact
    {stand:=
      {lt:=S.lt
       flat:=fun j=>by
        show (match lk (cm m) j with | some i=>G' i | none=>G j).oneCell' = true
        split
        ·exact S.flat _
        ·exact hflat _
       obj:=fun j o' hj=>by
        obtain ⟨i,p,g1,g2,rfl,_⟩:=hL j o' hj
        exact cg.ren hG2 g1 (S.obj i p g2)
       sep:=fun j j' o1 o2 b hj hj' hb hb'=>by
        obtain ⟨i,p,g1,g2,_,g3⟩:=hL j o1 hj
        obtain ⟨i',p',g1',g2',_,g3'⟩:=hL j' o2 hj'
        rw [g3] at hb
        rw [g3'] at hb'
        have:=S.sep i i' p p' b g2 g2' hb hb'
        subst this
        rw [g1] at g1'
        exact Option.some.inj g1'
       free:=fun j o' b hj hb=>by
        obtain ⟨i,p,g1,g2,_,g3⟩:=hL j o' hj
        rw [g3] at hb
        exact (S.free i p b g2 hb).1 }
     fut:=S.fut
     sub:=S.sub
     new:=fun b hb=>by
      rcases S.new b hb with g | g | g | g
      ·exact .inl g
      ·exact .inr (.inl g)
      ·exact g.elim
      ·exact .inr (.inr g)
     row:=fun b hb=>S.row b hb
     own:=fun j o' b hj hb=>by
      obtain ⟨i,p,g1,g2,_,g3⟩:=hL j o' hj
      rw [g3] at hb
      rcases (S.free i p b g2 hb).2 with g | g | g
      ·exact .inl g
      ·exact g.elim
      ·exact .inr g
     keep:=fun id o ho hid=>hodd id hid ⟨o,ho⟩ }
theorem xN {C:Ctx} (hC:C.Ok) {f:FuncId} {fn:Func} {code:Code} (hf:C.P.funcs[f]? = some fn) (hbody:fn.body=some code) (hname:(fn.name == "runtime.NumGoroutine")=false)
  (hparams:fn.params.size + fn.nfree≤fn.ntmps) (hok:codeOk fn.ntmps code=true) (hloops:cy C code 0):lE C.P f fn (jP C fn) where
 body:=by rw [hbody];rfl
 name:=hname
 calls:=by
  intro vs objs R _ h w Z G args hargs hst
  unfold jP at h
  obtain ⟨hb,h⟩:=aA h
  have hvl:vs.length=fn.params.size + fn.nfree:=Nat.eq_of_beq_eq_true hb
  have hal:args.length=vs.length:=hargs.length.symm
  have hbd:bh fn=code:=by unfold bh;rw [hbody]
  rw [hbd] at h
  have S:Sim C.P ⟨w,bH G objs,fun _=>False,Z,false,false,G,[]⟩ fn.ntmps ⟨fa 0 vs,objs⟩ { tmps:=args.toArray ++ Array.replicate (fn.ntmps - args.toArray.size) undef,defers:=[] } w Z G:=
   {size:=by simp only [Array.size_append,Array.size_replicate,List.size_toArray];omega
    calm:=rfl
    slot:=fun t=>by
     rcases mT (vs:=vs) (k:=0) (t:=t) with h1 | ⟨_,s,h2,h3⟩
     ·show ag w Z _ (get (fa 0 vs) t) _
      rw [h1];trivial
     ·show ag w Z _ (get (fa 0 vs) t) _
      simp only [Nat.sub_zero] at h2
      have ht:t < args.length:=by have:=(List.getElem?_eq_some_iff.1 h2).1;omega
      have hv:(args.toArray ++ Array.replicate (fn.ntmps - args.toArray.size) undef).getD t undef=args[t]:=by
       rw [Array.getD_eq_getD_getElem?,Array.getElem?_append_left (by simpa using ht)]
       simp [ht]
      rw [hv,h3]
      have:=hargs.nth t args[t] (List.getElem?_eq_getElem ht)
      rwa [nL h2] at this
    obj:=hst.obj
    sep:=hst.sep
    free:=fun id o b h1 h2=>⟨hst.free id o b h1 h2,.inl ⟨id,o,h1,h2⟩⟩
    keep:=fun id o b _ _ h=>h.elim
    nlt:=fun _ h=>h.elim
    lt:=hst.lt
    fut:=Fut.refl _ w
    new:=fun b hb=>.inl hb
    sub:=fun b hb=>hb
    flat:=hst.flat
    odd:=fun _ _=>rfl
    row:=fun _ hb=>.inl hb }
  refine calls_of_wp hf hbody (c5 (hC.panics fun v σ=>td objs R (.pan v) σ.objs) rfl rfl (fun _ h=>h) code 0 hok (hloops.panics _) S h ?_ ?_ (fun _ c a w d v h=>by cases d<;>exact h))
  ·intro e σ' a' w' Z' G' he S'
   have S':Sim C.P _ _ _ _ _ _ _:=S'
   have hexit:jb e = .normal∨jb e = .ret:=by
    cases e with
    | normal=>exact .inl rfl
    | ret=>exact .inr rfl
    | exit m=>exact he.elim
   have hfin:∃ rs,fg C.P σ' fn.results.toList=some rs∧td objs R (.ret rs) σ'.objs:=by
    unfold BU at he
    split at he
    ·exact he.elim
    ·split at he
     ·rename_i rs hrs;exact ⟨rs,hrs,he⟩
     ·exact he.elim
   obtain ⟨rs,hrs,hfin⟩:=hfin
   obtain ⟨rv,hrun',hrr⟩:=ga S' hrs
   have hres:(results fn a'.tmps).run C.P w' = .ok (if h:rv.toArray.size=1 then rv.toArray[0] else .tuple rv.toArray) w':=by
    rw [gG,Array.mapM_eq_mapM_toList]
    simp [hrun']
   have hout:lT w' Z' G' (.ret rs) (.returned (if h:rv.toArray.size=1 then rv.toArray[0] else .tuple rv.toArray)):=by
    have hl:=hrr.length
    match rs,hrr with
    | [s],hrr=>
     obtain ⟨v,t,rfl,hv,ht⟩:=hrr
     have ht:t=[]:=ht
     subst ht
     exact ⟨_,rfl,hv⟩
    | [],hrr=>
     have hrr:rv=[]:=hrr
     subst hrr
     exact ⟨_,rfl,#[],rfl,rfl⟩
    | s :: s' :: rs,hrr=>
     refine ⟨_,rfl,rv.toArray,?_,by simpa using hrr⟩
     rw [dif_neg]
     simp at hl ⊢
     omega
   have:=lS S' hst.flat hout hfin
   rcases hexit with h | h<;>(rw [h];exact ⟨S'.calm,_,hres,this⟩)
  ·intro s σ' a' w' Z' G' v h' S' hr
   exact ⟨S'.calm,lS (out:=.pan s) (e:=.panicked [{ v:=v,recovered:=false }]) S' hst.flat ⟨v,rfl,hr⟩ h'⟩
theorem cP {C:Ctx}:∀ {code:Code} {c:Nat},(∀ p ∈ cn code c,aE C p.1 p.2)→cy C code c
 | .seq _ _,_,h=>⟨cP fun p hp=>h p (List.mem_append.2 (.inl hp)),cP fun p hp=>h p (List.mem_append.2 (.inr hp))⟩
 | .cond _ _ _,_,h=>⟨cP fun p hp=>h p (List.mem_append.2 (.inl hp)),cP fun p hp=>h p (List.mem_append.2 (.inr hp))⟩
 | .block id a,_,h=>cP (code:=a) (c:=id) h
 | .loop a,c,h=>⟨cP (code:=a) (c:=c) fun p hp=>h p (List.mem_cons_of_mem _ hp),h (c,a) (List.mem_cons_self ..)⟩
 | .skip,_,_=>trivial
 | .region _ _ _,_,_=>trivial
 | .rangeFunc _ _ _ _,_,_=>trivial
 | .exit _,_,_=>trivial
 | .scope _,_,_=>trivial
 | .label _,_,_=>trivial
 | .goto _,_,_=>trivial
 | .ret,_,_=>trivial
 | .refuse _,_,_=>trivial
def IB (fn:Func):Bool:=fn.body.isSome && !(fn.name == "runtime.NumGoroutine") && Nat.ble fn.params.size fn.ntmps && codeOk fn.ntmps (bh fn)
theorem Jp {C:Ctx} (hC:C.Ok) {f:FuncId} {fn:Func} {us rs:List (List U)} (hf:C.P.funcs[f]? = some fn) (hck:IB fn=true) (hl:∀ p ∈ cn (bh fn) 0,aE C p.1 p.2) (hrun:xm C.P fn.params.toList us→run C fn us (· = rs)):vc C.P f fn us rs:=by
 unfold IB at hck
 simp only [Bool.and_eq_true] at hck
 obtain ⟨⟨⟨h1,h2⟩,h3⟩,h4⟩:=hck
 cases hb:fn.body with
 | none=>rw [hb] at h1;cases h1
 | some code=>
  have hbd:bh fn=code:=by unfold bh;rw [hb]
  rw [hbd] at h4 hl
  exact Be hC hf hb (by simpa using h2) (Nat.le_of_ble_eq_true h3) h4 (cP hl) hrun
def Cf (fn:Func):Bool:=fn.body.isSome && !(fn.name == "runtime.NumGoroutine") && Nat.ble (fn.params.size + fn.nfree) fn.ntmps && codeOk fn.ntmps (bh fn)
theorem Iw {C:Ctx} (hC:C.Ok) {f:FuncId} {fn:Func} (hf:C.P.funcs[f]? = some fn) (hck:Cf fn=true) (hl:∀ p ∈ cn (bh fn) 0,aE C p.1 p.2):lE C.P f fn (jP C fn):=by
 unfold Cf at hck
 simp only [Bool.and_eq_true] at hck
 obtain ⟨⟨⟨h1,h2⟩,h3⟩,h4⟩:=hck
 cases hb:fn.body with
 | none=>rw [hb] at h1;cases h1
 | some code=>
  have hbd:bh fn=code:=by unfold bh;rw [hb]
  rw [hbd] at h4 hl
  exact xN hC hf hb (by simpa using h2) (Nat.le_of_ble_eq_true h3) h4 (cP hl)
def bB (P:Program) (f:FuncId) (S:List (List U)→List (List U)):Prop:=∀ fn us,P.funcs[f]? = some fn→vc P f fn us (S us)
def ee (P:Program) (f:FuncId) (F:Tr):Prop:=∀ fn,P.funcs[f]? = some fn→lE P f fn F
abbrev lh:Type:=FuncId→List (List U)→Option (Option Prop × List (List U))
def aK:lh:=fun _ _=>none
def aH (g:FuncId) (S:List (List U)→List (List U)) (r:lh):lh:=fun f us=>bif Nat.beq f g then some (none,S us) else r f us
def aV (g:FuncId) (p:List (List U)→Prop) (S:List (List U)→List (List U)) (r:lh):lh:=fun f us=>bif Nat.beq f g then some (some (p us),S us) else r f us
def cG (P:Program) (f:FuncId) (p:List (List U)→Prop) (S:List (List U)→List (List U)):Prop:=∀ fn us,P.funcs[f]? = some fn→p us→vc P f fn us (S us)
def aL:FuncId→Option (List Bool × Tr):=fun _=>none
def cw (g:FuncId) (fs:List Bool) (F:Tr) (r:FuncId→Option (List Bool × Tr)):FuncId→Option (List Bool × Tr):=fun f=>bif Nat.beq f g then some (fs,F) else r f
def OkF (P:Program) (T:lh):Prop:=∀ f fn us p rs,P.funcs[f]? = some fn→T f us=some (p,rs)→wh p True→vc P f fn us rs
def OkT (P:Program) (T:FuncId→Option (List Bool × Tr)):Prop:=∀ f fn fs F,P.funcs[f]? = some fn→T f=some (fs,F)→lE P f fn F
theorem OkF.nil {P:Program}:OkF P aK:=fun _ _ _ _ _ _ h=>by cases h
theorem OkT.nil {P:Program}:OkT P aL:=fun _ _ _ _ _ h=>by cases h
theorem OkF.cons {P:Program} {g:FuncId} {S:List (List U)→List (List U)} {r:lh} (h:bB P g S) (hr:OkF P r):OkF P (aH g S r):=fun f fn us p rs hf h' hp=>by
 unfold aH at h'
 cases hb:Nat.beq f g with
 | true=>
  rw [hb] at h'
  have:=Nat.eq_of_beq_eq_true hb
  subst this
  injection h' with h'
  cases h'
  exact h fn us hf
 | false=>rw [hb] at h';exact hr f fn us p rs hf h' hp
theorem OkF.consP {P:Program} {g:FuncId} {pre:List (List U)→Prop} {S:List (List U)→List (List U)} {r:lh} (h:cG P g pre S) (hr:OkF P r):OkF P (aV g pre S r):=fun f fn us p rs hf h' hp=>by
 unfold aV at h'
 cases hb:Nat.beq f g with
 | true=>
  rw [hb] at h'
  have:=Nat.eq_of_beq_eq_true hb
  subst this
  injection h' with h'
  cases h'
  exact h fn us hf hp.1
 | false=>rw [hb] at h';exact hr f fn us p rs hf h' hp
theorem OkT.cons {P:Program} {g:FuncId} {fs:List Bool} {F:Tr} {r:FuncId→Option (List Bool × Tr)} (h:ee P g F) (hr:OkT P r):OkT P (cw g fs F r):=fun f fn fs' F' hf h'=>by
 unfold cw at h'
 cases hb:Nat.beq f g with
 | true=>
  rw [hb] at h'
  have:=Nat.eq_of_beq_eq_true hb
  subst this
  injection h' with h'
  cases h'
  exact h fn hf
 | false=>rw [hb] at h';exact hr f fn fs' F' hf h'
def mkC (P:Program) (eqs:TypeId→Option (List IntKind)) (fns:lh) (trs:FuncId→Option (List Bool × Tr)) (loops:Nat→Option (List Nat × List Nat × aS)) (lout kout:Nat→Option (List Nat × List Nat)):Ctx:=
 {P:=P,eqs:=eqs,fns:=fns,trs:=trs,pan:=fun _ _=>False,loops:=loops,kout:=kout,lout:=lout }
theorem aB {P:Program} {eqs:TypeId→Option (List IntKind)} {fns:lh} {trs:FuncId→Option (List Bool × Tr)} {loops:Nat→Option (List Nat × List Nat × aS)} {lout kout:Nat→Option (List Nat × List Nat)}
  (he:∀ t ks,eqs t=some ks→xF P t ks) (hm:P.follows .mixedOrders=true) (hf:OkF P fns) (ht:OkT P trs):(mkC P eqs fns trs loops lout kout).Ok:=⟨hf,ht,he,hm,fun _ _ h=>by cases h⟩
def SV.u:SV→U
 | .val _ u=>u
 | _=>.i 0
def Obj.xs:Obj→List U
 | .arr _ xs=>xs
 | _=>[]
@[simp] theorem SV.u_val (c:Ct) (u:U):(SV.val c u).u=u:=rfl
@[simp] theorem Obj.xs_arr (e:TypeId) (xs:List U):(Obj.arr e xs).xs=xs:=rfl
abbrev Mu:Type:=List SV→List Obj→Nat
abbrev KE:Type:=Ex→St→Prop
abbrev KP:Type:=SV→St→Prop
abbrev RT:Type:=Out→bX→Prop
abbrev RF:Type:=List (List U)→Prop
def aC:Nat→Option (List Nat × List Nat × aS):=fun _=>none
def aq:Nat→Option (List Nat × List Nat):=fun _=>none
def aw (c:Nat) (ts os:List Nat) (F:aS) (r:Nat→Option (List Nat × List Nat × aS)):Nat→Option (List Nat × List Nat × aS):=fun d=>bif Nat.beq d c then some (ts,os,F) else r d
def an (c:Nat) (ts os:List Nat) (r:Nat→Option (List Nat × List Nat)):Nat→Option (List Nat × List Nat):=fun d=>bif Nat.beq d c then some (ts,os) else r d
end Go.Den

namespace Go.Den
open Go Go.RowKit
def gC (P:Program):Nat→List Field→List IntKind→Bool
 | _,[],[]=>true
 | n,f :: fs,k :: ks=>match P.underlying f.type with
  | some (.int k')=>(f.name != "_") && Nat.beq f.offset n && IntKind.same k k' && gC P (n + 1) fs ks
  | _=>false
 | _,_,_=>false
theorem gu {P:Program} {w:World} {t:TypeId} {k:IntKind} {vs:Array Value} {off:Nat} {v:Value} (hu:P.underlying t=some (.int k)) (hv:vs[off]? = some v):(_root_.Go.part t vs off).run P w = .ok v w:=by
 have hl:off < vs.size:=(Array.getElem?_eq_some_iff.1 hv).1
 have hv':vs[off]=v:=(Array.getElem?_eq_some_iff.1 hv).2
 simp only [_root_.Go.part,Sem.run_bind,iU hu,Result.andThen,pj]
 simp [Array.getElem?_eq_getElem hl,hv']
theorem iD {P:Program} {w:World} {d:Nat}:∀ (fs:List Field) (ks:List IntKind) (n:Nat) (is js:List Int) (xs ys:List Value),gC P n fs ks=true→is.length=ks.length→js.length=ks.length→
  xs.drop n=List.zipWith Value.int ks is→ys.drop n=List.zipWith Value.int ks js→(Op.eqFields (d + 1) xs.toArray ys.toArray fs).run P w = .ok (decide (is=js)) w
 | [],[],n,[],[],xs,ys,_,_,_,_,_=>by simp [Op.eqFields]
 | [],_ :: _,_,_,_,_,_,h,_,_,_,_=>by simp [gC] at h
 | _ :: _,[],_,_,_,_,_,h,_,_,_,_=>by simp [gC] at h
 | f :: fs,k :: ks,n,i :: is,j :: js,xs,ys,h,hi,hj,hx,hy=>by
  unfold gC at h
  split at h
  ·rename_i k' hu
   simp only [Bool.and_eq_true] at h
   obtain ⟨⟨⟨h1,h2⟩,h3⟩,h4⟩:=h
   have h1:f.name ≠ "_" := by simpa using h1
   have h2:=Nat.eq_of_beq_eq_true h2
   have:=g9 h3
   subst this
   have hx0:xs[n]? = some (.int k i):=by
    have:=List.getElem?_drop (xs:=xs) (i:=n) (j:=0)
    rw [hx] at this
    simpa using this.symm
   have hy0:ys[n]? = some (.int k j):=by
    have:=List.getElem?_drop (xs:=ys) (i:=n) (j:=0)
    rw [hy] at this
    simpa using this.symm
   have hpx:=gu (w:=w) hu (vs:=xs.toArray) (off:=f.offset) (v:=.int k i) (by simpa [h2] using hx0)
   have hpy:=gu (w:=w) hu (vs:=ys.toArray) (off:=f.offset) (v:=.int k j) (by simpa [h2] using hy0)
   have heq:=run_equalIn_int (P:=P) w d f.type k k i j hu
   have hx1:xs.drop (n + 1)=List.zipWith Value.int ks is:=by
    rw [← List.tail_drop,hx];rfl
   have hy1:ys.drop (n + 1)=List.zipWith Value.int ks js:=by
    rw [← List.tail_drop,hy];rfl
   have ih:=iD (w:=w) (d:=d) fs ks (n + 1) is js xs ys h4 (by simpa using hi) (by simpa using hj) hx1 hy1
   simp only [Op.eqFields,h1,ne_eq,not_false_eq_true,if_true,Sem.run_bind,hpx,hpy,Result.andThen_ok]
   rw [heq]
   simp only [Result.andThen_ok]
   by_cases hij:i=j
   ·subst hij
    simp only [BEq.rfl,Bool.not_true,Bool.false_eq_true,if_false]
    rw [ih]
    simp
   ·have:(i == j)=false:=by simpa using hij
    simp [this,hij]
  ·cases h
 | _ :: _,_ :: _,_,[],_,_,_,_,hi,_,_,_=>by simp at hi
 | _ :: _,_ :: _,_,_ :: _,[],_,_,_,_,hj,_,_=>by simp at hj
 | [],[],_,_ :: _,_,_,_,_,hi,_,_,_=>by simp at hi
 | [],[],_,[],_ :: _,_,_,_,_,hj,_,_=>by simp at hj
def v9 (P:Program) (t:TypeId) (ks:List IntKind):Bool:=match P.underlying t with
 | some (.struct fs)=>!P.stoodInHeld t && !P.eqGuardType P.depth t && gC P 0 fs.toList ks
 | _=>false
theorem yO {P:Program} {t:TypeId} {ks:List IntKind} (h:v9 P t ks=true):xF P t ks:=by
 unfold v9 at h
 split at h
 ·rename_i fs hu
  simp only [Bool.and_eq_true,Bool.not_eq_true'] at h
  obtain ⟨⟨h1,h2⟩,h3⟩:=h
  intro x y is js w hi hj
  have hf:P.fieldsOf t=fs:=by unfold Program.fieldsOf;rw [hu]
  have hrun:=run_equalIn_struct (P:=P) w 9999 t (List.zipWith Value.int ks is).toArray (List.zipWith Value.int ks js).toArray (by rw [hf];exact hu) h1
  rw [hf,iD fs.toList ks 0 is js _ _ h3 hi hj rfl rfl] at hrun
  unfold jZ
  constructor
  ·simp only [Sem.run_bind,run_eqGuard_agg w _ t x y _ _ h2,Result.andThen_ok,run_eql_struct]
   rw [show (10000:Nat)=9999 + 1 from rfl,hrun];rfl
  ·simp only [Sem.run_bind,run_eqGuard_agg w _ t x y _ _ h2,Result.andThen_ok,run_neq_struct]
   rw [show (10000:Nat)=9999 + 1 from rfl,hrun];rfl
 ·cases h
theorem cT {P:Program} {t:TypeId} {us:List (List U)} {m:Bool} {cs:List Ct} (hc:Cs P t=some (m,cs)) (h:ez P [t] us):∃ u,us=[u]∧u.length=cs.length:=by
 obtain ⟨u,r,m',cs',rfl,hcs,hl,hr⟩:=h
 rw [hc] at hcs;cases hcs
 have hr:r=[]:=hr
 subst hr
 exact ⟨u,rfl,hl⟩
theorem bR {P:Program} {t t2:TypeId} {us:List (List U)} {m m2:Bool} {cs cs2:List Ct} (hc:Cs P t=some (m,cs)) (hc2:Cs P t2=some (m2,cs2)) (h:ez P [t,t2] us):∃ u u2,us=[u,u2]∧u.length=cs.length∧u2.length=cs2.length:=by
 obtain ⟨u,r,m',cs',rfl,hcs,hl,hr⟩:=h
 rw [hc] at hcs;cases hcs
 obtain ⟨u2,rfl,hl2⟩:=cT hc2 hr
 exact ⟨u,u2,rfl,hl,hl2⟩
theorem m5 {P:Program} {t t2 t3:TypeId} {us:List (List U)} {m m2 m3:Bool} {cs cs2 cs3:List Ct} (hc:Cs P t=some (m,cs)) (hc2:Cs P t2=some (m2,cs2)) (hc3:Cs P t3=some (m3,cs3)) (h:ez P [t,t2,t3] us) :
  ∃ u u2 u3,us=[u,u2,u3]∧u.length=cs.length∧u2.length=cs2.length∧u3.length=cs3.length:=by
 obtain ⟨u,r,m',cs',rfl,hcs,hl,hr⟩:=h
 rw [hc] at hcs;cases hcs
 obtain ⟨u2,u3,rfl,hl2,hl3⟩:=bR hc2 hc3 hr
 exact ⟨u,u2,u3,rfl,hl,hl2,hl3⟩
theorem bG {u:List U} (h:u.length=1):∃ a,u=[a]:=List.length_eq_one_iff.1 h
theorem Da {u:List U} (h:u.length=2):∃ a b,u=[a,b]:=match u,h with | [a,b],_=>⟨a,b,rfl⟩
theorem qy {u:List U} (h:u.length=5):∃ a b c d e,u=[a,b,c,d,e]:=match u,h with | [a,b,c,d,e],_=>⟨a,b,c,d,e,rfl⟩
theorem oc {u:List U} (h:u.length=7):∃ a b c d e f g,u=[a,b,c,d,e,f,g]:=match u,h with | [a,b,c,d,e,f,g],_=>⟨a,b,c,d,e,f,g,rfl⟩
theorem bi {b:Bool} {x y:Prop} (h1:b=true→x) (h2:b=false→y):(bif b then x else y):=by
 cases b
 ·exact h2 rfl
 ·exact h1 rfl
theorem bt {b:Bool} {x y:Prop} (h:b=true) (hx:x):(bif b then x else y):=by rw [h];exact hx
theorem bf {b:Bool} {x y:Prop} (h:b=false) (hy:y):(bif b then x else y):=by rw [h];exact hy
theorem bd {p:Prop} [Decidable p] {x y:Prop} (h1:p→x) (h2:¬ p→y):(bif decide p then x else y):=by
 by_cases h:p
 ·rw [decide_eq_true h];exact h1 h
 ·rw [decide_eq_false h];exact h2 h
theorem dt {p:Prop} [Decidable p] {x y:Prop} (h:p) (hx:x):(bif decide p then x else y):=by rw [decide_eq_true h];exact hx
theorem df {p:Prop} [Decidable p] {x y:Prop} (h:¬ p) (hy:y):(bif decide p then x else y):=by rw [decide_eq_false h];exact hy
theorem blt {a b:Nat} {x y:Prop} (h:a < b) (hx:x):(bif Nat.blt a b then x else y):=bt (by simpa [Nat.blt_eq] using h) hx
theorem cu {p:Prop} [Decidable p] {c:Bool} {x y:Prop} (h:p) (hc:c=true) (hx:x):(bif decide p && c then x else y):=bt (by simp [h,hc]) hx
theorem aW {C:Ctx} {code:Code} {c:Nat} {b:Code} (h:cn code 0=[(c,b)]) (hl:aE C c b):∀ p ∈ cn code 0,aE C p.1 p.2:=by
 rw [h];intro p hp
 have:p=(c,b):=by simpa using hp
 subst this;exact hl
theorem dS {C:Ctx} {code:Code} {c c':Nat} {b b':Code} (h:cn code 0=[(c,b),(c',b')]) (hl:aE C c b) (hl':aE C c' b'):∀ p ∈ cn code 0,aE C p.1 p.2:=by
 rw [h];intro p hp
 rcases List.mem_cons.1 hp with hp | hp
 ·subst hp;exact hl
 ·have:p=(c',b'):=by simpa using hp
  subst this;exact hl'
theorem dP {C:Ctx} {code:Code} {c c' c2:Nat} {b b' b2:Code} (h:cn code 0=[(c,b),(c',b'),(c2,b2)]) (hl:aE C c b) (hl':aE C c' b') (hl2:aE C c2 b2):∀ p ∈ cn code 0,aE C p.1 p.2:=by
 rw [h];intro p hp
 rcases List.mem_cons.1 hp with hp | hp
 ·subst hp;exact hl
 rcases List.mem_cons.1 hp with hp | hp
 ·subst hp;exact hl'
 ·have:p=(c2,b2):=by simpa using hp
  subst this;exact hl2
theorem aI {C:Ctx} {code:Code} (h:cn code 0=[]):∀ p ∈ cn code 0,aE C p.1 p.2:=by
 rw [h];intro p hp;cases hp
structure mh (p:Prop):Prop where
 out:p
theorem mh.eq {a b:Prop} (h:a=b) (hb:b):mh a:=⟨by rw [h];exact hb⟩
theorem aM {C:Ctx} (hC:C.Ok) {f:FuncId} {fn:Func} {us rs:List (List U)} (hf:C.P.funcs[f]? = some fn) (hck:IB fn=true) (hl:∀ p ∈ cn (bh fn) 0,aE C p.1 p.2) (hrun:xm C.P fn.params.toList us→mh (run C fn us (· = rs))):vc C.P f fn us rs:=
 Jp hC hf hck hl fun h=>(hrun h).out
theorem dB {C:Ctx} (hC:C.Ok) {f:FuncId} {fn:Func} {F:Tr} (hf:C.P.funcs[f]? = some fn) (hck:Cf fn=true) (hl:∀ p ∈ cn (bh fn) 0,aE C p.1 p.2)
  (h:∀ vs objs R,okS.okSs vs→(∀ id o,(id,o) ∈ objs→okO C.P o)→F vs objs R→mh (jP C fn vs objs R)):lE C.P f fn F:=
 (Iw hC hf hck hl).weakenOk fun vs objs R h1 h2 h3=>(h vs objs R h1 h2 h3).out
theorem nt {b:Bool} (h:(!b)=true):b=false:=by simpa using h
theorem nf {b:Bool} (h:(!b)=false):b=true:=by simpa using h
theorem om (s:ByteArray):s.data.toList.length=s.size:=by rw [Array.length_toList];rfl
theorem al {C:Ctx} {c:Nat} {b:Code} {ts os:List Nat} {F:aS} (hF:C.loops c=some (ts,os,F)) (μ:Mu)
  (h:∀ (pan:KP) (svs:List SV) (l:List Obj) (k:KE),okS.okSs svs→EO C.P l→F pan svs l k→mh (exec (C.panics pan) b c ⟨ts.zip svs,os.zip l⟩ (again C.P (C.lout c) (C.lout (c + 1048576)) pan ts os F μ (μ svs l) k))):aE C c b:=by
 intro ts' os' F' h'
 rw [hF] at h'
 cases h'
 exact ⟨μ,fun pan svs l k _ _ h1 h2 h3=>(h pan svs l k h1 h2 h3).out⟩
end Go.Den

namespace Go.Den
open Go Go.RowKit Go.ChangeShapes Go.WideShapes Go.Deep
def zr (P:Program) (ok:TypeId→Bool) (n:Nat):Nat→List Field→Bool
 | _,[]=>true
 | off,f :: fs=>match cts P n f.type with
  | some (_,cs)=>Nat.beq f.offset off && Nat.beq (P.cellsOf f.type) cs.length && ok f.type && zr P ok n (off + cs.length) fs
  | none=>false
def lv (P:Program):Nat→TypeId→Bool
 | 0,_=>false
 | n + 1,t=>match P.underlying t with
  | some (.int _)=>true
  | some .bool=>true
  | some .string=>true
  | some (.slice e)=>match cts P n e with
   | some (_,cs)=>Nat.beq (P.cellsOf e) cs.length && Nat.blt 0 cs.length && lv P n e
   | none=>false
  | some (.struct fs)=>match nu (cts P n) fs.toList with
   | some cs=>Nat.beq (P.cellsOf t) cs.length && zr P (lv P n) n 0 fs.toList
   | none=>false
  | _=>false
theorem BP {P:Program}:∀ {n:Nat} {t:TypeId} {cs:List Ct},cts P n t=some (false,cs)→∃ c,cs=[c]
 | 0,t,cs,h=>by cases h
 | n + 1,t,cs,h=>by
  unfold cts at h
  repeat' split at h
  all_goals first | (cases h;exact ⟨_,rfl⟩) | cases h
section
variable {H:Type} {enc:TypeId × Value→H} {P:Program} {w:World} {base:Nat} {sp:Nat→Bool} {held:Bool}
theorem aX.cat {w:World} {Z:Nat→Prop}:∀ {cs ds:List Ct} {v x:List Value} {us ys:List U},aX w Z cs v us→us.length=cs.length→aX w Z ds x ys→aX w Z (cs ++ ds) (v ++ x) (us ++ ys)
 | [],ds,v,x,us,ys,hv,hu,hx=>by
  have hv:v=[]:=hv
  have hu:us=[]:=List.eq_nil_of_length_eq_zero hu
  subst hv hu
  exact hx
 | c :: cs,ds,v,x,[],ys,hv,hu,hx=>by simp at hu
 | c :: cs,ds,v,x,u :: us,ys,hv,hu,hx=>by
  obtain ⟨a,t,rfl,hr,ht⟩:=hv
  exact ⟨a,t ++ x,rfl,hr,aX.cat (us:=us) ht (by simpa using hu) hx⟩
theorem Gn {a:Addr} {v:Value} (h:w.cell? a=some v):a.block < w.heap.size∧a=⟨a.block,a.off,none⟩:=by
 unfold World.cell? at h
 split at h
 ·rename_i c e fr hb
  split at h
  ·cases h
  ·rename_i hs
   refine ⟨(Array.getElem?_eq_some_iff.1 hb).1,?_⟩
   obtain ⟨b,o,s⟩:=a
   cases s with
   | none=>rfl
   | some x=>simp at hs
 ·cases h
theorem Er {p:Nat→U→Prop}:∀ (n:Nat),(∀ i,i < n→∃ u,p i u)→∃ L:List U,L.length=n∧∀ i,i < n→p i (U.at L i)
 | 0,_=>⟨[],rfl,fun i hi=>by omega⟩
 | n + 1,h=>by
  obtain ⟨L,hl,hp⟩:=Er n fun i hi=>h i (by omega)
  obtain ⟨u,hu⟩:=h n (by omega)
  refine ⟨L ++ [u],by simp [hl],fun i hi=>?_⟩
  by_cases hin:i < n
  ·have:=hp i hin
   rw [dN _ _ (by omega)] at this
   rw [dN _ _ (by simp;omega),List.getElem_append_left (by omega)]
   exact this
  ·have:i=n:=by omega
   subst this
   rw [dN _ _ (by simp;omega),List.getElem_append_right (by omega)]
   simpa [hl] using hu
theorem uw {n:Nat} {ok:TypeId→Bool} {vals:List Value} {Z:Nat→Prop}
  (ih:∀ t m cs vs,cts P n t=some (m,cs)→ok t=true→(∃ fuel x,DataW.trod enc P w base sp held fuel t vs=some x)→∃ us,us.length=cs.length∧aX w Z cs vs us) :
  ∀ (fs:List Field) (off:Nat) (cs:List Ct),nu (cts P n) fs=some cs→zr P ok n off fs=true→(∀ f ∈ fs,∃ fuel x,DataW.trod enc P w base sp held fuel f.type ((vals.drop f.offset).take (P.cellsOf f.type))=some x)→
   vals.length=off + cs.length→∃ us,us.length=cs.length∧aX w Z cs (vals.drop off) us
 | [],off,cs,h,_,_,hl=>by
  simp only [nu,Option.some.injEq] at h
  subst h
  refine ⟨[],rfl,?_⟩
  show vals.drop off=[]
  rw [List.drop_of_length_le (by simp at hl;omega)]
 | f :: fs,off,cs,h,ho,ht,hl=>by
  unfold nu at h
  unfold zr at ho
  split at h
  ·rename_i m c1 c2 h1 h2
   injection h with h
   subst h
   rw [h1] at ho
   simp only [Bool.and_eq_true] at ho
   obtain ⟨⟨⟨ho1,ho2⟩,ho3⟩,ho4⟩:=ho
   have ho1:=Nat.eq_of_beq_eq_true ho1
   have ho2:=Nat.eq_of_beq_eq_true ho2
   simp only [List.length_append] at hl
   obtain ⟨u1,g1,g2⟩:=ih _ _ _ _ h1 ho3 (ht f (List.mem_cons_self ..))
   obtain ⟨u2,g3,g4⟩:=uw ih fs (off + c1.length) c2 h2 ho4 (fun f' hf'=>ht f' (List.mem_cons_of_mem _ hf')) (by omega)
   refine ⟨u1 ++ u2,by simp [g1,g3],?_⟩
   rw [ho1,ho2] at g2
   have:=aX.cat g2 g1 g4
   have hsp:(vals.drop off).take c1.length ++ vals.drop (off + c1.length)=vals.drop off:=by
    rw [← List.drop_drop,List.take_append_drop]
   rw [hsp] at this
   exact this
  ·cases h
theorem pq:∀ (n:Nat) (t:TypeId) (m:Bool) (cs:List Ct) (vals:List Value),cts P n t=some (m,cs)→lv P n t=true→(∃ fuel x,DataW.trod enc P w base sp held fuel t vals=some x)→
  ∃ us,us.length=cs.length∧aX w (fun b=>b < w.heap.size) cs vals us
 | 0,_,_,_,_,h,_,_=>by cases h
 | n + 1,t,m,cs,vals,h,hr,⟨fuel,x,hx⟩=>by
  unfold cts at h
  unfold lv at hr
  split at h
  ·rename_i k hu
   cases h
   obtain ⟨i,rfl,_,hw⟩:=DataW.trod_int hu hx
   exact ⟨[.i i],rfl,_,[],rfl,⟨rfl,by simpa [Lit.wf] using hw⟩,rfl⟩
  ·rename_i hu
   cases h
   obtain ⟨b,rfl,_⟩:=DataW.trod_bool hu hx
   exact ⟨[.b b],rfl,_,[],rfl,rfl,rfl⟩
  ·rename_i hu
   cases h
   obtain ⟨s,rfl,_,hs⟩:=DataW.trod_string hu hx
   exact ⟨[.s s],rfl,_,[],rfl,⟨rfl,hs⟩,rfl⟩
  ·rename_i e hu
   rw [hu] at hr
   simp only at hr
   split at h
   ·rename_i m' cs' hc
    cases h
    rw [hc] at hr
    simp only [Bool.and_eq_true] at hr
    obtain ⟨⟨hr1,hr2⟩,hr3⟩:=hr
    have hr1:=Nat.eq_of_beq_eq_true hr1
    have hr2:0 < cs'.length:=by simpa [Nat.blt_eq] using hr2
    rcases open_slice hu hx with ⟨rfl,_⟩ | ⟨a,len,cap,mm,n',D,Pl,rfl,hb,hl,hm,hmm,_,hi⟩
    ·exact ⟨[.l []],rfl,_,[],rfl,⟨none,0,rfl,Nat.le_refl _,Nat.zero_le _,fun k hk=>absurd hk (by simp)⟩,rfl⟩
    ·have hle:len≤mm:=by rw [hmm];split<;>omega
     have hA:0 < len→a.block < w.heap.size∧a=⟨a.block,a.off,none⟩:=fun hp=>by
      obtain ⟨vs,h1,_⟩:=hi 0 (by omega)
      rw [hr1] at h1
      obtain ⟨_,h3,h4⟩:=World.cells?_some h1
      have hv:=h4 0 hr2
      rw [List.getElem?_eq_getElem (by omega)] at hv
      have h0:(a.add (0 * cs'.length)).add 0=a:=by simp [Addr.add]
      rw [h0] at hv
      exact Gn hv
     have hel:∀ i,i < len→∃ u,a=⟨a.block,a.off,none⟩∧a.block < w.heap.size∧bz w (fun b=>b < w.heap.size) cs' a.block (a.off + i * cs'.length) (dF m' u):=fun i hil=>by
      obtain ⟨vs,h1,h2⟩:=hi i (by omega)
      rw [hr1] at h1
      obtain ⟨_,h3,h4⟩:=World.cells?_some h1
      obtain ⟨us,g1,g2⟩:=pq n e m' cs' vs hc hr3 ⟨_,_,h2⟩
      obtain ⟨q1,ha⟩:=hA (by omega)
      refine ⟨ofElem m' us,ha,q1,?_⟩
      have hE:=aX.elem (m:=m') (fun hm0=>by subst hm0;exact BP hc) g2
      refine aX.cells hE fun j v hj=>?_
      have hjl:j < vs.length:=(List.getElem?_eq_some_iff.1 hj).1
      rw [← hj,← h4 j (by omega)]
      congr 1
      obtain ⟨b,o,s⟩:=a
      cases ha
      by_cases hi0:i * cs'.length=0<;>by_cases hj0:j=0<;>simp [Addr.add,hi0,hj0,Nat.add_assoc]
     obtain ⟨L,hL,hp⟩:=Er len hel
     refine ⟨[.l L],rfl,_,[],rfl,⟨some a,cap,by rw [U.at];simp [hL],by rw [U.at];simpa [hL] using hl,hm,fun k hk=>?_⟩,rfl⟩
     obtain ⟨q1,q2,q3⟩:=hp k (by simpa [U.at,hL] using hk)
     exact ⟨a.block,a.off,by rw [← q1],q2,q3⟩
   ·cases h
  ·rename_i fs hu
   rw [hu] at hr
   simp only at hr
   split at h
   ·rename_i cs' hc
    cases h
    rw [hc] at hr
    simp only [Bool.and_eq_true] at hr
    have hr1:=Nat.eq_of_beq_eq_true hr.1
    obtain ⟨xs,n',rfl,_,hlen,hxs,hf⟩:=DataW.trod_struct hu hx
    have:=uw (enc:=enc) (base:=base) (sp:=sp) (held:=held) (vals:=vals) (fun t m cs vs a b c=>pq n t m cs vs a b c) fs.toList 0 _ hc hr.2 (fun f hfm=>by
     obtain ⟨i,hi,hfi⟩:=List.mem_iff_getElem.1 hfm
     have hfi':fs[i]? = some f:=by
      rw [← hfi,← Array.getElem?_toList,List.getElem?_eq_getElem hi]
     have:=hf i f hfi'
     rw [List.getElem?_eq_getElem (by simp at hi;omega)] at this
     exact ⟨_,_,this⟩) (by omega)
    simpa using this
   ·cases h
  ·rename_i hu
   rename_i d _ _ _ _ _
   rw [hu] at hr
   split at hr<;>first | (rename_i hh;cases hh;simp_all) | cases hr
  ·cases h
end
end Go.Den

namespace Go.Den
open Go Go.RowKit Go.ChangeShapes Go.WideShapes Go.Deep
section
variable {H:Type} {enc:TypeId × Value→H} {P:Program} {w:World} {base:Nat} {sp:Nat→Bool} {held:Bool}
theorem FM {t:TypeId} {m:Bool} {cs:List Ct} {v:Value} {d:DataW H} {ps:List MemPlace} {r:Reach} {b0:Nat} (hc:Cs P t=some (m,cs)) (hr:lv P 8 t=true) (hv:Value.okWide P w r b0 t v) (h:DataW.Trod enc P w base sp held t v d ps) :
  ∃ us s,us.length=cs.length∧gk P t us=some s∧ag w (fun b=>b < w.heap.size) none_ s v:=by
 obtain ⟨fuel,hx⟩:=h
 obtain ⟨us,hl,hR⟩:=pq 8 t m cs _ hc hr ⟨_,_,hx⟩
 have hc':=hc
 unfold gk
 rw [hc]
 have hone:∀ {c:Ct},cs=[c]→v.cells = #[v]→∃ s,(match some (false,cs) with | some (true,cs)=>some (SV.agg (vals cs us)) | some (false,[c])=>some (.val c (U.at us 0)) | _=>none)=some s∧ag w (fun b=>b < w.heap.size) none_ s v:=fun {c} hcs hvc=>by
  subst hcs
  rw [hvc] at hR
  obtain ⟨x,l,he,hC,_⟩:=hR
  have he:v=x:=by simp at he;exact he.1
  subst he
  exact ⟨_,rfl,hC⟩
 unfold cts at hc'
 split at hc'
 ·rename_i k hu
  cases hc'
  obtain ⟨n,rfl⟩:=okWide_int hu hv
  obtain ⟨s,h1,h2⟩:=hone rfl rfl
  exact ⟨us,s,hl,h1,h2⟩
 ·rename_i hu
  cases hc'
  obtain ⟨n,rfl⟩:=okWide_bool hu hv
  obtain ⟨s,h1,h2⟩:=hone rfl rfl
  exact ⟨us,s,hl,h1,h2⟩
 ·rename_i hu
  cases hc'
  obtain ⟨n,rfl⟩:=okWide_string hu hv
  obtain ⟨s,h1,h2⟩:=hone rfl rfl
  exact ⟨us,s,hl,h1,h2⟩
 ·rename_i e hu
  split at hc'
  ·cases hc'
   obtain ⟨a,l,c,rfl⟩:=okWide_slice hu hv
   obtain ⟨s,h1,h2⟩:=hone rfl rfl
   exact ⟨us,s,hl,h1,h2⟩
  ·cases hc'
 ·rename_i fs hu
  split at hc'
  ·cases hc'
   obtain ⟨vs,rfl,_⟩:=okWide_struct hu hv
   exact ⟨us,_,hl,rfl,vs,rfl,hR.vals⟩
  ·cases hc'
 ·rename_i hu1 hu2 hu3 hu4 hu5 hu
  unfold lv at hr
  rw [hu] at hr
  split at hr<;>first | (rename_i hh;cases hh;simp_all) | cases hr
 ·cases hc'
def C4 (P:Program) (t:TypeId):Bool:=P.readableRec t && decide (t < P.types.size) && lv P 8 t && (Cs P t).isSome
def nj (P:Program):List TypeId→Bool
 | []=>true
 | t :: ts=>C4 P t && nj P ts
theorem rV:∀ {ts:List TypeId} {vs:List Value} {ds:List (DataW H)} {ps:List MemPlace} {r:Reach} {b0:Nat},nj P ts=true→(∀ (j:Nat) t v,ts[j]? = some t→vs[j]? = some v→Value.okWide P w r b0 t v)→DataW.TrodAll enc P w base sp held ts vs ds ps→
  ds.length=ts.length∧∃ us,ez P ts us∧zl P w (fun b=>b < w.heap.size) ts us vs
 | [],vs,ds,ps,_,_,_,_,h=>by
  obtain ⟨rfl,rfl,_⟩:=trodAll_nil h
  exact ⟨rfl,[],rfl,[],rfl,rfl⟩
 | t :: ts,vs,ds,ps,r,b0,hck,hv,h=>by
  obtain ⟨v0,vs0,d0,ds0,p0,q0,rfl,rfl,rfl,h0,r0⟩:=trodAll_cons h
  unfold nj at hck
  rw [Bool.and_eq_true] at hck
  have hck1:=hck.1
  unfold C4 at hck1
  simp only [Bool.and_eq_true] at hck1
  obtain ⟨⟨_,hck2⟩,hck3⟩:=hck1
  obtain ⟨⟨m,cs⟩,hcs⟩:=Option.isSome_iff_exists.1 hck3
  obtain ⟨u,s,h1,h2,h3⟩:=FM hcs hck2 (hv 0 t v0 rfl rfl) h0
  obtain ⟨h4,us,h5,svs,h6,h7⟩:=rV hck.2 (fun j t v ht hv'=>hv (j + 1) t v (by simpa using ht) (by simpa using hv')) r0
  refine ⟨by simp [h4],u :: us,⟨u,us,m,cs,rfl,hcs,h1,h5⟩,s :: svs,?_,v0,vs0,rfl,h3,h7⟩
  unfold aU
  rw [h2,h6]
theorem ru (hl:laidOutB P=true) {W W':World} (hb:Below W.heap.size W W') {sp':Nat→Bool}:∀ {ts:List TypeId} {vs:List Value} {ds:List (DataW H)} {ps:List MemPlace},nj P ts=true→
  DataW.TrodAll enc P W 0 (fun _=>true) true ts vs ds ps→(∀ p ∈ ps,p.block < W.heap.size)→(∀ p ∈ ps,sp' p.block=true)→DataW.TrodAll enc P W' 0 sp' true ts vs ds ps
 | [],vs,ds,ps,_,h,_,_=>by
  obtain ⟨rfl,rfl,rfl⟩:=trodAll_nil h
  exact trodAll_mk0
 | t :: ts,vs,ds,ps,hck,h,hlt,hsp=>by
  obtain ⟨v0,vs0,d0,ds0,p0,q0,rfl,rfl,rfl,h0,r0⟩:=trodAll_cons h
  unfold nj at hck
  rw [Bool.and_eq_true] at hck
  have hck1:=hck.1
  unfold C4 at hck1
  simp only [Bool.and_eq_true,decide_eq_true_eq] at hck1
  obtain ⟨⟨⟨hk1,hk2⟩,_⟩,_⟩:=hck1
  refine trodAll_cons_mk (WideElems.Trod_stays hl hk1 hk2 h0 (fun x hx=>hb.same (hlt x (List.mem_append.2 (.inl hx)))) (fun x hx=>hsp x (List.mem_append.2 (.inl hx)))) ?_
  exact ru hl hb hck.2 r0 (fun x hx=>hlt x (List.mem_append.2 (.inr hx))) (fun x hx=>hsp x (List.mem_append.2 (.inr hx)))
end
theorem law_calls {H:Type} {enc:TypeId × Value→H} {P:Program} {f:FuncId} {fn:Func} {s:ChangeSpec} {tb:TypeId} {apart handsOn:Bool} (hf:P.funcs[f]? = some fn) (hS:bB P f fun _=>[[.b true]]) (hrt:fn.resultTypes = #[tb]) (htb:P.underlying tb=some .bool)
  (hl:laidOutB P=true) (hck:nj P fn.params.toList=true) (hsv:s.vars=[]) (hs:∀ ds:List (DataW H),ds.length=fn.params.size→s.fn H ds = { results:=[.lit (.bool true)],args:=ds })
  {W:World} {base:Nat} {args:Array Value} {ds gs:List (DataW H)} {before:List MemPlace} (hval:∀ (j:Nat) t v,fn.params[j]? = some t→args[j]? = some v→Value.okWide P W .any base t v)
  (hW:DataW.Whole enc P fn.params.toList s.vars apart W args.toList ds gs before) :
  Calls P f args W fun e W'=>∃ v,e = .returned v∧s.post enc P fn apart true handsOn false W args v W':=by
 have hlt:=hW.lt
 have hW':=hW
 obtain ⟨p,q,hA,hV,rfl,_,_⟩:=hW
 rw [hsv] at hV
 obtain ⟨rfl,rfl⟩:=trodVars_none hV
 rw [List.append_nil] at hlt hW'
 obtain ⟨hlen,us,hsh,hrep⟩:=rV (enc:=enc) hck (fun j t v ht hv=>hval j t v (by simpa using ht) (by simpa using hv)) hA
 have hfn:=hS fn us hf
 have hc:=hfn.calls W (fun b=>b < W.heap.size) args.toList (fun b hb=>hb) hsh hrep
 rw [show args.toList.toArray=args by simp] at hc
 refine hc.mono fun e W' ⟨v,Z',he,hfut,_,_,_,svs,hsvs,hres⟩=>⟨v,he,?_⟩
 have hb:Below W.heap.size W W':=⟨hfut.os,hfut.tape,hfut.output,hfut.size,fun k hk=>hfut.block k hk (fun h=>h)⟩
 have hcb:Cs P tb=some (false,[.bool]):=by simp [Cs,cts,htb]
 have hv:v = .bool true:=by
  rw [hrt] at hsvs
  have:aU P [tb] [[U.b true]]=some [.val .bool (.b true)]:=by
   unfold aU gk
   rw [hcb]
   rfl
  have h2:aU P (#[tb]:Array TypeId).toList [[U.b true]]=some [.val .bool (.b true)]:=this
  rw [h2] at hsvs
  cases hsvs
  exact hres
 subst hv
 have hsfn:s.fn H (ds ++ []) = { results:=[.lit (.bool true)],args:=ds }:=by
  rw [List.append_nil];exact hs ds (by rw [hlen];simp)
 refine ⟨ds,[],p,[],p,[],hW',?_,?_,?_,hb.frame _,fun h=>by cases h⟩
 ·rw [hsfn,hrt]
  exact trodAll_cons_mk (shut_bool htb true) trodAll_mk0
 ·rw [hsfn]
  exact ru hl hb hck hA hlt fun x hx=>by simpa using hlt x hx
 ·rw [hsfn,hsv]
  exact rfl
end Go.Den

namespace Go.Den
open Go Go.RowKit
section
variable {C:Ctx} {Θ:Anc} {n:Nat} {σ:St} {a:Act} {w:World} {Z:Nat→Prop} {G:Nat→Value}
end
theorem uy {a:Act} {d:Option Nat} {v:Value}:(a.put d v).tmps.size=a.tmps.size:=by
 cases d with
 | none=>rfl
 | some t=>simp [Act.put]
theorem uZ {a:Act} {t:Nat} {v:Value} (h:t < a.tmps.size):(a.put (some t) v).eval (.tmp t)=v:=by
 simp [Act.put,Act.eval,Array.getD_eq_getD_getElem?,h]
def xT (m:List (Nat × Nat)):List (Nat × SV)→List (Nat × SV)
 | []=>[]
 | (t,v) :: r=>(t,v.ren m) :: xT m r
theorem pK (m:List (Nat × Nat)):∀ (l:List (Nat × SV)) (t:Nat),get (xT m l) t=(get l t).ren m
 | [],_=>rfl
 | (k,v) :: r,t=>by
  show (bif Nat.beq k t then v.ren m else get (xT m r) t)=SV.ren m (bif Nat.beq k t then v else get r t)
  cases Nat.beq k t with
  | true=>rfl
  | false=>exact pK m r t
section
variable {P:Program} {Θ:Anc} {n:Nat} {σ:St} {a:Act} {w:World} {Z:Nat→Prop} {G:Nat→Value}
theorem Sim.rename (S:Sim P Θ n σ a w Z G) {m:List (Nat × Nat)} (h1:d4 (mM m)=true) (h2:d4 (n6 m)=true) {a':Act} (ht:a'.tmps=a.tmps) :
  ∃ G',(∀ i j,lk m i=some j→G' j=G i)∧Sim P ⟨Θ.w,Θ.M,Θ.N,Θ.Z0,Θ.kb,Θ.ka,G',a'.defers⟩ n ⟨xT m σ.env,dO σ.objs m m⟩ a' w Z G':=by
 let G':Nat→Value:=fun j=>match lk (cm m) j with | some i=>G i | none=>.pointer none
 have hG:∀ i j,lk m i=some j→G' j=G i:=fun i j hij=>by show (match lk (cm m) j with | some i=>G i | none=>.pointer none)=_;rw [jX h2 hij]
 have hpk:∀ j o',az (dO σ.objs m m) j=some o'→∃ i p,lk m i=some j∧az σ.objs i=some p∧o' = p.ren m∧G' j=G i:=fun j o' hj=>by
  obtain ⟨i,p,h3,h4,h5⟩:=fQ hj
  exact ⟨i,p,cL h1 h3,h4,h5,hG i j (cL h1 h3)⟩
 refine ⟨G',hG,?_⟩
 exact
  {size:=by rw [ht];exact S.size
   calm:=rfl
   slot:=fun t=>by
    show ag w Z G' (get (xT m σ.env) t) (a'.tmps.getD t undef)
    rw [pK,ht]
    exact ag.ren hG _ _ (S.slot t)
   obj:=fun j o' hj=>by
    obtain ⟨i,p,h3,h4,rfl,_⟩:=hpk j o' hj
    exact cg.ren hG h3 (S.obj i p h4)
   sep:=fun j j' o1 o2 b hj hj' hb hb'=>by
    obtain ⟨i,p,g1,g2,_,g3⟩:=hpk j o1 hj
    obtain ⟨i',p',g1',g2',_,g3'⟩:=hpk j' o2 hj'
    rw [g3] at hb
    rw [g3'] at hb'
    have:=S.sep i i' p p' b g2 g2' hb hb'
    subst this
    rw [g1] at g1'
    exact Option.some.inj g1'
   free:=fun j o' b hj hb=>by
    obtain ⟨i,p,g1,g2,_,g3⟩:=hpk j o' hj
    rw [g3] at hb
    exact S.free i p b g2 hb
   keep:=fun j o' b hj hb hN=>by
    obtain ⟨i,p,g1,g2,rfl,g3⟩:=hpk j o' hj
    rw [g3] at hb
    have:=S.keep i p b g2 hb hN
    cases p<;>exact this
   nlt:=S.nlt
   lt:=S.lt
   fut:=S.fut
   new:=S.new
   sub:=S.sub
   flat:=fun j=>by
    show (match lk (cm m) j with | some i=>G i | none=>Value.pointer none).oneCell' = true
    split
    ·exact S.flat _
    ·rfl
   odd:=fun _ _=>rfl
   row:=S.row }
end
end Go.Den

namespace Go.Den
open Go Go.RowKit
def iR:Out→List SV
 | .ret rs=>rs
 | .pan v=>[v]
def GP (out:Out):SV:=.agg (iR out)
def Hx:Out→List SV→Option Out
 | .ret _,l=>some (.ret l)
 | .pan _,[v]=>some (.pan v)
 | .pan _,_=>none
def I5 (out:Out) (sv:SV) (k:Out→Prop):Prop:=match sv with
 | .agg l=>match Hx out l with
  | some o=>k o
  | none=>False
 | _=>False
def HR (P:Program) (l:List Nat) (F:Tr):Tr:=fun vs objs R=>F vs objs fun out objs'=>
 match (St.mk [(0,GP out)] objs').freezes P l with
 | some σ=>I5 out (get σ.env 0) fun out=>R out σ.objs
 | none=>False
theorem lE.frz {P:Program} {f:FuncId} {fn:Func} {F:Tr} (h:lE P f fn F) (l:List Nat):lE P f fn (HR P l F) where
 body:=h.body
 name:=h.name
 calls:=by
  intro vs objs R hcan hF w Z G args hargs hst
  refine (h.calls vs objs _ hcan hF w Z G args hargs hst).mono ?_
  rintro e w' ⟨out,objs',Z',G',hR,hout,A⟩
  split at hR
  case h_2=>exact hR.elim
  rename_i σ hfr
  obtain ⟨ov,hov⟩:∃ ov:List Value,ab w' Z' G' (iR out) ov∧(∀ (Z2:Nat→Prop) (out2:List SV) (o2:Out),ab w' Z2 G' out2 ov→Hx out out2=some o2→lT w' Z2 G' o2 e):=by
   cases out with
   | ret rs=>
    match rs,hout with
    | [s],⟨v,he,hv⟩=>
     refine ⟨[v],⟨v,[],rfl,hv,rfl⟩,?_⟩
     intro Z2 out2 o2 h2 h3
     cases h3
     match out2,h2 with
     | [],h2=>cases h2
     | [s2],h2=>
      obtain ⟨v2,t2,hvt,hv2,ht2⟩:=h2
      cases hvt
      exact ⟨v,he,hv2⟩
     | s2 :: s3 :: r,h2=>
      obtain ⟨v2,t2,hvt,hv2,ht2⟩:=h2
      cases hvt
      obtain ⟨v3,t3,hvt,_⟩:=ht2
      cases hvt
    | [],⟨v,he,hv⟩=>
     obtain ⟨xs,rfl,hxs⟩:=hv
     refine ⟨xs.toList,hxs,?_⟩
     intro Z2 out2 o2 h2 h3
     cases h3
     have h0:xs.toList=[]:=hxs
     rw [h0] at h2
     match out2,h2 with
     | [],h2=>exact ⟨_,he,xs,rfl,h0⟩
     | s2 :: r,h2=>
      obtain ⟨v2,t2,hvt,_⟩:=h2
      cases hvt
    | s :: s' :: rs,⟨v,he,hv⟩=>
     obtain ⟨xs,rfl,hxs⟩:=hv
     refine ⟨xs.toList,hxs,?_⟩
     intro Z2 out2 o2 h2 h3
     cases h3
     obtain ⟨v1,t1,hvt,_,v2,t2,rfl,_,_⟩:=hxs
     rw [hvt] at h2
     match out2,h2 with
     | [],h2=>cases h2
     | [s2],h2=>
      obtain ⟨v3,t3,hvt3,_,ht3⟩:=h2
      cases hvt3
      cases ht3
     | s2 :: s3 :: r,h2=>exact ⟨_,he,xs,rfl,by rw [hvt];exact h2⟩
   | pan s=>
    obtain ⟨v,he,hv⟩:=hout
    refine ⟨[v],⟨v,[],rfl,hv,rfl⟩,?_⟩
    intro Z2 out2 o2 h2 h3
    match out2,h2,h3 with
    | [],_,h3=>cases h3
    | [s2],h2,h3=>
     cases h3
     obtain ⟨v2,t2,hvt,hv2,_⟩:=h2
     cases hvt
     exact ⟨v,he,hv2⟩
    | _ :: _ :: _,_,h3=>cases h3
  obtain ⟨hov1,hov2⟩:=hov
  have S:Sim P ⟨w',fun b=>∃ id o,az objs' id=some o∧blk (G' id)=some b,fun _=>False,Z',false,false,G',[]⟩ 1 ⟨[(0,GP out)],objs'⟩ { tmps:=#[.agg ov.toArray],defers:=[] } w' Z' G':=
   {size:=rfl
    calm:=rfl
    slot:=fun t=>by
     by_cases ht:t=0
     ·subst ht
      show ag w' Z' G' (GP out) (.agg ov.toArray)
      exact ⟨_,rfl,by simpa using hov1⟩
     ·show ag w' Z' G' (get [(0,GP out)] t) _
      rw [aF,if_neg (Ne.symm ht)]
      trivial
    obj:=A.stand.obj
    sep:=A.stand.sep
    free:=fun id o b h1 h2=>⟨A.stand.free id o b h1 h2,.inl ⟨id,o,h1,h2⟩⟩
    keep:=fun _ _ _ _ _ h=>h.elim
    nlt:=fun _ h=>h.elim
    lt:=A.stand.lt
    fut:=Fut.refl _ w'
    new:=fun b hb=>.inl hb
    sub:=fun b hb=>hb
    flat:=A.stand.flat
    odd:=fun _ _=>rfl
    row:=fun _ hb=>.inl hb }
  obtain ⟨Z1,S1⟩:=cX S hfr
  have hslot:=S1.slot 0
  have hold:∀ b,(∃ id o,az objs' id=some o∧blk (G' id)=some b)→bH G objs b∨w.heap.size≤b:=fun b ⟨id,o,h1,h2⟩=>A.own id o b h1 h2
  have A1:zI P w Z G objs w' Z1 G' σ.objs:=
   {stand:=
     {lt:=S1.lt
      flat:=S1.flat
      obj:=S1.obj
      sep:=S1.sep
      free:=fun id o b h1 h2=>(S1.free id o b h1 h2).1 }
    fut:=A.fut
    sub:=fun b hb=>S1.sub b (A.sub b hb)
    new:=fun b hb=>by
     rcases S1.new b hb with h1 | h1 | h1 | h1
     ·exact A.new b h1
     ·exact .inr (hold b h1)
     ·exact h1.elim
     ·have:=S1.lt b hb
      exact absurd this (by simpa using h1)
    row:=fun b hb=>(S1.row b hb).elim (A.row b) .inr
    own:=fun id o b h1 h2=>by
     rcases (S1.free id o b h1 h2).2 with h3 | h3 | h3
     ·exact hold b h3
     ·exact h3.elim
     ·have h4:=cg.lt S1 h1 h2
      exact absurd h4 (by simpa using h3)
    keep:=A.keep }
  have hs:ag w' Z1 G' (get σ.env 0) (.agg ov.toArray):=hslot
  unfold I5 at hR
  split at hR
  case h_2=>exact hR.elim
  rename_i l hl
  split at hR
  case h_2=>exact hR.elim
  rename_i o2 ho2
  rw [hl] at hs
  obtain ⟨vs2,hv2,hr2⟩:=hs
  injection hv2 with hv2
  subst hv2
  have hr2:ab w' Z1 G' l ov:=by simpa using hr2
  exact ⟨_,_,Z1,G',hR,hov2 Z1 l o2 hr2 ho2,A1⟩
theorem ee.frz {P:Program} {f:FuncId} {F:Tr} (h:ee P f F) (l:List Nat):ee P f (HR P l F):=fun fn hf=>(h fn hf).frz l
end Go.Den

namespace Go.Den
open Go Go.RowKit
def cd (c:Code) (l:List (Option Nat × Op)):Prop:=∃ id ops,c = .region id ops false∧ops.toList.map (fun o=>(o.dst,o.op))=l∧ops.toList.all (fun o=>o.guard.isNone)=true
def wpL (P:Program) (Q:Exit→Act→World→Prop):List (Option Nat × Op)→(Act→World→Prop)→Act→World→Prop
 | [],K,a,w=>K a w
 | (d,op) :: r,K,a,w=>∀ o:Oper,o.dst=d→o.op=op→o.wp P a w (fun a' w'=>wpL P Q r K a' w') Q
section
variable {P:Program} {a:Act} {w:World} {Q:Exit→Act→World→Prop}
theorem bQ {c:Code} {l:List (Option Nat × Op)} (h:cd c l) (hl:wpL P Q l (fun a w=>Q .normal a w) a w):c.wp P Q a w:=by
 obtain ⟨id,ops,rfl,rfl,hg⟩:=h
 refine wp_region ?_
 have key:∀ (l:List Oper) (i:Nat) (a:Act) (w:World),ops.toList.drop i=l→(∀ o ∈ l,o.guard=none)→wpL P Q (l.map fun o=>(o.dst,o.op)) (fun a w=>Q .normal a w) a w→wpOps P ops Q (List.range' i l.length) a w:=by
  intro l
  induction l with
  | nil=>intro i a w _ _ h;exact h
  | cons o l ih=>
   intro i a w hd hgs h
   have hi:ops[i]? = some o:=by
    rw [← Array.getElem?_toList]
    have:=List.getElem?_drop (xs:=ops.toList) (i:=i) (j:=0)
    rw [hd] at this
    simpa using this.symm
   rw [List.length_cons,List.range'_succ,wpOps_cons]
   simp only [wpOp,hi]
   have hw:Region.wanted o (yielded ops a.tmps)=true:=by simp [Region.wanted,hgs o (List.mem_cons_self ..)]
   rw [if_pos hw]
   have h:∀ o':Oper,o'.dst=o.dst→o'.op=o.op→o'.wp P a w (fun a' w'=>wpL P Q (l.map fun o=>(o.dst,o.op)) (fun a w=>Q .normal a w) a' w') Q:=h
   refine .inl ?_
   have h2:=h o rfl rfl
   have hext:(fun a' w'=>wpL P Q (l.map fun o=>(o.dst,o.op)) (fun a w=>Q .normal a w) a' w')=(fun a' w'=>wpL P Q (l.map fun o=>(o.dst,o.op)) (fun a w=>Q .normal a w) a' w'):=rfl
   have hd':ops.toList.drop (i + 1)=l:=by rw [← List.tail_drop,hd];rfl
   have hmono:∀ (K K':Act→World→Prop),(∀ a w,K a w→K' a w)→o.wp P a w K Q→o.wp P a w K' Q:=by
    intro K K' hKK h
    unfold Oper.wp Oper.upon at h ⊢
    split<;>rename_i hr<;>simp only [hr] at h
    ·exact hKK _ _ h
    ·exact hKK _ _ h
    ·exact hKK _ _ h
    ·exact h.mono fun e w' he=>by
      cases e with
      | returned v=>exact hKK _ _ he
      | panicked c=>exact he
      | outgrown=>exact he
    ·exact h.mono fun v w' he=>hKK _ _ he
    ·exact h
   exact hmono _ _ (fun a' w' h3=>ih (i + 1) a' w' hd' (fun o ho=>hgs o (List.mem_cons_of_mem _ ho)) h3) h2
 have hall:∀ o ∈ ops.toList,o.guard=none:=fun o ho=>by
  have:=List.all_eq_true.1 hg o ho
  exact Option.isNone_iff_eq_none.1 this
 have:=key ops.toList 0 a w (by simp) hall hl
 rw [List.range_eq_range']
 simpa using this
theorem aJ {d t:Nat} {v:Value} (h:d < a.tmps.size):(a.put (some d) v).eval (.tmp t)=if d=t then v else a.eval (.tmp t):=by
 by_cases e:d=t
 ·subst e;rw [if_pos rfl];exact uZ h
 ·rw [if_neg e]
  simp [Act.put,Act.eval,Array.getD_eq_getD_getElem?,Array.getElem?_setIfInBounds_ne e]
theorem size_put {d:Option Nat} {v:Value}:(a.put d v).tmps.size=a.tmps.size:=uy
theorem aP {d:Option Nat} {v:Value}:(a.put d v).defers=a.defers:=by cases d<;>rfl
end
structure Hf (J:Nat→Prop) (w w':World):Prop where
 os:w'.os=w.os
 tape:w'.tape=w.tape
 output:w'.output=w.output
 size:w'.heap.size=w.heap.size
 block:∀ k,¬ J k→w'.heap[k]? = w.heap[k]?
 cell:∀ p v,w.cell? p=some v→w'.cell? p=some v∨∃ i j,v = .int .i64 i∧w'.cell? p=some (.int .i64 j)
 row:∀ b,Plain w b→Plain w' b
theorem Hf.store {P:Program} {J:Nat→Prop} {w:World} {t:TypeId} {b o:Nat} {i j:Int} (ht:cI P t=some 1) (hJ:J b) (hp:Plain w b) (hc:w.cell? ⟨b,o,none⟩=some (.int .i64 i)) :
  ∃ w',(storeVar t ⟨b,o,none⟩ (.int .i64 j)).run P w = .ok () w'∧Hf J w w':=by
 obtain ⟨c,ty,hb⟩:=hp
 have hlt:o < c.size:=by
  rw [cell_of_row w b o c ty (0,0) hb] at hc
  exact (Array.getElem?_eq_some_iff.1 hc).1
 have hrun:=cO (P:=P) (w:=w) (t:=t) (k:=1) (b:=b) (o:=o) (ty:=ty) (cur:=c) (v:=.int .i64 j) ht rfl (fun u hu=>by
  have:u = .int .i64 j:=by simpa [Value.cells] using hu
  subst this;rfl) hb (by omega)
 refine ⟨_,hrun,?_⟩
 have hcs:(Value.int .i64 j).cells.toList=[.int .i64 j]:=rfl
 rw [hcs]
 obtain ⟨h1,h2,h3,h4⟩:=bV b [.int .i64 j] o w
 obtain ⟨cur',g1,g2,g3⟩:=cc b ty [.int .i64 j] o w c hb (by simp;omega)
 have hother:∀ k,k≠b→(w.setCells b o [.int .i64 j]).heap[k]? = w.heap[k]?:=fun k hk=>fw b _ o w k hk
 refine ⟨h1,h2,h3,h4,fun k hk=>hother k (fun e=>hk (e ▸ hJ)),fun p v hv=>?_,fun b' hb'=>?_⟩
 ·have hs:w.setCells b o [.int .i64 j]=w.setCell ⟨b,o,none⟩ (.int .i64 j):=rfl
  rw [hs]
  by_cases hpe:p=⟨b,o,none⟩
  ·subst hpe
   rw [hc] at hv
   cases hv
   exact .inr ⟨i,j,rfl,World.cell?_setCell_same _ _ _ hc⟩
  ·refine .inl ?_
   rw [World.cell?_setCell_other _ _ _ _ (Ne.symm hpe)]
   exact hv
 ·by_cases e:b' = b
  ·subst e;exact ⟨cur',ty,g1⟩
  ·exact hb'.of (hother b' e)
end Go.Den

namespace Go.Den
open Go Go.RowKit
section
variable {C:Ctx} {Θ:Anc} {n:Nat}
end
theorem ig {C:Ctx} {Θ:Anc} {n:Nat} (hC:C.Ok) (hkb:Θ.kb=false) (hka:Θ.ka=false) (hN:∀ b,¬ Θ.N b) {code:Code} {Q:Exit→Act→World→Prop} (hp:x8 C Θ n Q) (hQ:∀ c a w d v,Q (.panic c) (a.put d v) w→Q (.panic c) a w) {σ:St} {a:Act} {w:World} {Z:Nat→Prop} {G:Nat→Value}
  (hok:codeOk n code=true) (hl:cn code 0=[]) (S:Sim C.P Θ n σ a w Z G) {k:Ex→St→Prop} (h:mh (exec C code 0 σ k)) (hk:∀ e σ' a' w' Z' G',k e σ'→Sim C.P Θ n σ' a' w' Z' G'→Q (jb e) a' w'):code.wp C.P Q a w:=
 c5 hC hkb hka hN code 0 hok (cP fun p hp=>by rw [hl] at hp;cases hp) S h.out hk hp (fun _=>hQ)
def Ends (P:Program) (fn:Func) (rs:List (List U)) (w:World) (Z:Nat→Prop):Ending→World→Prop:=fun e w'=>
 ∃ v Z',e = .returned v∧Fut (fun _=>False) w w'∧(∀ b,Z b→Z' b)∧(∀ b,Z' b→Z b∨(w.heap.size≤b∧Plain w' b))∧(∀ b,Z' b→b < w'.heap.size)∧
   ∃ svs,aU P fn.resultTypes.toList rs=some svs∧iE w' Z' svs v
def C9 (w:World) (J:Nat→Prop) (sz:Nat) (n:Nat) (v:Value):Prop:=∃ A c,v = .slice A n c∧n≤maxLen∧∀ k,k < n→∃ b o,A=some ⟨b,o,none⟩∧J b∧Plain w b∧∃ i,w.cell? ⟨b,o + k * sz,none⟩=some (.int .i64 i)
theorem C9.ne {J:Nat→Prop} {w:World} {sz n:Nat} {v:Value} (h:C9 w J sz n v):∀ i,v≠.int .i64 i:=by
 obtain ⟨A,c,rfl,_⟩:=h
 intro i e
 cases e
end Go.Den

namespace Go.Den
open Go Go.RowKit
abbrev k6 (ro:Option Nat):Fence:={ fn:=fun _=>True,depth:=none,alive:=false,round:=ro }
def dy (o:Oper):Bool:=match o.op with | .defer _=>true | _=>false
theorem BN {o:Oper} (h:dy o=false):∀ c,o.op≠.defer c:=fun c e=>by
 unfold dy at h
 rw [e] at h
 cases h
section
variable {P:Program} {ops:Array Oper} {Q:Exit→Act→World→Prop} {ro:Option Nat} {m:Nat}
theorem wb {f:FuncId} {args:Array Value} {w:World} {R:Ending→World→Prop} (h:Calls P f args w R):CallsIn (k6 ro) m P f args w R:=
 ⟨trivial,fun cs _=>let ⟨e,w',fr,r,s,x⟩:=h cs;⟨e,w',fr,r,comesIn_wide.2 s,x⟩⟩
theorem Fv {o:Oper} {a:Act} {w:World} {K:Act→World→Prop} (hd:∀ c,o.op≠.defer c) (h:o.wp P a w K Q):o.wpIn (k6 ro) m P a w K Q:=by
 refine ⟨fun _ _=>trivial,?_⟩
 rw [Oper.semAt_eq _ _ _ hd]
 unfold Oper.wp at h
 generalize (execOp a.eval o).run P w=r at h ⊢
 cases r with
 | ok x w'=>
  cases x<;>first | exact h | exact ⟨fun h=>by simp at h,wb (h.mono fun e w'' he=>by cases e<;>exact he)⟩ | exact ⟨fun h=>by simp at h,fun c cs _=>let ⟨v,w',r,s⟩:=h c cs;⟨v,w',r,stepsIn_wide.2 s⟩⟩ | exact h.elim
 | halt x w'=>cases x<;>first | exact h | exact h.elim
theorem Jh {i:Nat} {K:Act→World→Prop} {a:Act} {w:World} (hd:∀ o,ops[i]? = some o→dy o=false) (hQ:∀ a w,¬ Q .outgrown a w) (h:wpOp P ops Q i K a w):wpOpIn (k6 ro) m P ops Q i K a w:=by
 unfold wpOp at h
 unfold wpOpIn
 cases hi:ops[i]? with
 | none=>rw [hi] at h;exact h
 | some o=>
  rw [hi] at h
  simp only at h ⊢
  by_cases hw:Region.wanted o (yielded ops a.tmps)
  ·rw [if_pos hw] at h ⊢
   rcases h with h | ⟨_,a,w,h⟩
   ·exact Fv (BN (hd o hi)) h
   ·exact (hQ a w h).elim
  ·rw [if_neg hw] at h ⊢
   exact ⟨fun _ _=>trivial,h⟩
end
section
variable {C:Ctx} {Θ:Anc} {n:Nat}
theorem eJ (hC:C.Ok) {Q:Exit→Act→World→Prop} (hp:x8 C Θ n Q) (hkb:Θ.kb=false) (hka:Θ.ka=false) (hQ:∀ a w,¬ Q .outgrown a w) {ops:Array Oper} (hdef:ops.toList.all (fun o=>!dy o)=true) {k:St→Prop} {ro:Option Nat} {m:Nat} {rest:List Nat}
  (hk:∀ σ' a' w' Z' G',k σ'→Sim C.P Θ n σ' a' w' Z' G'→wpOpsIn (k6 ro) m C.P ops Q rest a' w') :
  ∀ (l:List Oper) (i:Nat) {σ:St} {a:Act} {w:World} {Z:Nat→Prop} {G:Nat→Value},(∀ j,j < l.length→ops[i + j]? = l[j]?)→bg n l=true→Sim C.P Θ n σ a w Z G→ak C ops.toList l σ k→
   wpOpsIn (k6 ro) m C.P ops Q (List.range' i l.length ++ rest) a w
 | [],i,σ,a,w,Z,G,_,_,S,h=>hk _ _ _ _ _ h S
 | o :: l,i,σ,a,w,Z,G,hl,hok,S,h=>by
  unfold bg at hok
  split at hok
  ·rename_i hoo
   have hi:ops[i]? = some o:=by simpa using hl 0 (by simp)
   rw [List.length_cons,List.range'_succ,List.cons_append,wpOpsIn_cons]
   refine Jh (fun o' ho'=>?_) hQ (ng hC hi hoo (by simp [Anc.lets,hkb,hka]) S h (fun σ' a' w' Z' G' h' S'=>eJ hC hp hkb hka hQ hdef hk l (i + 1) (fun j hj=>?_) hok S' h') (fun s σ' w' Z' G' v h' S' hr=>hp s σ' _ w' Z' G' v h' S' hr))
   ·have hm:o' ∈ ops.toList:=by
     have:=Array.mem_of_getElem? ho'
     simpa using this
    have:=List.all_eq_true.1 hdef o' hm
    simpa using this
   ·have:=hl (j + 1) (by simpa using hj)
    rw [List.getElem?_cons_succ] at this
    rw [← this]
    congr 1
    omega
  ·cases hok
theorem rD (hC:C.Ok) {Q:Exit→Act→World→Prop} (hp:x8 C Θ n Q) (hkb:Θ.kb=false) (hka:Θ.ka=false) (hQ:∀ a w,¬ Q .outgrown a w) {id:Nat} {ops:Array Oper} (hdef:ops.toList.all (fun o=>!dy o)=true) (hok:bg n ops.toList=true) {k:St→Prop} {ro:Option Nat} {m:Nat}
  (hk:∀ σ' a' w' Z' G',k σ'→Sim C.P Θ n σ' a' w' Z' G'→Q .normal a' w') {σ:St} {a:Act} {w:World} {Z:Nat→Prop} {G:Nat→Value} (S:Sim C.P Θ n σ a w Z G) (h:ak C ops.toList ops.toList σ k) :
  (Code.region id ops false).wpIn (k6 ro) m C.P Q a w:=by
 refine wpIn_region ?_
 have:=eJ hC hp hkb hka hQ hdef (ro:=ro) (m:=m) (rest:=[]) hk ops.toList 0 (fun j _=>by simp) hok S h
 rw [List.append_nil] at this
 rw [List.range_eq_range']
 simpa using this
end
def okN (p : Nat → Bool) : SV → Bool
  | .own i => p i
  | .ptr i _ => p i
  | .aptr i _ _ _ => p i
  | .osl i _ _ => p i
  | .mp i => p i
  | .agg cs => okNs p cs
  | .tup cs => okNs p cs
  | .clo _ cs => okNs p cs
  | .ifc _ v => okN p v
  | _ => true
  where okNs (p : Nat → Bool) : List SV → Bool
    | [] => true
    | v :: r => okN p v && okNs p r
mutual
theorem ag.okN {w:World} {Z:Nat→Prop} {G G':Nat→Value} {p:Nat→Bool} (H:∀ i,p i=true→G' i=G i):∀ (s:SV) (v:Value),okN p s=true→ag w Z G s v→ag w Z G' s v
 | .val _ _,_,_,h=>h
 | .agg cs,v,hp,⟨vs,h1,h2⟩=>⟨vs,h1,ab.okN H cs _ hp h2⟩
 | .nil,_,_,h=>h
 | .own i,v,hp,h=>h.trans (H i hp).symm
 | .ptr i o,v,hp,⟨b,h1,h2⟩=>⟨b,(H i hp).trans h1,h2⟩
 | .aptr i sz j o,v,hp,⟨b,n,c,h1,h2⟩=>⟨b,n,c,(H i hp).trans h1,h2⟩
 | .osl i j z,v,hp,h=>by
  have h:v=gX j z (G i):=h
  show v=gX j z (G' i)
  rw [h,H i hp]
 | .rptr _ _,_,_,h=>h
 | .nilp,_,_,h=>h
 | .tup cs,v,hp,⟨vs,h1,h2⟩=>⟨vs,h1,ab.okN H cs _ hp h2⟩
 | .clo f cs,v,hp,⟨vs,h1,h2⟩=>⟨vs,h1,ab.okN H cs _ hp h2⟩
 | .mp i,v,hp,⟨b,h1,h2⟩=>⟨b,(H i hp).trans h1,h2⟩
 | .ifc t s,v,hp,⟨x,h1,h2⟩=>⟨x,h1,ag.okN H s x hp h2⟩
 | .nili,_,_,h=>h
 | .und,_,_,h=>h
 | .unk,_,_,h=>h
theorem ab.okN {w:World} {Z:Nat→Prop} {G G':Nat→Value} {p:Nat→Bool} (H:∀ i,p i=true→G' i=G i):∀ (l:List SV) (vs:List Value),okN.okNs p l=true→ab w Z G l vs→ab w Z G' l vs
 | [],_,_,h=>h
 | s :: r,vs,hp,⟨v,t,h1,h2,h3⟩=>by
  unfold okN.okNs at hp
  rw [Bool.and_eq_true] at hp
  exact ⟨v,t,h1,ag.okN H s v hp.1 h2,ab.okN H r t hp.2 h3⟩
end
def noN:Nat→Bool:=fun _=>false
def okE (p:Nat→Bool):List (Nat × SV)→Bool
 | []=>true
 | (_,s) :: r=>Den.okN p s && okE p r
theorem zf {p:Nat→Bool}:∀ {env:List (Nat × SV)} (t:Nat),okE p env=true→Den.okN p (get env t)=true
 | [],_,_=>rfl
 | (k,s) :: r,t,h=>by
  unfold okE at h
  rw [Bool.and_eq_true] at h
  rw [aF]
  split
  ·exact h.1
  ·exact zf t h.2
section
variable {P:Program} {Θ:Anc} {n:Nat} {σ:St} {a:Act} {w w':World} {Z:Nat→Prop} {G:Nat→Value}
theorem Sim.other {K:Nat→Prop} (S:Sim P Θ n σ a w Z G) (F:Fut K w w') (hK:∀ b,K b→Θ.w.heap.size≤b∧¬ Z b∧∀ id o,az σ.objs id=some o→blk (G id)≠some b):Sim P Θ n σ a w' Z G:=
 have T:Stays w w' Z Z:=⟨fun _ h=>h,fun b hb=>F.block b (S.lt b hb) (fun h=>(hK b h).2.1 hb)⟩
 {S with
  slot:=fun t=>ag.mono T _ _ (S.slot t)
  obj:=fun id o ho=>cg.mono T (fun b hb=>F.block b (cg.lt S ho hb) (fun h=>(hK b h).2.2 id o ho hb)) (S.obj id o ho)
  lt:=fun b hb=>Nat.lt_of_lt_of_le (S.lt b hb) F.size
  fut:=S.fut.trans F (fun _ h=>h) (fun i hi h=>by have:=(hK i h).1;omega)
  row:=fun b hb=>(S.row b hb).imp id fun h=>h.of (F.block b (S.lt b hb) (fun h=>(hK b h).2.1 hb)) }
theorem Sim.rebase (S:Sim P Θ n σ a w Z G) {a':Act} (ht:a'.tmps=a.tmps):Sim P ⟨w,bH G σ.objs,fun _=>False,Z,false,false,Θ.G0,a'.defers⟩ n σ a' w Z G where
 size:=by rw [ht];exact S.size
 calm:=rfl
 slot:=fun t=>by rw [ht];exact S.slot t
 obj:=S.obj
 sep:=S.sep
 free:=fun id o b h1 h2=>⟨(S.free id o b h1 h2).1,.inl ⟨id,o,h1,h2⟩⟩
 keep:=fun _ _ _ _ _ h=>h.elim
 nlt:=fun _ h=>h.elim
 lt:=S.lt
 fut:=Fut.refl _ w
 new:=fun _ h=>.inl h
 sub:=fun _ h=>h
 flat:=S.flat
 odd:=S.odd
 row:=fun _ h=>.inl h
theorem Sim.unbase (S:Sim P Θ n σ a w Z G) (hN:∀ b,¬ Θ.N b) {ds:List Deferred} {n2:Nat} {σ2:St} {a2:Act} {w2:World} {Z2:Nat→Prop} {G2:Nat→Value}
  (S2:Sim P ⟨w,bH G σ.objs,fun _=>False,Z,false,false,Θ.G0,ds⟩ n2 σ2 a2 w2 Z2 G2):Sim P { Θ with ds:=ds } n2 σ2 a2 w2 Z2 G2 where
 size:=S2.size
 calm:=S2.calm
 slot:=S2.slot
 obj:=S2.obj
 sep:=S2.sep
 free:=fun id o b h1 h2=>by
  obtain ⟨h3,h4⟩:=S2.free id o b h1 h2
  refine ⟨h3,?_⟩
  rcases h4 with ⟨i,p,h5,h6⟩ | h4 | h4
  ·exact (S.free i p b h5 h6).2
  ·exact h4.elim
  ·exact .inr (.inr (Nat.le_trans S.fut.size h4))
 keep:=fun _ _ b _ _ h=>(hN b h).elim
 nlt:=fun b h=>(hN b h).elim
 lt:=S2.lt
 fut:=S.fut.trans S2.fut (fun _ h=>h) (fun i hi ⟨id,p,h5,h6⟩=>by
  rcases (S.free id p i h5 h6).2 with h | h | h
  ·exact h
  ·exact (hN i h).elim
  ·omega)
 new:=fun b hb=>by
  rcases S2.new b hb with h | ⟨i,p,h5,h6⟩ | h | h
  ·exact S.new b h
  ·rcases (S.free i p b h5 h6).2 with h | h | h
   ·exact .inr (.inl h)
   ·exact (hN b h).elim
   ·exact .inr (.inr (.inr h))
  ·exact h.elim
  ·exact .inr (.inr (.inr (Nat.le_trans S.fut.size h)))
 sub:=fun b hb=>S2.sub b (S.sub b hb)
 flat:=S2.flat
 odd:=S2.odd
 row:=fun b hb=>by
  rcases S2.row b hb with h | h
  ·rcases S.row b h with h' | h'
   ·exact .inl h'
   ·exact .inr (h'.of (S2.fut.block b (S.lt b h) (fun ⟨i,p,h5,h6⟩=>(S.free i p b h5 h6).1 h)))
  ·exact .inr h
theorem Sim.stays (S:Sim P Θ n σ a w Z G) {ds:List Deferred} {n2:Nat} {σ2:St} {a2:Act} {w2:World} {Z2:Nat→Prop} {G2:Nat→Value}
  (S2:Sim P ⟨w,bH G σ.objs,fun _=>False,Z,false,false,Θ.G0,ds⟩ n2 σ2 a2 w2 Z2 G2):Stays w w2 Z Z2:=
 ⟨S2.sub,fun b hb=>S2.fut.block b (S.lt b hb) (fun ⟨i,p,h5,h6⟩=>(S.free i p b h5 h6).1 hb)⟩
def EN (env:List (Nat × SV)):List (Nat × SV)→List (Nat × SV)
 | []=>env
 | (t,s) :: r=>EN ((t,s) :: env) r
theorem Sim.sets:∀ (l:List (Nat × SV)) (vs:List Value) {env:List (Nat × SV)} {objs:bX} {a:Act},Sim P Θ n ⟨env,objs⟩ a w Z G→ab w Z G (l.map (·.2)) vs→(∀ x ∈ l,x.1 < n)→
  Sim P Θ n ⟨EN env l,objs⟩ { a with tmps:=((l.map (·.1)).zip vs).foldl (fun t (p,v)=>t.setIfInBounds p v) a.tmps } w Z G
 | [],_,_,_,_,S,_,_=>S
 | (t,s) :: r,vs,env,objs,a,S,h,hn=>by
  obtain ⟨v,vs',rfl,h1,h2⟩:=h
  have:=Sim.sets r vs' (S.set h1 (hn _ (List.mem_cons_self ..))) h2 (fun x hx=>hn x (List.mem_cons_of_mem _ hx))
  exact this
end
def Hq (P:Program) (f:FuncId) (caps:List SV) (xs:List (List SV)):Prop:=
 ∀ (w:World) (Z:Nat→Prop) (vs:List Value) (l:Nat) (J:Nat→World→Prop),
  (∀ b,Z b→b < w.heap.size)→ab w Z (fun _=>.pointer none) caps vs→J 0 w→
  (∀ k w1 w2,J k w1→Fut (fun _=>False) w1 w2→J k w2)→
  (∀ k x w1 us,xs[k]? = some x→J k w1→(∀ b,Z b→w1.heap[b]? = w.heap[b]?)→ab w1 Z (fun _=>.pointer none) x us→
    YieldAt (k6 none) 0 P l us.toArray w1 fun e w'=>e = .returned (.bool true)∧J (k + 1) w'∧w1.heap.size≤w'.heap.size∧∀ b,Z b→w'.heap[b]? = w1.heap[b]?)→
  Calls P f (#[.func (.yield l) #[] #[]] ++ vs.toArray) w fun e w'=>∃ v,e = .returned v∧J xs.length w'
theorem oA (w:World) (l:Nat) (o:Go.Obj):Fut (fun b=>b=l) w (w.putObj l o):=
 ⟨rfl,rfl,rfl,by simp,fun k _ hk=>World.putObj_heap_other hk⟩
theorem zF:∀ {l:List Nat} {x:List SV},l.length=x.length→(l.zip x).map (·.2)=x
 | [],[],_=>rfl
 | a :: l,b :: x,h=>by
  rw [List.zip_cons_cons,List.map_cons,zF (by simpa using h)]
 | [],_ :: _,h=>by simp at h
 | _ :: _,[],h=>by simp at h
theorem yE:∀ {l:List Nat} {x:List SV},l.length=x.length→(l.zip x).map (·.1)=l
 | [],[],_=>rfl
 | a :: l,b :: x,h=>by
  rw [List.zip_cons_cons,List.map_cons,yE (by simpa using h)]
 | [],_ :: _,h=>by simp at h
 | _ :: _,[],h=>by simp at h
theorem nJ {C:Ctx} (hC:C.Ok) (hpan:∀ s σ,¬ C.pan s σ) {Θ:Anc} {n:Nat} (hN:∀ b,¬ Θ.N b) {g c0 id0 id1:Nat} {ps:Array Tmp} {ops0 ops1:Array Oper} {Q:Exit→Act→World→Prop}
  {σ:St} {a:Act} {w:World} {Z:Nat→Prop} {G:Nat→Value} (S:Sim C.P Θ n σ a w Z G) {f:FuncId} {caps:List SV} {xs:List (List SV)} (hg:get σ.env g = .clo f caps) (hcaps:okN.okNs noN caps=true)
  {gn:Func} (hf:C.P.funcs[f]? = some gn) (hbn:gn.body.isNone=false) (hname:(gn.name == "runtime.NumGoroutine")=false)
  (hit:Hq C.P f caps xs) (hxs:∀ x ∈ xs,okN.okNs noN x=true∧x.length=ps.size)
  {ob:Nat→bX} (h0:∀ id o,az (ob 0) id=some o→az σ.objs id=some o) {env:List (Nat × SV)} (henv:okE lM env=true) (hsub:∀ t,get env t=get σ.env t∨get env t = .unk)
  (hps:∀ t ∈ ps.toList,t < n) (hd0:ops0.toList.all (fun o=>!dy o)=true) (hk0:bg n ops0.toList=true) (hd1:ops1.toList.all (fun o=>!dy o)=true) (hk1:bg n ops1.toList=true)
  (hround:∀ k x,xs[k]? = some x→ak C ops0.toList ops0.toList ⟨EN env (ps.toList.zip x),ob k⟩ (fun σ1=>ak C ops1.toList ops1.toList σ1 (fun σ2=>∀ id o,az (ob (k + 1)) id=some o→az σ2.objs id=some o)))
  (hQ:∀ a' w' Z' G' D,a'.tmps=a.tmps→a'.defers = { target:=.collected D,args:=#[] } :: a.defers→Sim C.P { Θ with ds:=a'.defers } n ⟨env,ob xs.length⟩ a' w' Z' G'→w'.heap[D]? = some (.deferred (some []))→Θ.w.heap.size≤D→¬ Z' D→
    (∀ id o,az (ob xs.length) id=some o→blk (G' id)≠some D)→Q .normal a' w') :
  (Code.rangeFunc (.tmp g) ps (.region id0 ops0 false) (.block c0 (.region id1 ops1 false))).wp C.P Q a w:=by
 refine (wpIn_wide (n:=1)).1 (wpIn_rangeFunc ?_)
 intro fn _
 obtain ⟨vs,hgv,hvs⟩:∃ vs,a.tmps.getD g undef = .func (.func f) #[] vs∧ab w Z G caps vs.toList:=by
  have:=S.slot g
  rw [hg] at this
  exact this
 have hvs:=ab.okN (G':=fun _=>.pointer none) (fun i h=>by cases h) caps _ hcaps hvs
 obtain ⟨rec,hrec⟩:∃ rec:LoopState→Option Code→Loop,rec=fun st pe=>{ state:=st,pending:=pe,fn,tmps:=a.tmps,params:=ps,assign:=.region id0 ops0 false,body:=.block c0 (.region id1 ops1 false),defers:=w.heap.size }:=⟨_,rfl⟩
 obtain ⟨W1,hW1⟩:∃ W1,(w.alloc (.deferred (some []))).alloc (.loop (rec .ready none))=W1:=⟨_,rfl⟩
 have hL1:W1.heap[w.heap.size + 1]? = some (.loop (rec .ready none)):=by
  rw [← hW1];have:=World.alloc_heap_new (w.alloc (.deferred (some []))) (.loop (rec .ready none));rwa [World.size_alloc] at this
 have hK1:W1.heap[w.heap.size]? = some (.deferred (some [])):=by
  rw [← hW1];exact (Below.heap_alloc _ _ _ (by simp)).trans (World.alloc_heap_new w _)
 have hF1:Fut (fun _=>False) w W1:=by
  rw [← hW1];exact Fut.of_below (((Below.refl _ w).alloc (Nat.le_refl _) _).alloc (by simp) _) _
 have hl1:w.heap.size + 1 < W1.heap.size:=(Array.getElem?_eq_some_iff.1 hL1).1
 refine ⟨w.heap.size + 1,[{ target:=.collected w.heap.size,args:=#[] }],W1,{ target:=.fn (.func f) vs,args:=#[.func (.yield (w.heap.size + 1)) #[] #[]] },W1,f,
  #[.func (.yield (w.heap.size + 1)) #[] #[]] ++ vs,W1,?_,?_,fun _ _=>trivial,?_,fun h=>by simp [Fence.wide] at h,?_⟩
 ·rw [← hW1,hrec];exact run_enterLoop_outer _ _ _ _ _
 ·have hev:a.eval (.tmp g) = .func (.func f) #[] vs:=hgv
  simp only [resolve,hev]
  simp [go_sem]
 ·have hn:¬ gn.name = "runtime.NumGoroutine" := by simpa using hname
  have hb:¬ gn.body=none:=by intro e;rw [e] at hbn;cases hbn
  simp [invoke,callFunc,hf,hn,hb]
 ·refine wb (ro:=none) (R:=rangePost Fence.wide 1 C.P (w.heap.size + 1) Q { a with defers:=[{ target:=.collected w.heap.size,args:=#[] }] ++ a.defers }) ?_
  have hnb:∀ id o,az (ob 0) id=some o→blk (G id)≠some w.heap.size∧blk (G id)≠some (w.heap.size + 1):=fun id o ho=>by
   constructor<;>(intro hb;have:=cg.lt S (h0 id o ho) hb;omega)
  have main:=hit W1 Z vs.toList (w.heap.size + 1)
   (fun k W=>∃ Z' G',Sim C.P Θ n ⟨env,ob k⟩ a W Z' G'∧(∀ b,Z b→Z' b)∧W.heap[w.heap.size]? = some (.deferred (some []))∧W.heap[w.heap.size + 1]? = some (.loop (rec .ready none))∧
     ¬ Z' w.heap.size∧¬ Z' (w.heap.size + 1)∧∀ id o,az (ob k) id=some o→blk (G' id)≠some w.heap.size∧blk (G' id)≠some (w.heap.size + 1))
   (fun b hb=>Nat.lt_of_lt_of_le (S.lt b hb) hF1.size)
   (ab.mono ⟨fun _ h=>h,fun b hb=>hF1.block b (S.lt b hb) id⟩ _ _ hvs)
   ⟨Z,G,(S.less hsub h0).other hF1 (fun _ h=>h.elim),fun _ h=>h,hK1,hL1,fun h=>by have:=S.lt _ h;omega,fun h=>by have:=S.lt _ h;omega,hnb⟩
   (fun k A B ⟨Z',G',h1,h2,h3,h4,h5⟩ F=>⟨Z',G',h1.other F (fun _ h=>h.elim),h2,(F.block _ (Array.getElem?_eq_some_iff.1 h3).1 id).trans h3,(F.block _ (Array.getElem?_eq_some_iff.1 h4).1 id).trans h4,h5⟩)
   ?_
  ·have hav:(#[.func (.yield (w.heap.size + 1)) #[] #[]] ++ vs.toList.toArray:Array Value) = #[.func (.yield (w.heap.size + 1)) #[] #[]] ++ vs:=by simp
   rw [hav] at main
   refine main.mono ?_
   rintro e W5 ⟨v,rfl,Z',G',S',hZ',hD,hl,hZD,hZl,hbl⟩
   have hlt:=(Array.getElem?_eq_some_iff.1 hl).1
   have hre:=run_endLoop (P:=C.P) hl (by rw [hrec];simp)
   have hre:(Instr.endLoop (w.heap.size + 1)).run C.P W5 = .ok none (W5.putObj (w.heap.size + 1) (.loop { rec .ready none with state:=.exhausted })):=hre.trans (by rw [hrec])
   refine ⟨none,_,hre,?_⟩
   have hle:Θ.w.heap.size≤w.heap.size:=S.fut.size
   have S6:=S'.other (oA W5 (w.heap.size + 1) (.loop { rec .ready none with state:=.exhausted })) (fun b hb=>by
    subst hb
    exact ⟨by omega,hZl,fun id o ho=>(hbl id o ho).2⟩)
   exact hQ { a with defers:=[{ target:=.collected w.heap.size,args:=#[] }] ++ a.defers } _ Z' G' w.heap.size rfl rfl { S6 with calm:=rfl,slot:=S6.slot } ((World.putObj_heap_other (by omega)).trans hD) hle hZD (fun id o ho=>(hbl id o ho).1)
  ·rintro k x W us hx ⟨Z',G',S',hZ',hD,hl,hZD,hZl,hbl⟩ hsame hus
   have hxm:x ∈ xs:=List.mem_of_getElem? hx
   obtain ⟨hxn,hxl⟩:=hxs x hxm
   have hul:us.length=ps.size:=by rw [← ab.length hus,hxl]
   have hlt:w.heap.size + 1 < W.heap.size:=(Array.getElem?_eq_some_iff.1 hl).1
   have hle:Θ.w.heap.size≤w.heap.size:=S.fut.size
   have hy:=run_yield (P:=C.P) (args:=us.toArray) hl (by rw [hrec];simpa using hul)
   rw [hrec] at hy
   refine ⟨fn,_,.region id0 ops0 false,.block c0 (.region id1 ops1 false),hy,roundIn_of_wpIn trivial ?_⟩
   have hus':ab W Z' G' x us:=ab.okN (fun i h=>by cases h) x us hxn (ab.mono ⟨hZ',fun _ _=>rfl⟩ _ _ hus)
   have hzl:ps.toList.length=x.length:=by simpa using hxl.symm
   have Sr:=S'.rebase (a':={ tmps:=a.tmps,defers:=[] }) rfl
   have Ss:=Sim.sets (ps.toList.zip x) us Sr (by rw [zF hzl];exact hus') (fun y hy=>hps _ (List.of_mem_zip hy).1)
   rw [yE hzl] at Ss
   have hfold:(ps.toList.zip us).foldl (fun t (p,v)=>t.setIfInBounds p v) a.tmps=(ps.zip us.toArray).foldl (fun tmps (t,a)=>tmps.setIfInBounds t a) a.tmps:=by
    rw [← Array.foldl_toList,Array.toList_zip]
   rw [hfold] at Ss
   refine rD (ro:=some (w.heap.size + 1)) (m:=0) hC (fun s σ' _ _ _ _ _ h=>(hpan s σ' h).elim) rfl rfl (fun _ _ h=>h) hd0 hk0 (k:=fun σ1=>ak C ops1.toList ops1.toList σ1 (fun σ2=>∀ id o,az (ob (k + 1)) id=some o→az σ2.objs id=some o)) ?_ Ss (hround k x hx)
   intro σ1 a1 w1 Z1 G1 h1 S1
   have nB:∀ d,(∀ id o,az (ob k) id=some o→blk (G' id)≠some d)→¬ bH G' (ob k) d:=fun d hd ⟨i,o,ho,hb⟩=>hd i o ho hb
   have hnD:=nB _ (fun id o ho=>(hbl id o ho).1)
   have hnl:=nB _ (fun id o ho=>(hbl id o ho).2)
   have hlw1:w1.heap[w.heap.size + 1]? = some (.loop (rec .ready none)):=(S1.fut.block _ hlt hnl).trans hl
   have hDw1:w1.heap[w.heap.size]? = some (.deferred (some [])):=(S1.fut.block _ (by show _ < W.heap.size;omega) hnD).trans hD
   have hZ1:∀ d,d < W.heap.size→¬ Z' d→¬ bH G' (ob k) d→¬ Z1 d:=fun d hd h1 h2 h=>by
    rcases S1.new d h with h | h | h | h
    ·exact h1 h
    ·exact h2 h
    ·exact h
    ·have h:W.heap.size≤d:=h
     omega
   have hB1:∀ d,d < W.heap.size→¬ bH G' (ob k) d→∀ id o,az σ1.objs id=some o→blk (G1 id)≠some d:=fun d hd h2 id o ho hb=>by
    rcases (S1.free id o d ho hb).2 with h | h | h
    ·exact h2 h
    ·exact h
    ·have h:W.heap.size≤d:=h
     omega
   have S1':=S'.unbase hN S1
   have S2:=S1'.other (oA w1 (w.heap.size + 1) (.loop { rec .ready none with state:=.busy })) (fun b hb=>by
    subst hb
    exact ⟨by show Θ.w.heap.size≤_;omega,hZ1 _ hlt hZl hnl,hB1 _ hlt hnl⟩)
   have S2r:=S2.rebase (a':=a1) rfl
   refine ⟨_,run_beginRound hlw1 (by rw [hrec]),wpIn_block (rD (ro:=some (w.heap.size + 1)) (m:=0) hC (fun s σ' _ _ _ _ _ h=>(hpan s σ' h).elim) rfl rfl (fun _ _ h=>h) hd1 hk1 (k:=fun σ2=>∀ id o,az (ob (k + 1)) id=some o→az σ2.objs id=some o) ?_ S2r h1)⟩
   intro σ3 a3 w3 Z3 G3 h3 S3
   have hw1l:=(Array.getElem?_eq_some_iff.1 hlw1).1
   have hlw2:(w1.putObj (w.heap.size + 1) (.loop { rec .ready none with state:=.busy })).heap[w.heap.size + 1]? = some (.loop { rec .ready none with state:=.busy }):=World.putObj_heap_same hw1l
   have hDw2:(w1.putObj (w.heap.size + 1) (.loop { rec .ready none with state:=.busy })).heap[w.heap.size]? = some (.deferred (some [])):=(World.putObj_heap_other (by omega)).trans hDw1
   have hnl1:¬ bH G1 σ1.objs (w.heap.size + 1):=fun ⟨i,o,ho,hb⟩=>hB1 _ hlt hnl i o ho hb
   have hnD1:¬ bH G1 σ1.objs w.heap.size:=fun ⟨i,o,ho,hb⟩=>hB1 _ (by omega) hnD i o ho hb
   have hlw3:w3.heap[w.heap.size + 1]? = some (.loop { rec .ready none with state:=.busy }):=(S3.fut.block _ (by show _ < (World.heap _).size;simpa using hw1l) hnl1).trans hlw2
   have hDw3:w3.heap[w.heap.size]? = some (.deferred (some [])):=(S3.fut.block _ (by show _ < (World.heap _).size;simp;omega) hnD1).trans hDw2
   have hZ3:∀ d,d < w1.heap.size→¬ Z1 d→¬ bH G1 σ1.objs d→¬ Z3 d:=fun d hd h1 h2 h=>by
    rcases S3.new d h with h | h | h | h
    ·exact h1 h
    ·exact h2 h
    ·exact h
    ·have h:(w1.putObj (w.heap.size + 1) (.loop { rec .ready none with state:=.busy })).heap.size≤d:=h
     rw [World.putObj_size] at h
     omega
   have hB3:∀ d,d < w1.heap.size→¬ bH G1 σ1.objs d→∀ id o,az σ3.objs id=some o→blk (G3 id)≠some d:=fun d hd h2 id o ho hb=>by
    rcases (S3.free id o d ho hb).2 with h | h | h
    ·exact h2 h
    ·exact h
    ·have h:(w1.putObj (w.heap.size + 1) (.loop { rec .ready none with state:=.busy })).heap.size≤d:=h
     rw [World.putObj_size] at h
     omega
   have S3':=S2.unbase hN S3
   have hZ3l:=hZ3 _ hw1l (hZ1 _ hlt hZl hnl) hnl1
   have hZ3D:=hZ3 w.heap.size (by omega) (hZ1 _ (by omega) hZD hnD) hnD1
   have S4:=S3'.other (oA w3 (w.heap.size + 1) (.loop (rec .ready none))) (fun b hb=>by
    subst hb
    exact ⟨by show Θ.w.heap.size≤_;omega,hZ3l,hB3 _ hw1l hnl1⟩)
   have hw3l:=(Array.getElem?_eq_some_iff.1 hlw3).1
   have hend:=run_endRound (P:=C.P) none hlw3
   have hrr:({ ({ rec .ready none with state:=.busy }:Loop) with state:=if (none:Option Code).isNone then .ready else .done,pending:=none }:Loop)=rec .ready none:=by rw [hrec];rfl
   rw [hrr] at hend
   have T1:=S'.stays S1
   have T2:Stays w1 w3 Z1 Z3:=⟨S3.sub,fun b hb=>by
    have hne:b≠w.heap.size + 1:=fun e=>hZ1 _ hlt hZl hnl (e ▸ hb)
    exact ((S2.stays S3).same b hb).trans (World.putObj_heap_other hne)⟩
   have T3:Stays W (w3.putObj (w.heap.size + 1) (.loop (rec .ready none))) Z' Z3:=⟨fun b hb=>T2.sub b (T1.sub b hb),fun b hb=>by
    have hne:b≠w.heap.size + 1:=fun e=>hZl (e ▸ hb)
    exact (World.putObj_heap_other hne).trans ((T2.same b (T1.sub b hb)).trans (T1.same b hb))⟩
   have hsz:W.heap.size≤(w3.putObj (w.heap.size + 1) (.loop (rec .ready none))).heap.size:=by
    have e1:W.heap.size≤w1.heap.size:=S1.fut.size
    have e2:(w1.putObj (w.heap.size + 1) (.loop { rec .ready none with state:=.busy })).heap.size≤w3.heap.size:=S3.fut.size
    rw [World.putObj_size] at e2 ⊢
    omega
   refine ⟨_,_,hend,rfl,⟨Z3,G3,?_,fun b hb=>T3.sub b (hZ' b hb),(World.putObj_heap_other (by omega)).trans hDw3,World.putObj_heap_same hw3l,hZ3D,hZ3l,fun id o ho=>⟨hB3 _ (by omega) hnD1 id o (h3 id o ho),hB3 _ hw1l hnl1 id o (h3 id o ho)⟩⟩,hsz,fun b hb=>T3.same b (hZ' b hb)⟩
   exact { S4 with
    size:=S'.size
    calm:=S'.calm
    slot:=fun t=>ag.okN (p:=lM) (fun i hi=>by
     have hi':i % 2=1:=Nat.eq_of_beq_eq_true hi
     have e1:G3 i=Θ.G0 i:=S4.odd i hi'
     have e2:G' i=Θ.G0 i:=S'.odd i hi'
     rw [e1,e2]) _ _ (zf t henv) (ag.mono T3 _ _ (S'.slot t))
    obj:=fun id o ho=>S4.obj id o (h3 id o ho)
    sep:=fun id id' o o' b ho ho'=>S4.sep id id' o o' b (h3 id o ho) (h3 id' o' ho')
    free:=fun id o b ho=>S4.free id o b (h3 id o ho)
    keep:=fun id o b ho=>S4.keep id o b (h3 id o ho) }
end Go.Den

namespace Go.Den
open Go Go.RowKit
def ax:Code→Array Oper
 | .region _ ops _=>ops
 | _=>#[]
def av:Code→Nat
 | .region id _ _=>id
 | _=>0
section
variable {P:Program} {ops:Array Oper} {F:Fence} {n:Nat}
theorem dp {v0:Nat→Value}:∀ (l:List Nat) {Q:Exit→Act→World→Prop} (a:Act) (w:World),(∀ t,(∀ o ∈ ops.toList,o.dst≠some t)→a.tmps.getD t undef=v0 t)→wpOpsIn F n P ops Q l a w→
  wpOpsIn F n P ops (fun e a' w'=>Q e a' w'∧(e = .normal→∀ t,(∀ o ∈ ops.toList,o.dst≠some t)→a'.tmps.getD t undef=v0 t)) l a w
 | [],Q,a,w,h0,h=>⟨h,fun _=>h0⟩
 | i :: rest,Q,a,w,h0,h=>by
  unfold wpOpsIn at h ⊢
  cases hi:ops[i]? with
  | none=>rw [hi] at h;exact dp rest a w h0 h
  | some o=>
   rw [hi] at h
   have hm:o ∈ ops.toList:=by have:=Array.mem_of_getElem? hi;simpa using this
   have hput:∀ (b:Act) v,b.tmps=a.tmps→∀ t,(∀ o ∈ ops.toList,o.dst≠some t)→(b.put o.dst v).tmps.getD t undef=v0 t:=fun b v hb t ht=>by
    have hne:=ht o hm
    rw [← h0 t ht,← hb]
    unfold Act.put
    split
    ·rename_i d hd
     rw [Array.getD_eq_getD_getElem?,Array.getElem?_setIfInBounds_ne (fun e=>hne (by rw [hd,e])),← Array.getD_eq_getD_getElem?]
    ·rfl
   simp only at h ⊢
   by_cases hw:Region.wanted o (yielded ops a.tmps)
   ·rw [if_pos hw] at h ⊢
    refine ⟨h.1,?_⟩
    have h:=h.2
    generalize (o.semAt F.round a.eval).run P w=r at h ⊢
    have nx:∀ (b:Act) v w',b.tmps=a.tmps→wpOpsIn F n P ops Q rest (b.put o.dst v) w'→_:=fun b v w' hb h'=>dp rest (b.put o.dst v) w' (hput b v hb) h'
    cases r with
    | ok x w'=>
     cases x<;>first | exact nx a _ _ rfl h | exact nx { a with defers:=_ :: a.defers } _ _ rfl h | exact ⟨h.1,h.2.mono fun e w'' he=>by cases e<;>first | exact nx a _ _ rfl he | exact ⟨he,fun e=>by cases e⟩ | exact let ⟨a,w,h⟩:=he;⟨a,w,h,fun e=>by cases e⟩⟩ | exact ⟨h.1,h.2.mono fun v w'' he=>nx a _ _ rfl he⟩ | exact h.elim
    | halt x w'=>cases x<;>first | exact ⟨h,fun e=>by cases e⟩ | exact h.elim
   ·rw [if_neg hw] at h ⊢
    exact ⟨h.1,dp rest _ w (hput a _ rfl) h.2⟩
end
theorem Sim.begin {P:Program} {n:Nat} {env:List (Nat × SV)} {a:Act} {w:World} {Z:Nat→Prop} {G:Nat→Value} (hsz:a.tmps.size=n) (hslot:∀ t,ag w Z G (get env t) (a.tmps.getD t undef)) (hZ:∀ b,Z b→b < w.heap.size) (hflat:∀ i,(G i).oneCell' = true) :
  Sim P ⟨w,fun _=>False,fun _=>False,Z,false,false,G,a.defers⟩ n ⟨env,[]⟩ a w Z G where
 size:=hsz
 calm:=rfl
 slot:=hslot
 obj:=fun _ _ h=>by cases h
 sep:=fun _ _ _ _ _ h=>by cases h
 free:=fun _ _ _ h=>by cases h
 keep:=fun _ _ _ h=>by cases h
 nlt:=fun _ h=>h.elim
 lt:=hZ
 fut:=Fut.refl _ w
 new:=fun _ h=>.inl h
 sub:=fun _ h=>h
 flat:=hflat
 odd:=fun _ _=>rfl
 row:=fun _ h=>.inl h
section
variable {C:Ctx}
theorem i4 (hC:C.Ok) (hpan:∀ s σ,¬ C.pan s σ) {n id:Nat} {ops:Array Oper} (hdef:ops.toList.all (fun o=>!dy o)=true) (hok:bg n ops.toList=true) {Q:Exit→Act→World→Prop} {env:List (Nat × SV)} {a:Act} {w:World} {Z:Nat→Prop} {G:Nat→Value}
  (hsz:a.tmps.size=n) (hslot:∀ t,ag w Z G (get env t) (a.tmps.getD t undef)) (hZ:∀ b,Z b→b < w.heap.size) (hflat:∀ i,(G i).oneCell' = true) {k:St→Prop} (h:ak C ops.toList ops.toList ⟨env,[]⟩ k)
  (hQ:∀ σ' a' w' Z' G',k σ'→(∀ t,ag w' Z' G' (get σ'.env t) (a'.tmps.getD t undef))→Fut (fun _=>False) w w'→a'.tmps.size=n→a'.defers=a.defers→(∀ i,i % 2=1→G' i=G i)→(∀ t,(∀ o ∈ ops.toList,o.dst≠some t)→a'.tmps.getD t undef=a.tmps.getD t undef)→Q .normal a' w') :
  (Code.region id ops false).wp C.P Q a w:=by
 have S:=Sim.begin (P:=C.P) hsz hslot hZ hflat
 refine (wpIn_wide (n:=0)).1 (wpIn_mono (wpIn_region (dp (v0:=fun t=>a.tmps.getD t undef) _ a w (fun _ _=>rfl) (Q:=fun e a' w'=>e = .normal∧∃ σ' Z' G',k σ'∧Sim C.P ⟨w,fun _=>False,fun _=>False,Z,false,false,G,a.defers⟩ n σ' a' w' Z' G') ?_)) ?_)
 ·have:=eJ (Q:=fun e a' w'=>e = .normal∧∃ σ' Z' G',k σ'∧Sim C.P ⟨w,fun _=>False,fun _=>False,Z,false,false,G,a.defers⟩ n σ' a' w' Z' G') hC (fun s σ' _ _ _ _ _ h=>(hpan s σ' h).elim) rfl rfl (fun _ _ h=>by cases h.1) hdef (ro:=none) (m:=0) (rest:=[]) (fun σ' a' w' Z' G' h S'=>⟨rfl,σ',Z',G',h,S'⟩) ops.toList 0 (fun j _=>by simp) hok S h
  rw [List.append_nil,Array.length_toList] at this
  rw [List.range_eq_range']
  exact this
 ·rintro e a' w' ⟨⟨rfl,σ',Z',G',hk,S'⟩,hkeep⟩
  exact hQ σ' a' w' Z' G' hk S'.slot S'.fut S'.size S'.calm S'.odd (hkeep rfl)
theorem CT {P:Program} {o:Oper} {tc l:Nat} {args:Array Operand} {ts:Array TypeId} {a:Act} {w:World} {K:Act→World→Prop} {Q:Exit→Act→World→Prop} (ho:o.op = .call { callee:=.value (.tmp tc),args:=args,argTypes:=ts })
  (hc:a.eval (.tmp tc) = .func (.yield l) #[] #[]) {us:List Value} (hus:args.toList.map a.eval=us) (hy:YieldAt (k6 none) 0 P l us.toArray w fun e w'=>∃ v,e = .returned v∧K (a.put o.dst v) w'):o.wpIn (k6 none) 0 P a w K Q:=by
 refine ⟨fun _ _=>trivial,?_⟩
 rw [Oper.semAt_eq _ _ _ (by rw [ho];intro c h;cases h)]
 obtain ⟨fn,tmps,asg,body,h1,h2⟩:=hy
 have harr:args.map a.eval=us.toArray:=by rw [← hus];apply Array.ext';simp
 have hrun:(execOp a.eval o).run P w = .ok (.round l fn tmps asg body) w:=by
  unfold execOp
  rw [ho]
  simp [resolve,hc,Deferred.ofValue,invoke,harr,h1]
 rw [hrun]
 refine ⟨fun h=>by simp at h,h2.mono ?_⟩
 rintro e w' ⟨v,rfl,h⟩
 exact h
def tg:SV→Bool
 | .val (.int _) _=>true
 | .val .bool _=>true
 | _=>false
theorem vP {w w':World} {Z Z':Nat→Prop} {G G':Nat→Value} {s:SV} {v:Value} (hs:tg s=true) (h:ag w Z G s v):ag w' Z' G' s v:=by
 unfold tg at hs
 split at hs<;>first | exact h | cases hs
def y7:List (Nat × SV)→Bool
 | []=>true
 | (_,s) :: r=>tg s && y7 r
theorem qN:∀ {env:List (Nat × SV)} (t:Nat),y7 env=true→tg (get env t)=true∨get env t = .unk
 | [],_,_=>.inr rfl
 | (k,s) :: r,t,h=>by
  unfold y7 at h
  rw [Bool.and_eq_true] at h
  rw [aF]
  split
  ·exact .inl h.1
  ·exact qN t h.2
theorem Co (hC:C.Ok) (hpan:∀ s σ,¬ C.pan s σ) {n id j dst:Nat} {ops:Array Oper} (hdef:ops.toList.all (fun o=>!dy o)=true) (hok:bg n ops.toList=true) {o:Oper} (hj:ops[j]? = some o) {tc l:Nat} {args:Array Operand} {ts:Array TypeId}
  (ho:o.op = .call { callee:=.value (.tmp tc),args:=args,argTypes:=ts }) (hdst:o.dst=some dst) {Q:Exit→Act→World→Prop} {env env2:List (Nat × SV)} {a:Act} {w:World} {Z:Nat→Prop} {G:Nat→Value}
  (hsz:a.tmps.size=n) (hslot:∀ t,ag w Z G (get env t) (a.tmps.getD t undef)) (hZ:∀ b,Z b→b < w.heap.size) (hflat:∀ i,(G i).oneCell' = true) {k1 k2:St→Prop} (h1:ak C ops.toList (ops.toList.take j) ⟨env,[]⟩ k1)
  (hg:o.guard=none∨∃ jj t,o.guard=some (jj,true)∧pO ops.toList jj=some t∧∀ σ1,k1 σ1→get σ1.env t = .val .bool (.b true))
  (he2:y7 env2=true) (he3:∀ σ1,k1 σ1→∀ t,get env2 t=get σ1.env t∨get env2 t = .unk) (hd2:get env2 dst = .unk) {Kw:World→Prop} (hKZ:∀ w',Kw w'→∀ b,Z b→b < w'.heap.size)
  (hy:∀ (σ1:St) (a1:Act) (w1:World) (Z1:Nat→Prop) (G1:Nat→Value),k1 σ1→(∀ t,ag w1 Z1 G1 (get σ1.env t) (a1.tmps.getD t undef))→Fut (fun _=>False) w w1→(∀ i,i % 2=1→G1 i=G i)→
    a1.eval (.tmp tc) = .func (.yield l) #[] #[]∧YieldAt (k6 none) 0 C.P l (args.toList.map a1.eval).toArray w1 fun e w'=>e = .returned (.bool true)∧Kw w')
  (h2:ak C ops.toList (ops.toList.drop (j + 1)) ⟨(dst,.val .bool (.b true)) :: env2,[]⟩ k2)
  (hQ:∀ (σ':St) (a':Act) (w2 w':World) (Z':Nat→Prop) (G':Nat→Value),k2 σ'→Kw w2→(∀ t,ag w' Z' G' (get σ'.env t) (a'.tmps.getD t undef))→Fut (fun _=>False) w2 w'→a'.tmps.size=n→a'.defers=a.defers→(∀ t,(∀ o ∈ ops.toList,o.dst≠some t)→a'.tmps.getD t undef=a.tmps.getD t undef)→Q .normal a' w') :
  (Code.region id ops false).wp C.P Q a w:=by
 have S:=Sim.begin (P:=C.P) hsz hslot hZ hflat
 have hjl:j < ops.toList.length:=by
  have:=(Array.getElem?_eq_some_iff.1 hj).1
  simpa using this
 have htl:(ops.toList.take j).length=j:=by rw [List.length_take];omega
 have hsplit:∀ l:List Oper,bg n l=true→∀ m,bg n (l.take m)=true∧bg n (l.drop m)=true:=fun l=>by
  induction l with
  | nil=>intro _ m;cases m<;>exact ⟨rfl,rfl⟩
  | cons x r ih=>
   intro h m
   have hx:ke n x=true∧bg n r=true:=by
    unfold bg at h
    split at h
    ·exact ⟨by assumption,h⟩
    ·cases h
   cases m with
   | zero=>exact ⟨rfl,h⟩
   | succ m=>
    obtain ⟨g1,g2⟩:=ih hx.2 m
    refine ⟨?_,g2⟩
    rw [List.take_succ_cons]
    unfold bg
    rw [hx.1]
    exact g1
 have hoo:ke n o=true:=by
  have hd:=(hsplit _ hok j).2
  have e:ops.toList.drop j=o :: ops.toList.drop (j + 1):=by
   rw [List.drop_eq_getElem_cons hjl]
   congr 1
   have:=(Array.getElem?_eq_some_iff.1 hj).2
   simpa using this
  rw [e] at hd
  unfold bg at hd
  split at hd
  ·assumption
  ·cases hd
 have hdn:dst < n:=(lP hoo).1 dst hdst
 refine (wpIn_wide (n:=0)).1 (wpIn_mono (wpIn_region (dp (v0:=fun t=>a.tmps.getD t undef) _ a w (fun _ _=>rfl)
  (Q:=fun e a' w'=>e = .normal∧∃ σ' w2 Z' G',k2 σ'∧Kw w2∧(∀ t,ag w' Z' G' (get σ'.env t) (a'.tmps.getD t undef))∧Fut (fun _=>False) w2 w'∧a'.tmps.size=n∧a'.defers=a.defers) ?_)) ?_)
 ·have hr:List.range ops.size=List.range' 0 (ops.toList.take j).length ++ (j :: (List.range' (j + 1) (ops.toList.drop (j + 1)).length ++ [])):=by
   rw [htl,List.length_drop,List.append_nil,List.range_eq_range',← List.range'_succ,← Array.length_toList]
   rw [show ops.toList.length - (j + 1) + 1=ops.toList.length - j by omega]
   have:=List.range'_append (s:=0) (m:=j) (n:=ops.toList.length - j) (step:=1)
   simp only [Nat.one_mul,Nat.zero_add] at this
   rw [this]
   congr 1
   omega
  rw [hr]
  refine eJ hC (fun s σ' _ _ _ _ _ h=>(hpan s σ' h).elim) rfl rfl (fun _ _ h=>by cases h.1) hdef (ro:=none) (m:=0) ?_ (ops.toList.take j) 0 (fun i hi=>?_) (hsplit _ hok j).1 S h1
  ·intro σ1 a1 w1 Z1 G1 hk1 S1
   obtain ⟨hev,hyy⟩:=hy σ1 a1 w1 Z1 G1 hk1 S1.slot S1.fut S1.odd
   have hw:Region.wanted o (yielded ops a1.tmps)=true:=by
    rcases hg with hg | ⟨jj,t,hg,hgs,hgt⟩
    ·simp [Region.wanted,hg]
    ·have hv:a1.tmps.getD t undef = .bool true:=by
      have:=S1.slot t
      rw [hgt σ1 hk1] at this
      exact this
     have hops:(ops[jj]?).bind (·.dst)=some t:=by
      unfold pO at hgs
      rw [gx] at hgs
      rw [← Array.getElem?_toList]
      cases hjj:ops.toList[jj]? with
      | none=>rw [hjj] at hgs;cases hgs
      | some oj=>rw [hjj] at hgs;exact hgs
     have hyes:yielded ops a1.tmps jj=some true:=by
      unfold yielded
      rw [hops]
      simp only [Option.bind_some]
      have:a1.tmps[t]? = some (.bool true):=by
       rw [Array.getD_eq_getD_getElem?] at hv
       cases ht:a1.tmps[t]? with
       | none=>rw [ht] at hv;cases hv
       | some v=>rw [ht] at hv;simp at hv;rw [hv]
      rw [this]
     simp [Region.wanted,hg,hyes]
   rw [wpOpsIn_cons]
   unfold wpOpIn
   rw [hj]
   simp only
   rw [if_pos hw]
   refine CT ho hev rfl ?_
   obtain ⟨fn,tmps,asg,body,g1,g2⟩:=hyy
   refine ⟨fn,tmps,asg,body,g1,g2.mono ?_⟩
   rintro e w2 ⟨rfl,hK⟩
   refine ⟨_,rfl,?_⟩
   have hsz2:(a1.put o.dst (.bool true)).tmps.size=n:=by rw [uy];exact S1.size
   have hsl2:∀ t,ag w2 Z G (get ((dst,.val .bool (.b true)) :: env2) t) ((a1.put o.dst (.bool true)).tmps.getD t undef):=fun t=>by
    rw [aF,hdst]
    have hev:=aJ (a:=a1) (d:=dst) (t:=t) (v:=.bool true) (by rw [S1.size];exact hdn)
    have hev:(a1.put (some dst) (.bool true)).tmps.getD t undef=if dst=t then .bool true else a1.tmps.getD t undef:=hev
    rw [hev]
    split
    ·exact rfl
    ·rcases he3 σ1 hk1 t with h | h
     ·rcases qN t he2 with h' | h'
      ·refine vP h' ?_ (w:=w1) (Z:=Z1) (G:=G1)
       rw [h]
       exact S1.slot t
      ·rw [h'];trivial
     ·rw [h];trivial
   have S2:=Sim.begin (P:=C.P) hsz2 hsl2 (hKZ w2 hK) hflat
   refine eJ hC (fun s σ' _ _ _ _ _ h=>(hpan s σ' h).elim) rfl rfl (fun _ _ h=>by cases h.1) hdef (ro:=none) (m:=0) (rest:=[]) ?_ (ops.toList.drop (j + 1)) (j + 1) (fun i hi=>?_) (hsplit _ hok (j + 1)).2 S2 h2
   ·intro σ' a' w' Z' G' hk2 S'
    refine ⟨rfl,σ',w2,Z',G',hk2,hK,S'.slot,S'.fut,S'.size,?_⟩
    have e1:a'.defers=(a1.put o.dst (.bool true)).defers:=S'.calm
    have e2:(a1.put o.dst (.bool true)).defers=a1.defers:=aP
    have e3:a1.defers=a.defers:=S1.calm
    rw [e1,e2,e3]
   ·rw [List.getElem?_drop,← Array.getElem?_toList]
  ·rw [List.getElem?_take,if_pos (by omega),Nat.zero_add,← Array.getElem?_toList]
 ·rintro e a' w' ⟨⟨rfl,σ',w2,Z',G',g1,g2,g3,g4,g5,g6⟩,hkeep⟩
  exact hQ σ' a' w2 w' Z' G' g1 g2 g3 g4 g5 g6 (hkeep rfl)
theorem Sim.shut {P:Program} {Θ:Anc} {n:Nat} {σ:St} {a:Act} {w:World} {Z:Nat→Prop} {G:Nat→Value} (S:Sim P Θ n σ a w Z G) {id:Nat} {cs:List Ct} {us:List U} (hp:az σ.objs id=some (.box (vals cs us))) :
  ∃ Z1:Nat→Prop,(∀ b,Z b→Z1 b)∧Sim P Θ n (σ.freeze id .unk) a w Z1 G∧∀ v,ag w Z G (.ptr id 0) v→ag w Z1 G (.rptr cs us) v:=by
 obtain ⟨b,ty,c,h1,h2,h3⟩:=S.obj id _ hp
 refine ⟨_,fun b hb=>.inl hb,S.freeze hp trivial (fun b' hb'=>?_),fun v hv=>?_⟩
 ·rw [h1] at hb';cases hb'
  exact ⟨c,ty,h2⟩
 ·obtain ⟨b',h4,rfl⟩:=hv
  rw [h1] at h4;cases h4
  refine ⟨b,0,rfl,.inr (by rw [h1];rfl),?_⟩
  have hr:=aX.mono (Z':=fun x=>Z x∨blk (G id)=some x) ⟨fun _ h=>.inl h,fun _ _=>rfl⟩ (ab.repL h3)
  refine aX.cells hr fun j v hj=>?_
  have hj:c[j]? = some v:=by simpa using hj
  simp [World.cell?,h2,hj]
end
def jS (P:Program) (fn:Func) (R:Ending→World→Prop):Exit→Act→World→Prop:=fun e a w=>(e = .normal∨e = .ret)∧∃ D,a.defers=[{ target:=.collected D,args:=#[] }]∧w.heap[D]? = some (.deferred (some []))∧∃ v,(results fn a.tmps).run P (w.putObj D (.deferred none)) = .ok v (w.putObj D (.deferred none))∧R (.returned v) (w.putObj D (.deferred none))
theorem sw {P:Program} {f:FuncId} {fn:Func} {c:Code} {args:Array Value} {w:World} {R:Ending→World→Prop} (hf:P.funcs[f]? = some fn) (hb:fn.body=some c)
  (h:c.wp P (jS P fn R) { tmps:=args ++ Array.replicate (fn.ntmps - args.size) undef,defers:=[] } w):Calls P f args w R:=by
 refine (callsIn_wide (n:=0)).1 (callsIn_of_wp_marks hf hb trivial (wpIn_mono (wpIn_wide.2 h) ?_))
 rintro e a' w' ⟨he,D,hd,hD,v,hv,hR⟩
 have main:LeavesInM Fence.wide 0 P fn a'.tmps R a'.defers .returning w':=by
  rw [hd]
  exact ⟨by simp,.inl ⟨D,_,rfl,run_takeDeferred hD,v,hv,hR⟩⟩
 rcases he with rfl | rfl<;>exact main
theorem kE {w:World} {Z:Nat→Prop} {G:Nat→Value} {x:Int} (h0:-9223372036854775808≤x) (h1:x≤9223372036854775807):ag w Z G (.val (.int .i64) (.i x)) (.int .i64 x):=⟨rfl,h0,h1⟩
end Go.Den

namespace Go.Den
open Go Go.RowKit
section
variable {C:Ctx}
theorem bJ (hC:C.Ok) (hpan:∀ s σ,¬ C.pan s σ) {n id:Nat} {ops:Array Oper} (hdef:ops.toList.all (fun o=>!dy o)=true) (hok:bg n ops.toList=true) {Q:Exit→Act→World→Prop} {env:List (Nat × SV)} {a:Act} {w:World} {Z:Nat→Prop} {G:Nat→Value}
  (hsz:a.tmps.size=n) (hslot:∀ t,ag w Z G (get env t) (a.tmps.getD t undef)) (hZ:∀ b,Z b→b < w.heap.size) (hflat:∀ i,(G i).oneCell' = true) {k:St→Prop} (h:ak C ops.toList ops.toList ⟨env,[]⟩ k)
  (hQ:∀ σ' a' w' Z' G',k σ'→Sim C.P ⟨w,fun _=>False,fun _=>False,Z,false,false,G,a.defers⟩ n σ' a' w' Z' G'→(∀ t,(∀ o ∈ ops.toList,o.dst≠some t)→a'.tmps.getD t undef=a.tmps.getD t undef)→Q .normal a' w') :
  (Code.region id ops false).wp C.P Q a w:=by
 have S:=Sim.begin (P:=C.P) hsz hslot hZ hflat
 refine (wpIn_wide (n:=0)).1 (wpIn_mono (wpIn_region (dp (v0:=fun t=>a.tmps.getD t undef) _ a w (fun _ _=>rfl) (Q:=fun e a' w'=>e = .normal∧∃ σ' Z' G',k σ'∧Sim C.P ⟨w,fun _=>False,fun _=>False,Z,false,false,G,a.defers⟩ n σ' a' w' Z' G') ?_)) ?_)
 ·have:=eJ (Q:=fun e a' w'=>e = .normal∧∃ σ' Z' G',k σ'∧Sim C.P ⟨w,fun _=>False,fun _=>False,Z,false,false,G,a.defers⟩ n σ' a' w' Z' G') hC (fun s σ' _ _ _ _ _ h=>(hpan s σ' h).elim) rfl rfl (fun _ _ h=>by cases h.1) hdef (ro:=none) (m:=0) (rest:=[]) (fun σ' a' w' Z' G' h S'=>⟨rfl,σ',Z',G',h,S'⟩) ops.toList 0 (fun j _=>by simp) hok S h
  rw [List.append_nil,Array.length_toList] at this
  rw [List.range_eq_range']
  exact this
 ·rintro e a' w' ⟨⟨rfl,σ',Z',G',hk,S'⟩,hkeep⟩
  exact hQ σ' a' w' Z' G' hk S' (hkeep rfl)
end
end Go.Den

namespace Go.Den
open Go Go.RowKit
theorem Sim.renameTo {P:Program} {Θ:Anc} {n:Nat} {σ:St} {a:Act} {w:World} {Z:Nat→Prop} {G:Nat→Value} (S:Sim P Θ n σ a w Z G) {m:List (Nat × Nat)} (h1:d4 (mM m)=true) (h2:d4 (n6 m)=true) (hev:(n6 m).all (fun j=>Nat.beq (j % 2) 0)=true) {G0:Nat→Value} (hf0:∀ i,(G0 i).oneCell' = true) {a':Act} (ht:a'.tmps=a.tmps) :
  ∃ G',(∀ i j,lk m i=some j→G' j=G i)∧Sim P ⟨Θ.w,Θ.M,Θ.N,Θ.Z0,Θ.kb,Θ.ka,G0,a'.defers⟩ n ⟨xT m σ.env,dO σ.objs m m⟩ a' w Z G':=by
 let G':Nat→Value:=fun j=>match lk (cm m) j with | some i=>G i | none=>G0 j
 have hG:∀ i j,lk m i=some j→G' j=G i:=fun i j hij=>by show (match lk (cm m) j with | some i=>G i | none=>G0 j)=_;rw [jX h2 hij]
 have hpk:∀ j o',az (dO σ.objs m m) j=some o'→∃ i p,lk m i=some j∧az σ.objs i=some p∧o' = p.ren m∧G' j=G i:=fun j o' hj=>by
  obtain ⟨i,p,h3,h4,h5⟩:=fQ hj
  exact ⟨i,p,cL h1 h3,h4,h5,hG i j (cL h1 h3)⟩
 refine ⟨G',hG,?_⟩
 exact
  {size:=by rw [ht];exact S.size
   calm:=rfl
   slot:=fun t=>by
    show ag w Z G' (get (xT m σ.env) t) (a'.tmps.getD t undef)
    rw [pK,ht]
    exact ag.ren hG _ _ (S.slot t)
   obj:=fun j o' hj=>by
    obtain ⟨i,p,h3,h4,rfl,_⟩:=hpk j o' hj
    exact cg.ren hG h3 (S.obj i p h4)
   sep:=fun j j' o1 o2 b hj hj' hb hb'=>by
    obtain ⟨i,p,g1,g2,_,g3⟩:=hpk j o1 hj
    obtain ⟨i',p',g1',g2',_,g3'⟩:=hpk j' o2 hj'
    rw [g3] at hb
    rw [g3'] at hb'
    have:=S.sep i i' p p' b g2 g2' hb hb'
    subst this
    rw [g1] at g1'
    exact Option.some.inj g1'
   free:=fun j o' b hj hb=>by
    obtain ⟨i,p,g1,g2,_,g3⟩:=hpk j o' hj
    rw [g3] at hb
    exact S.free i p b g2 hb
   keep:=fun j o' b hj hb hN=>by
    obtain ⟨i,p,g1,g2,rfl,g3⟩:=hpk j o' hj
    rw [g3] at hb
    have:=S.keep i p b g2 hb hN
    cases p<;>exact this
   nlt:=S.nlt
   lt:=S.lt
   fut:=S.fut
   new:=S.new
   sub:=S.sub
   flat:=fun j=>by
    show (match lk (cm m) j with | some i=>G i | none=>G0 j).oneCell' = true
    split
    ·exact S.flat _
    ·exact hf0 _
   odd:=fun j hj=>by
    show (match lk (cm m) j with | some i=>G i | none=>G0 j)=G0 j
    split
    ·rename_i i hi
     have hm:(i,j) ∈ m:=gB.1 (lG hi)
     have hs:j ∈ n6 m:=by
      have:∀ l:List (Nat × Nat),(i,j) ∈ l→j ∈ n6 l:=fun l=>by
       induction l with
       | nil=>intro h;cases h
       | cons x r ih=>
        intro h
        obtain ⟨p,q⟩:=x
        rcases List.mem_cons.1 h with h | h
        ·cases h;exact List.mem_cons_self ..
        ·exact List.mem_cons_of_mem _ (ih h)
      exact this m hm
     have:=Nat.eq_of_beq_eq_true (List.all_eq_true.1 hev j hs)
     omega
    ·rfl
   row:=S.row }
def zH (P:Program) (R:Out→bX→Prop) (w:World) (Z:Nat→Prop) (G:Nat→Value) (objs:bX):Ending→World→Prop:=fun e w'=>∃ out objs' Z' G',R out objs'∧lT w' Z' G' out e∧zI P w Z G objs w' Z' G' objs'
theorem BK {P:Program} {f:FuncId} {fn:Func} {code:Code} {F:Tr} (hf:P.funcs[f]? = some fn) (hbody:fn.body=some code) (hname:(fn.name == "runtime.NumGoroutine")=false)
  (h:∀ (vs:List SV) (objs:bX) (R:Out→bX→Prop),jw objs=true→F vs objs R→vs.length≤fn.ntmps∧∀ a w Z G,Sim P ⟨w,bH G objs,fun _=>False,Z,false,false,G,[]⟩ fn.ntmps ⟨fa 0 vs,objs⟩ a w Z G→
    code.wp P (jS P fn (zH P R w Z G objs)) a w):lE P f fn F where
 body:=by rw [hbody];rfl
 name:=hname
 calls:=by
  intro vs objs R hcan hF w Z G args hargs hst
  obtain ⟨hvl,h⟩:=h vs objs R hcan hF
  have hal:args.length=vs.length:=hargs.length.symm
  refine sw hf hbody (h _ w Z G ?_)
  exact
   {size:=by simp only [Array.size_append,Array.size_replicate,List.size_toArray];omega
    calm:=rfl
    slot:=fun t=>by
     rcases mT (vs:=vs) (k:=0) (t:=t) with h1 | ⟨_,s,h2,h3⟩
     ·show ag w Z _ (get (fa 0 vs) t) _
      rw [h1];trivial
     ·show ag w Z _ (get (fa 0 vs) t) _
      simp only [Nat.sub_zero] at h2
      have ht:t < args.length:=by have:=(List.getElem?_eq_some_iff.1 h2).1;omega
      have hv:(args.toArray ++ Array.replicate (fn.ntmps - args.toArray.size) undef).getD t undef=args[t]:=by
       rw [Array.getD_eq_getD_getElem?,Array.getElem?_append_left (by simpa using ht)]
       simp [ht]
      rw [hv,h3]
      have:=hargs.nth t args[t] (List.getElem?_eq_getElem ht)
      rwa [nL h2] at this
    obj:=hst.obj
    sep:=hst.sep
    free:=fun id o b h1 h2=>⟨hst.free id o b h1 h2,.inl ⟨id,o,h1,h2⟩⟩
    keep:=fun id o b _ _ h=>h.elim
    nlt:=fun _ h=>h.elim
    lt:=hst.lt
    fut:=Fut.refl _ w
    new:=fun b hb=>.inl hb
    sub:=fun b hb=>hb
    flat:=hst.flat
    odd:=fun _ _=>rfl
    row:=fun _ hb=>.inl hb }
theorem mP {C:Ctx} (hC:C.Ok) {fn:Func} {w w':World} {Z Z':Nat→Prop} {G G':Nat→Value} {ds:List Deferred} {objs:bX} {R:Out→bX→Prop} {σ:St} {a:Act} {code:Code} {D:Nat} (hok:codeOk fn.ntmps code=true) (hdr:er code=false) (hl:cy C code 0)
  (S:Sim C.P ⟨w,bH G objs,fun _=>False,Z,false,false,G,ds⟩ fn.ntmps σ a w' Z' G') (hfl:∀ i,(G i).oneCell' = true) (hds:a.defers=[{ target:=.collected D,args:=#[] }]) (hD:w'.heap[D]? = some (.deferred (some []))) (hle:w.heap.size≤D) (hZD:¬ Z' D)
  (hbD:∀ id o,az σ.objs id=some o→blk (G' id)≠some D) (h:mh (exec (C.panics fun _ _=>False) code 0 σ (BU C.P fn objs R))):code.wp C.P (jS C.P fn (zH C.P R w Z G objs)) a w':=by
 have Sr:=S.rebase (a':=a) rfl
 have hDl:D < w'.heap.size:=(Array.getElem?_eq_some_iff.1 hD).1
 have hnB:¬ bH G' σ.objs D:=fun ⟨i,o,ho,hb⟩=>hbD i o ho hb
 refine c5 (hC.panics fun _ _=>False) rfl rfl (fun _ h=>h) code 0 hok (hl.panics _) Sr h.out ?_ (fun _ _ _ _ _ _ _ h _ _=>False.elim h) (fun h=>by rw [hdr] at h;cases h)
 intro e σ2 a2 w2 Z2 G2 he S2
 have S2:Sim C.P ⟨w',bH G' σ.objs,fun _=>False,Z',false,false,G,a.defers⟩ fn.ntmps σ2 a2 w2 Z2 G2:=S2
 have hex:jb e = .normal∨jb e = .ret:=by
  cases e with
  | normal=>exact .inl rfl
  | ret=>exact .inr rfl
  | exit m=>exact he.elim
 have hfin:∃ rs,fg C.P σ2 fn.results.toList=some rs∧td objs R (.ret rs) σ2.objs:=by
  unfold BU at he
  split at he
  ·exact he.elim
  ·split at he
   ·rename_i rs hrs;exact ⟨rs,hrs,he⟩
   ·exact he.elim
 obtain ⟨rs,hrs,hfin⟩:=hfin
 have hD2:w2.heap[D]? = some (.deferred (some [])):=(S2.fut.block D hDl hnB).trans hD
 have hZ2:¬ Z2 D:=fun h=>by
  rcases S2.new D h with h | h | h | h
  ·exact hZD h
  ·exact hnB h
  ·exact h
  ·have h:w'.heap.size≤D:=h
   omega
 have S3:=S.unbase (fun _ h=>h) S2
 have S4:=S3.other (oA w2 D (.deferred none)) (fun b hb=>by
  subst hb
  refine ⟨hle,hZ2,fun id o ho hb=>?_⟩
  rcases (S2.free id o _ ho hb).2 with h | h | h
  ·exact hnB h
  ·exact h
  ·have h:w'.heap.size≤b:=h
   omega)
 obtain ⟨rv,hrun',hrr⟩:=ga S4 hrs
 have hres:(results fn a2.tmps).run C.P (w2.putObj D (.deferred none)) = .ok (if h:rv.toArray.size=1 then rv.toArray[0] else .tuple rv.toArray) (w2.putObj D (.deferred none)):=by
  rw [gG,Array.mapM_eq_mapM_toList]
  simp [hrun']
 have hout:lT (w2.putObj D (.deferred none)) Z2 G2 (.ret rs) (.returned (if h:rv.toArray.size=1 then rv.toArray[0] else .tuple rv.toArray)):=by
  have hl:=hrr.length
  match rs,hrr with
  | [s],hrr=>
   obtain ⟨v,t,rfl,hv,ht⟩:=hrr
   have ht:t=[]:=ht
   subst ht
   exact ⟨_,rfl,hv⟩
  | [],hrr=>
   have hrr:rv=[]:=hrr
   subst hrr
   exact ⟨_,rfl,#[],rfl,rfl⟩
  | s :: s' :: rs,hrr=>
   refine ⟨_,rfl,rv.toArray,?_,by simpa using hrr⟩
   rw [dif_neg]
   simp at hl ⊢
   omega
 have:=lS S4 hfl hout hfin
 exact ⟨hex,D,S2.calm.trans hds,hD2,_,hres,this⟩
end Go.Den

namespace Go.Mat
open Go Go.Den
theorem i64_in {x:Int} (h:-9223372036854775808≤x) (h':x≤9223372036854775807):IntKind.wrap .i64 x=x:=by
 simp only [IntKind.wrap,IntKind.bits,IntKind.signed];simp;split<;>omega
theorem u64_in {x:Int} (h:0≤x) (h':x < 18446744073709551616):IntKind.wrap .u64 x=x:=by
 simp only [IntKind.wrap,IntKind.bits,IntKind.signed];simp;omega
end Go.Mat

namespace Go.Mat
open Go Go.Den
abbrev e0 (s:U):U:=nth (.i 0) s.list 0
abbrev e1 (s:U):U:=nth (.i 0) s.list 1
abbrev e2 (s:U):U:=nth (.i 0) s.list 2
abbrev e3 (s:U):U:=nth (.i 0) s.list 3
abbrev e4 (s:U):U:=nth (.i 0) s.list 4
def eo (a b:Int):Bool:=decide (0≤a) && decide (a < b) && decide (b≤1073741824)
def fS:Int→List U→Bool
 | _,[]=>true
 | last,s :: r=>eo (e0 s).int (e1 s).int && decide (last < (e0 s).int) && fS (e1 s).int r
def ik (L:List U):Nat→Nat→Bool
 | _,0=>true
 | i,n + 1=>eo (e0 (U.at L i)).int (e1 (U.at L i)).int && (decide (i=0) || decide ((e1 (U.at L (i - 1))).int < (e0 (U.at L i)).int)) && ik L (i + 1) n
def fW (c:Int):Bool:=(decide (97≤c) && decide (c≤122)) || (decide (48≤c) && decide (c≤57)) || decide (c=45) || decide (c=95) || decide (c=46)
def aO (l:List UInt8):Bool:=l.all fun c=>fW c.toNat
def fG (s:ByteArray):Bool:=!(s.data.toList == []) && decide (s.data.toList.length≤16) && aO s.data.toList
def ea (st ct:Int):Bool:=decide (2≤st) && decide (st≤65536) && decide (0≤ct) && decide (ct≤65536 - st)
def dR (k st ct sz sm c:Int):Bool:=
 if c < 0∨6 < c then false
 else if k=0∨k=1 then decide (st=0∧ct=0∧sz=0∧sm=0)
 else if k=2 then decide (ct=2 ^ c.toNat∧sz=0) && ea st ct
 else if k=3 then decide (1≤ct∧ct < 2 ^ c.toNat∧1≤sz∧(ct - 1) * 16 < sz∧sz≤ct * 16) && ea st ct
 else false
def gg (k st ct sz sm:Int):Bool:=decide (k=0∧st=0∧ct=0∧sz=0∧sm=0)
def dW (n c:Int):Bool:=decide (0≤n) && decide (n≤4096) && decide (n % 2 ^ c.toNat=0)
theorem aN:∀ {L:List U} {i:Nat},i < L.length→L.drop i=U.at L i :: L.drop (i + 1)
 | _ :: _,0,_=>rfl
 | _ :: L,i + 1,h=>aN (L:=L) (i:=i) (by simpa using h)
theorem pC:∀ (n:Nat) (L:List U) (i:Nat),L.length=i + n→ik L i n=fS (if i=0 then -1 else (e1 (U.at L (i - 1))).int) (L.drop i)
 | 0,L,i,h=>by rw [List.drop_of_length_le (by omega)];rfl
 | n + 1,L,i,h=>by
  rw [aN (by omega),ik,fS,pC n L (i + 1) (by omega)]
  simp only [Nat.add_one_ne_zero,if_false,Nat.add_sub_cancel]
  congr 1
  by_cases hi:i=0
  ·subst hi
   simp only [decide_true,Bool.true_or,Bool.and_true,if_true]
   unfold eo
   by_cases h0:0≤(e0 (U.at L 0)).int
   ·simp [h0,show (-1:Int) < (e0 (U.at L 0)).int by omega]
   ·simp [h0]
  ·simp [hi]
theorem tV {c:Int} (h:0≤c) (h':c≤6):IntKind.wrap .i64 (1 * 2 ^ min c.toNat (IntKind.bits .i64))=2 ^ c.toNat:=by
 have:c=0∨c=1∨c=2∨c=3∨c=4∨c=5∨c=6:=by omega
 rcases this with rfl | rfl | rfl | rfl | rfl | rfl | rfl<;>rfl
theorem xG {c:Int} (h:0≤c) (h':c≤6):(1:Int)≤2 ^ c.toNat∧(2:Int) ^ c.toNat≤64:=by
 have:c=0∨c=1∨c=2∨c=3∨c=4∨c=5∨c=6:=by omega
 rcases this with rfl | rfl | rfl | rfl | rfl | rfl | rfl<;>decide
end Go.Mat

namespace Go.Mat
open Go Go.Den
def pn (n c i k:Int) (e:U):Bool:=
 dR (e0 e).int (e1 e).int (e2 e).int (e3 e).int (e4 e).int c && (gg (e0 e).int (e1 e).int (e2 e).int (e3 e).int (e4 e).int || decide (IntKind.wrap .i64 (IntKind.wrap .i64 (i * 8) + k) < n))
def ef (n c i:Int):Int→List U→Bool
 | _,[]=>true
 | k,e :: r=>pn n c i k e && ef n c i (k + 1) r
def ie (l:List U):Bool:=l.any fun e=>!gg (e0 e).int (e1 e).int (e2 e).int (e3 e).int (e4 e).int
def ll (n c i:Int) (l:List U):Bool:=decide (l.length=8) && ef n c i 0 l && ie l
def cx (n c:Int):Int→List U→Bool
 | _,[]=>true
 | i,l :: r=>if l.list=[]∧r≠[] then cx n c (i + 1) r else ll n c i l.list && cx n c (i + 1) r
def bU (L:List U) (n c:Int):Bool:=if n < 0∨4096 < n∨c < 0∨6 < c then false else cx n c 0 L
def lA (n c i k:Int) (e:U):Bool:=
 dR (e0 e).int (e1 e).int (e2 e).int (e3 e).int (e4 e).int c && (decide ((e0 e).int=0) || decide (IntKind.wrap .i64 (IntKind.wrap .i64 (i * 8) + k) < n))
def ft (n c i:Int):Int→List U→Bool
 | _,[]=>true
 | k,e :: r=>lA n c i k e && ft n c i (k + 1) r
def gj (l:List U):Bool:=l.any fun e=>decide ((e0 e).int≠0)
def ed (n c i:Int) (l:List U):Bool:=decide (l.length=8) && ft n c i 0 l && gj l
def bq (n c:Int):Int→List U→Bool
 | _,[]=>true
 | i,l :: r=>if l.list=[] then bq n c (i + 1) r else ed n c i l.list && bq n c (i + 1) r
theorem uY {k st ct sz sm c:Int} (h:dR k st ct sz sm c=true):gg k st ct sz sm=decide (k=0):=by
 unfold dR at h
 unfold gg
 rw [Bool.eq_iff_iff]
 simp only [decide_eq_true_eq]
 constructor
 ·exact fun h=>h.1
 ·intro hk
  split at h
  ·cases h
  ·rw [if_pos (.inl hk)] at h
   exact ⟨hk,of_decide_eq_true h⟩
theorem Du (n c i k:Int) (e:U):pn n c i k e=lA n c i k e:=by
 unfold pn lA
 cases hm:dR (e0 e).int (e1 e).int (e2 e).int (e3 e).int (e4 e).int c with
 | false=>rfl
 | true=>rw [uY hm]
theorem uf (n c i:Int):∀ (l:List U) (k:Int),ef n c i k l=ft n c i k l
 | [],_=>rfl
 | e :: r,k=>by rw [ef,ft,Du,uf n c i r]
theorem vz {n c i:Int}:∀ (l:List U) (k:Int),ef n c i k l=true→ie l=gj l
 | [],_,_=>rfl
 | e :: r,k,h=>by
  rw [ef,Bool.and_eq_true] at h
  have ih:=vz r (k + 1) h.2
  unfold ie gj at ih ⊢
  rw [List.any_cons,List.any_cons,ih]
  congr 1
  have hm:=h.1
  unfold pn at hm
  rw [Bool.and_eq_true] at hm
  rw [uY hm.1]
  simp
theorem vf (n c i:Int) (l:List U):ll n c i l=ed n c i l:=by
 unfold ll ed
 rw [← uf]
 cases h:ef n c i 0 l with
 | false=>simp
 | true=>rw [vz l 0 h]
theorem Al (n c i:Int):ll n c i []=false:=rfl
def c6 (L:List U):Bool:=decide (L=[]) || !decide ((nth (.i 0) L (L.length - 1)).list=[])
theorem wm {l:U} {r:List U} (h:r≠[]):c6 (l :: r)=c6 r:=by
 unfold c6
 cases r with
 | nil=>exact absurd rfl h
 | cons x s=>
  simp
  rfl
theorem jF (n c:Int):∀ (L:List U) (i:Int),cx n c i L=(c6 L && bq n c i L)
 | [],_=>rfl
 | l :: r,i=>by
  rw [cx,bq,jF n c r,vf]
  by_cases hr:r=[]
  ·subst hr
   by_cases hl:l.list=[]
   ·simp [hl,c6,← vf,Al]
   ·simp [hl,c6,bq]
  ·rw [wm hr]
   by_cases hl:l.list=[]
   ·simp [hl,hr]
   ·simp [hl]
    cases ed n c i l.list<;>cases c6 r<;>simp
def b8 (L:List U) (n c:Int):Bool:=if n < 0∨4096 < n∨c < 0∨6 < c then false else c6 L && decide (L.length≤512) && bq n c 0 L
theorem qU {n c i:Int} (hi:0≤i) (hi':i≤1099511627776) (hn:n≤4096):∀ (l:List U) (k:Int),0≤k→k + l.length≤1099511627776→ef n c i k l=true→ie l=true→i < 512
 | [],_,_,_,_,h=>by cases h
 | e :: r,k,hk,hl,h1,h2=>by
  rw [ef,Bool.and_eq_true] at h1
  have h2:(!gg (e0 e).int (e1 e).int (e2 e).int (e3 e).int (e4 e).int || ie r)=true:=h2
  simp only [List.length_cons] at hl
  rw [Bool.or_eq_true] at h2
  rcases h2 with h2 | h2
  ·have h3:=h1.1
   unfold pn at h3
   rw [Bool.and_eq_true,Bool.or_eq_true] at h3
   rcases h3.2 with h4 | h4
   ·rw [h4] at h2;cases h2
   ·have h5:=of_decide_eq_true h4
    rw [i64_in (x:=i * 8) (by omega) (by omega),i64_in (by omega) (by omega)] at h5
    omega
  ·exact qU hi hi' hn r (k + 1) (by omega) (by omega) h1.2 h2
theorem Dv {n c i:Int} {l:List U} (hi:0≤i) (hi':i≤1099511627776) (hn:n≤4096) (h:ll n c i l=true):i < 512:=by
 unfold ll at h
 simp only [Bool.and_eq_true,decide_eq_true_eq] at h
 exact qU hi hi' hn l 0 (by omega) (by omega) h.1.2 h.2
theorem lO {n c:Int} (hn:n≤4096):∀ (L:List U) (i:Int),0≤i→i + L.length≤1099511627776→cx n c i L=true→L≠[]→i + L.length≤512
 | [],_,_,_,_,h=>absurd rfl h
 | l :: r,i,hi,hl,h,_=>by
  simp only [List.length_cons] at hl ⊢
  rw [cx] at h
  by_cases hr:r=[]
  ·subst hr
   rw [if_neg (fun h=>h.2 rfl),Bool.and_eq_true] at h
   have:=Dv hi (by omega) hn h.1
   simp
   omega
  ·have key:cx n c (i + 1) r=true:=by
    split at h
    ·exact h
    ·rw [Bool.and_eq_true] at h;exact h.2
   have:=lO hn r (i + 1) (by omega) (by omega) key hr
   omega
theorem lp {L:List U} {n c:Int} (h:L.length≤1099511627776):bU L n c=b8 L n c:=by
 unfold bU b8
 split
 ·rfl
 ·rename_i hc
  rw [jF]
  by_cases h5:L.length≤512
  ·simp [h5]
  ·rw [decide_eq_false h5,Bool.and_false,Bool.false_and]
   by_cases hx:(c6 L && bq n c 0 L)=true
   ·rw [← jF] at hx
    have:=lO (by omega) L 0 (by omega) (by omega) hx (fun h0=>by rw [h0] at h5;simp at h5)
    omega
   ·simpa using hx
end Go.Mat

namespace Go.Mat
open Go Go.Den Go.Proofs
noncomputable abbrev PR:Program:=Tryz.prog
noncomputable def bM (t:TypeId):Option (List IntKind):=bif Nat.beq t 46 then some [.i64,.i64,.i64,.i64,.u32] else none
abbrev vi (n:U):SV:=.val (.int .i64) n
abbrev vb (n:U):SV:=.val .bool n
abbrev vs (n:U):SV:=.val .str n
abbrev vl (c:Ct) (n:U):SV:=.val (.sl false [c]) n
abbrev vt (cs:List Ct) (n:U):SV:=.val (.sl true cs) n
abbrev u8T:TypeId:=5
end Go.Mat

namespace Go.Mat
open Go Go.Den Go.Proofs
noncomputable abbrev K0:Ctx:=mkC PR bM aK aL aC aq aq
def i3:List (List U)→List (List U):=fun us=>[[.b (eo (nth (.i 0) (nth [] us 0) 0).int (nth (.i 0) (nth [] us 0) 1).int)]]
def qi:List (List U)→List (List U):=fun us=>[[.b (fG (nth (.i 0) (nth [] us 0) 0).str)]]
def xp:List (List U)→List (List U):=fun us=>[[.b (ea (nth (.i 0) (nth [] us 0) 1).int (nth (.i 0) (nth [] us 0) 2).int)]]
def qw:List (List U)→List (List U):=fun us=>[[.b (dR (nth (.i 0) (nth [] us 0) 0).int (nth (.i 0) (nth [] us 0) 1).int (nth (.i 0) (nth [] us 0) 2).int (nth (.i 0) (nth [] us 0) 3).int (nth (.i 0) (nth [] us 0) 4).int (nth (.i 0) (nth [] us 1) 0).int)]]
def yU:List (List U)→List (List U):=fun us=>[[.b (gg (nth (.i 0) (nth [] us 0) 0).int (nth (.i 0) (nth [] us 0) 1).int (nth (.i 0) (nth [] us 0) 2).int (nth (.i 0) (nth [] us 0) 3).int (nth (.i 0) (nth [] us 0) 4).int)]]
def nr:List (List U)→List (List U):=fun us=>[[.b (fS (-1) (nth (.i 0) (nth [] us 0) 0).list)]]
noncomputable def Jy:Ctx:=mkC PR bM (aH 74 xp aK) aL aC aq aq
theorem tS (R:RF) (a b:U):(run K0 Tryz.f59 [[a,b]] R)=(bif decide (U.int a ≥ (0:Int)) then bif decide (U.int a < U.int b) then R [[U.b (decide (U.int b≤(1073741824:Int)))]] else R [[U.b false]] else R [[U.b false]]):=by kernel_rfl
theorem qE (R:RF) (a b:U):(run K0 Tryz.f71 [[a,b]] R)=(bif decide (U.int a ≥ (0:Int)) then bif decide (U.int a < U.int b) then R [[U.b (decide (U.int b≤(1073741824:Int)))]] else R [[U.b false]] else R [[U.b false]]):=by kernel_rfl
theorem yd (R:RF) (a b c d e:U):(run K0 Tryz.f74 [[a,b,c,d,e]] R)=(bif decide (U.int b ≥ (2:Int)) then bif decide (U.int b≤(65536:Int)) then bif decide (U.int c ≥ (0:Int)) then R [[U.b (decide (U.int c≤IntKind.wrap IntKind.i64 ((65536:Int) - U.int b)))]] else
 R [[U.b false]] else R [[U.b false]] else R [[U.b false]]):=by kernel_rfl
theorem Bi (R:RF) (a b c d e:U):(run K0 Tryz.f45 [[a,b,c,d,e]] R)=(R [[U.b (U.int a == (0:Int) && (U.int b == (0:Int) && (U.int c == (0:Int) && (U.int d == (0:Int) && (U.int e == (0:Int) && true)))))]]):=by kernel_rfl
theorem Dc (R:RF) (a b c d e k:U) {f g} (_:f=(a.int == a.int && (b.int == (0:Int) && (c.int == (0:Int) && (d.int == (0:Int) && (e.int == (0:Int) && true))))):=by rfl) (_:g=((1:Int) * (2:Int) ^ min k.int.toNat (IntKind.bits IntKind.i64)):=by rfl): (run Jy Tryz.f58 [[a,b,c,d,e],[k]] R)=(bif decide (k.int < (0:Int)) then R [[U.b false]] else bif decide (k.int > (6:Int)) then R [[U.b false]] else bif decide (k.int < (0:Int)) then False else bif a.int == (0:Int) then R [[U.b f]] else bif a.int == (1:Int) then R [[U.b f]] else bif a.int == (2:Int) then bif c.int == IntKind.wrap .i64 g then bif d.int == (0:Int) then R [[U.b (ea b.int c.int)]] else R [[U.b false]] else R [[U.b false]] else bif a.int == (3:Int) then bif decide (c.int ≥ (1:Int)) then bif decide (c.int < IntKind.wrap .i64 g) then bif decide (d.int ≥ (1:Int)) then bif decide (d.int > IntKind.wrap .i64 (IntKind.wrap .i64 (c.int - (1:Int)) * (16:Int))) then bif decide (d.int≤IntKind.wrap .i64 (c.int * (16:Int))) then R [[U.b (ea b.int c.int)]] else R [[U.b false]] else R [[U.b false]] else R [[U.b false]] else R [[U.b false]] else R [[U.b false]] else R [[U.b false]]):=by subst_vars;kernel_rfl
theorem BQ (R:RF) (a b c d e k:U) {f g h} (_:f=((1:Int) * (2:Int) ^ min (Int.toNat (IntKind.wrap .u64 k.int)) (IntKind.bits IntKind.i64)):=by rfl) (_:g=(decide (d.int > IntKind.wrap .i64 (IntKind.wrap .i64 (c.int - (1:Int)) * (16:Int)))):=by rfl) (_:h=((65536:Int) - c.int):=by rfl): (run K0 Tryz.f70 [[a,b,c,d,e],[k]] R)=(bif decide (k.int < (0:Int)) then R [[U.b false]] else bif decide (k.int > (6:Int)) then R [[U.b false]] else bif a.int == (0:Int) then bif a.int == (0:Int) then bif b.int == (0:Int) then bif c.int == (0:Int) then bif d.int == (0:Int) then R [[U.b (e.int == (0:Int))]] else R [[U.b false]] else R [[U.b false]] else R [[U.b false]] else bif a.int == (2:Int) then bif decide (b.int ≥ (2:Int)) then bif decide (IntKind.wrap .u64 k.int < (0:Int)) then False else bif c.int == IntKind.wrap .i64 f then bif decide (b.int≤IntKind.wrap .i64 h) then R [[U.b (d.int == (0:Int))]] else R [[U.b false]] else R [[U.b false]] else R [[U.b false]] else bif a.int == (3:Int) then bif decide (b.int ≥ (2:Int)) then bif decide (c.int ≥ (1:Int)) then bif decide (IntKind.wrap .u64 k.int < (0:Int)) then False else bif decide (c.int < IntKind.wrap .i64 f) then bif decide (b.int≤IntKind.wrap .i64 h) then bif decide (d.int ≥ (1:Int)) then bif decide (d.int≤IntKind.wrap .i64 (c.int * (16:Int))) then R [[U.b g]] else R [[U.b false]] else R [[U.b false]] else R [[U.b false]] else R [[U.b false]] else R [[U.b false]] else R [[U.b false]] else R [[U.b false]] else bif a.int == (1:Int) then bif b.int == (0:Int) then bif c.int == (0:Int) then bif d.int == (0:Int) then R [[U.b (e.int == (0:Int))]] else R [[U.b false]] else R [[U.b false]] else R [[U.b false]] else bif a.int == (2:Int) then bif decide (b.int ≥ (2:Int)) then bif decide (IntKind.wrap .u64 k.int < (0:Int)) then False else bif c.int == IntKind.wrap .i64 f then bif decide (b.int≤IntKind.wrap .i64 h) then R [[U.b (d.int == (0:Int))]] else R [[U.b false]] else R [[U.b false]] else R [[U.b false]] else bif a.int == (3:Int) then bif decide (b.int ≥ (2:Int)) then bif decide (c.int ≥ (1:Int)) then bif decide (IntKind.wrap .u64 k.int < (0:Int)) then False else bif decide (c.int < IntKind.wrap .i64 f) then bif decide (b.int≤IntKind.wrap .i64 h) then bif decide (d.int ≥ (1:Int)) then bif decide (d.int≤IntKind.wrap .i64 (c.int * (16:Int))) then R [[U.b g]] else R [[U.b false]] else R [[U.b false]] else R [[U.b false]] else R [[U.b false]] else R [[U.b false]] else R [[U.b false]] else R [[U.b false]]):=by subst_vars;kernel_rfl
theorem Bo (R:RF) (a b:U):(run K0 Tryz.f35 [[a],[b]] R)=(bif decide (U.int a ≥ (0:Int)) then bif decide (U.int a≤(4096:Int)) then bif decide (U.int b < (0:Int)) then False else bif decide (IntKind.wrap IntKind.i64 ((1:Int) * (2:Int) ^ min (Int.toNat
 (U.int b)) (IntKind.bits IntKind.i64))=(0:Int)) then False else R [[U.b (Int.tmod (U.int a) (IntKind.wrap IntKind.i64 ((1:Int) * (2:Int) ^ min (Int.toNat (U.int b)) (IntKind.bits IntKind.i64)))
 == (0:Int))]] else R [[U.b false]] else R [[U.b false]]):=by kernel_rfl
theorem xY (R:RF) (a b:U) {c} (_:c=(Int.toNat (IntKind.wrap IntKind.u64 (U.int b))):=by rfl): (run K0 Tryz.f48 [[a],[b]] R)=(bif decide (U.int a ≥ (0:Int)) then bif decide (U.int a≤(4096:Int)) then bif decide (IntKind.wrap IntKind.u64 (U.int b) < (0:Int)) then False else bif decide (IntKind.wrap IntKind.u64 (U.int b) < (0:Int)) then False else R [[U.b (IntKind.wrap IntKind.i64 (Int.fdiv (U.int a) ((2:Int) ^ min c (IntKind.bits IntKind.i64)) * (2:Int) ^ min c (IntKind.bits IntKind.i64)) == U.int a)]] else R [[U.b false]] else R [[U.b false]]):=by subst_vars;kernel_rfl
noncomputable def kI:aS:=fun _ svs _ k=>match svs with
 | [.val (.int .i64) i,.val (.int .i64) m,.val (.sl true [.int .i64,.int .i64]) L,.val (.int .i64) last]=>
  (m.int=(L.list.length:Int)∧0≤i.int∧i.int≤m.int)∧
  (bif fS last.int (L.list.drop i.int.toNat) then k (.exit 0) ⟨[(2,.unk)],[]⟩ else k .ret ⟨[(2,vb (.b false))],[]⟩)
 | _=>False
noncomputable def tk:Ctx:=mkC PR bM (aH 59 i3 aK) aL (aw 0 [8,7,6,3] [] kI aC) (an 0 [2] [] aq) aq
theorem ue (pan:KP) (μ:Mu) (N:Nat) (k:KE) (i m L last:U) {a c d e} (_:a=(U.list (nth (U.i (0:Int)) L.list i.int.toNat)):=by rfl) (_:c=(St.mk [(nat_lit 2,.val .bool (U.b false))] []):=by rfl) (_:d=(nth (U.i (0:Int)) (List.tail a) 0):=by rfl) (_:e=(i.int + (1:Int)):=by rfl): (exec (tk.panics pan) (aa Tryz.f38 0) 0 ⟨[(8,vi i),(7,vi m),(6,vt [.int .i64,.int .i64] L),(3,vi last)],[]⟩ (again PR (some ([2],[])) none pan [8,7,6,3] [] kI μ N k))=(bif decide (i.int < m.int) then bif decide ((0:Int)≤i.int∧i.int < (L.list.length:Int)) then bif !eo (U.int (nth (U.i (0:Int)) a 0)) (U.int d) then k Ex.ret c else bif decide (U.int (nth (U.i (0:Int)) a 0)≤last.int) then k Ex.ret c else bif Nat.blt (μ [.val (.int IntKind.i64) (U.i (IntKind.wrap .i64 e)),.val (.int IntKind.i64) m,.val (.sl true [.int .i64,.int .i64]) L,.val (.int IntKind.i64) d] []) N then (m.int=(L.list.length:Int)∧(0:Int)≤IntKind.wrap .i64 e∧IntKind.wrap .i64 e≤m.int)∧bif fS (U.int d) (List.drop (Int.toNat (IntKind.wrap .i64 e)) L.list) then k (Ex.exit (nat_lit 0)) (St.mk [(nat_lit 2,.unk)] []) else k Ex.ret c else False else False else k (Ex.exit (nat_lit 0)) (St.mk [(nat_lit 2,.unk)] [])):=by subst_vars;kernel_rfl
theorem xo (R:RF) (L:U):(run tk Tryz.f38 [[L]] R)=(((↑(List.length (U.list L)):Int)=(↑(List.length (U.list L)):Int)∧(0:Int)≤(0:Int)∧(0:Int)≤(↑(List.length (U.list L)):Int))∧bif fS (-1:Int) (List.drop (Int.toNat (0:Int))
 (U.list L)) then R [[U.b true]] else R [[U.b false]]):=by kernel_rfl
noncomputable def jl:aS:=fun _ svs _ k=>match svs with
 | [.val (.int .i64) i,.val (.sl true [.int .i64,.int .i64]) L]=>
  (0≤i.int∧i.int≤(L.list.length:Int))∧
  (bif ik L.list i.int.toNat (L.list.length - i.int.toNat) then k (.exit 0) ⟨[(2,.unk)],[]⟩ else k .ret ⟨[(2,vb (.b false))],[]⟩)
 | _=>False
noncomputable def oW:Ctx:=mkC PR bM (aH 71 i3 aK) aL (aw 0 [3,0] [] jl aC) (an 0 [2] [] aq) aq
theorem th (pan:KP) (μ:Mu) (N:Nat) (k:KE) (i L:U) {a c g d e f h j} (_:a=(IntKind.wrap .i64 (i.int + (1:Int))):=by rfl) (_:c=(St.mk [(nat_lit 2,.val .bool (U.b false))] []):=by rfl) (_:g=(L.list.length:Int):=by rfl) (_:d=((0:Int)≤IntKind.wrap .i64 (i.int + (1:Int))∧IntKind.wrap .i64 (i.int + (1:Int))≤g):=by rfl) (_:e=(U.list (nth (U.i (0:Int)) L.list i.int.toNat)):=by rfl) (_:f=(μ [.val (.int IntKind.i64) (U.i a),.val (.sl true [.int .i64,.int .i64]) L] []):=by rfl) (_:h=(St.mk [(nat_lit 2,.unk)] []):=by rfl) (_:j=(Ex.exit (nat_lit 0)):=by rfl): (exec (oW.panics pan) (aa Tryz.f53 0) 0 ⟨[(3,vi i),(0,vt [.int .i64,.int .i64] L)],[]⟩ (again PR (some ([2],[])) none pan [3,0] [] jl μ N k))=(bif decide (i.int < g) then bif decide ((0:Int)≤i.int∧i.int < g) then bif !eo (U.int (nth (U.i (0:Int)) e 0)) (U.int (nth (U.i (0:Int)) (List.tail e) 0)) then k Ex.ret c else bif decide (i.int > (0:Int)) then bif decide ((0:Int)≤i.int∧i.int < g) then bif decide ((0:Int)≤IntKind.wrap .i64 (i.int - (1:Int))∧IntKind.wrap .i64 (i.int - (1:Int)) < g) then bif decide (U.int (nth (U.i (0:Int)) (List.drop (0:Nat) e) 0)≤U.int (nth (U.i (0:Int)) (List.drop (1:Nat) (U.list (nth (U.i (0:Int)) L.list (Int.toNat (IntKind.wrap .i64 (i.int - (1:Int))))))) 0)) then k Ex.ret c else bif Nat.blt f N then d∧bif ik L.list (Int.toNat a) (L.list.length - Int.toNat a) then k j h else k Ex.ret c else False else False else False else bif Nat.blt f N then d∧bif ik L.list (Int.toNat a) (L.list.length - Int.toNat a) then k j h else k Ex.ret c else False else False else k j h):=by subst_vars;kernel_rfl
theorem vX (R:RF) (L:U):(run oW Tryz.f53 [[L]] R)=(((0:Int)≤(0:Int)∧(0:Int)≤(↑(List.length (U.list L)):Int))∧bif ik (U.list L) (Int.toNat (0:Int)) (List.length (U.list L) - Int.toNat (0:Int)) then R [[U.b true]] else R [[U.b false]]):=by kernel_rfl
noncomputable def mu:aS:=fun _ svs _ k=>match svs with
 | [.val (.int .i64) i,.val (.int .i64) m,.val .str s]=>
  (m.int=(s.str.size:Int)∧0≤i.int∧i.int≤m.int)∧
  (bif aO (s.str.data.toList.drop i.int.toNat) then k (.exit 0) ⟨[(2,.unk)],[]⟩ else k .ret ⟨[(2,vb (.b false))],[]⟩)
 | _=>False
noncomputable def y9:Ctx:=mkC PR bM aK aL (aw 0 [14,13,0] [] mu aC) (an 0 [2] [] aq) aq
theorem yn (pan:KP) (μ:Mu) (N:Nat) (k:KE) (i m s:U) {j a c l d e f g h} (_:j=(i.int + (1:Int)):=by rfl) (_:a=(m.int=(↑(ByteArray.size s.str):Int)∧(0:Int)≤IntKind.wrap .i64 j∧IntKind.wrap .i64 j≤m.int):=by rfl) (_:c=(μ [.val (.int IntKind.i64) (U.i (IntKind.wrap .i64 j)),.val (.int IntKind.i64) m,.val .str s] []):=by rfl) (_:l=(Array.toList (ByteArray.data s.str)):=by rfl) (_:d=(UInt8.toNat (List.getD l i.int.toNat (0:UInt8))):=by rfl) (_:e=(List.drop (Int.toNat (IntKind.wrap .i64 j)) l):=by rfl) (_:f=(St.mk [(nat_lit 2,.val .bool (U.b false))] []):=by rfl) (_:g=(St.mk [(nat_lit 2,.unk)] []):=by rfl) (_:h=(Ex.exit (nat_lit 0)):=by rfl): (exec (y9.panics pan) (aa Tryz.f36 0) 0 ⟨[(14,vi i),(13,vi m),(0,vs s)],[]⟩ (again PR (some ([2],[])) none pan [14,13,0] [] mu μ N k))=(bif decide (i.int < m.int) then bif decide ((0:Int)≤i.int∧i.int < (↑(ByteArray.size s.str):Int)) then bif decide ((↑d:Int) < (97:Int)) then bif decide ((↑d:Int) < (48:Int)) then bif (↑d:Int) != (45:Int) then bif (↑d:Int) != (95:Int) then bif (↑d:Int) != (46:Int) then k Ex.ret f else bif Nat.blt c N then a∧bif aO e then k h g else k Ex.ret f else False else bif Nat.blt c N then a∧bif aO e then k h g else k Ex.ret f else False else bif Nat.blt c N then a∧bif aO e then k h g else k Ex.ret f else False else bif decide ((↑d:Int) > (57:Int)) then bif (↑d:Int) != (45:Int) then bif (↑d:Int) != (95:Int) then bif (↑d:Int) != (46:Int) then k Ex.ret f else bif Nat.blt c N then a∧bif aO e then k h g else k Ex.ret f else False else bif Nat.blt c N then a∧bif aO e then k h g else k Ex.ret f else False else bif Nat.blt c N then a∧bif aO e then k h g else k Ex.ret f else False else bif Nat.blt c N then a∧bif aO e then k h g else k Ex.ret f else False else bif decide ((↑d:Int) > (122:Int)) then bif decide ((↑d:Int) < (48:Int)) then bif (↑d:Int) != (45:Int) then bif (↑d:Int) != (95:Int) then bif (↑d:Int) != (46:Int) then k Ex.ret f else bif Nat.blt c N then a∧bif aO e then k h g else k Ex.ret f else False else bif Nat.blt c N then a∧bif aO e then k h g else k Ex.ret f else False else bif Nat.blt c N then a∧bif aO e then k h g else k Ex.ret f else False else bif decide ((↑d:Int) > (57:Int)) then bif (↑d:Int) != (45:Int) then bif (↑d:Int) != (95:Int) then bif (↑d:Int) != (46:Int) then k Ex.ret f else bif Nat.blt c N then a∧bif aO e then k h g else k Ex.ret f else False else bif Nat.blt c N then a∧bif aO e then k h g else k Ex.ret f else False else bif Nat.blt c N then a∧bif aO e then k h g else k Ex.ret f else False else bif Nat.blt c N then a∧bif aO e then k h g else k Ex.ret f else False else bif Nat.blt c N then a∧bif aO e then k h g else k Ex.ret f else False else False else k h g):=by subst_vars;kernel_rfl
theorem BL (R:RF) (s:U):(run y9 Tryz.f36 [[s]] R)=(bif ByteArray.toList (U.str s) == ByteArray.toList (ByteArray.mk #[]) then R [[U.b false]] else bif decide ((↑(ByteArray.size (U.str s)):Int) > (16:Int)) then R [[U.b false]] else ((↑(ByteArray.size
 (U.str s)):Int)=(↑(ByteArray.size (U.str s)):Int)∧(0:Int)≤(0:Int)∧(0:Int)≤(↑(ByteArray.size (U.str s)):Int))∧bif aO (List.drop (Int.toNat (0:Int)) (Array.toList (ByteArray.data
 (U.str s)))) then R [[U.b true]] else R [[U.b false]]):=by kernel_rfl
noncomputable def kG:aS:=fun _ svs _ k=>match svs with
 | [.val (.int .i64) i,.val .str s]=>
  (0≤i.int∧i.int≤(s.str.size:Int))∧
  (bif aO (s.str.data.toList.drop i.int.toNat) then k (.exit 0) ⟨[(2,.unk)],[]⟩ else k .ret ⟨[(2,vb (.b false))],[]⟩)
 | _=>False
noncomputable def sT:Ctx:=mkC PR bM aK aL (aw 0 [3,0] [] kG aC) (an 0 [2] [] aq) aq
theorem ur (pan:KP) (μ:Mu) (N:Nat) (k:KE) (i s:U) {j l a m c d e f g h} (_:j=(i.int + (1:Int)):=by rfl) (_:l=(ByteArray.size s.str):=by rfl) (_:a=((0:Int)≤IntKind.wrap .i64 j∧IntKind.wrap .i64 j≤(↑l:Int)):=by rfl) (_:m=(Array.toList (ByteArray.data s.str)):=by rfl) (_:c=(UInt8.toNat (List.getD m i.int.toNat (0:UInt8))):=by rfl) (_:d=(List.drop (Int.toNat (IntKind.wrap .i64 j)) m):=by rfl) (_:e=(μ [.val (.int IntKind.i64) (U.i (IntKind.wrap .i64 j)),.val .str s] []):=by rfl) (_:f=(St.mk [(nat_lit 2,.val .bool (U.b false))] []):=by rfl) (_:g=(St.mk [(nat_lit 2,.unk)] []):=by rfl) (_:h=(Ex.exit (nat_lit 0)):=by rfl): (exec (sT.panics pan) (aa Tryz.f49 0) 0 ⟨[(3,vi i),(0,vs s)],[]⟩ (again PR (some ([2],[])) none pan [3,0] [] kG μ N k))=(bif decide (i.int < (↑l:Int)) then bif decide ((0:Int)≤i.int∧i.int < (↑l:Int)) then bif decide ((↑c:Int) ≥ (97:Int)) then bif decide ((↑c:Int)≤(122:Int)) then bif Nat.blt e N then a∧bif aO d then k h g else k Ex.ret f else False else bif decide ((↑c:Int) ≥ (48:Int)) then bif decide ((↑c:Int)≤(57:Int)) then bif Nat.blt e N then a∧bif aO d then k h g else k Ex.ret f else False else bif (↑c:Int) == (45:Int) then bif Nat.blt e N then a∧bif aO d then k h g else k Ex.ret f else False else bif (↑c:Int) == (95:Int) then bif Nat.blt e N then a∧bif aO d then k h g else k Ex.ret f else False else bif !(↑c:Int) == (46:Int) then k Ex.ret f else bif Nat.blt e N then a∧bif aO d then k h g else k Ex.ret f else False else bif (↑c:Int) == (45:Int) then bif Nat.blt e N then a∧bif aO d then k h g else k Ex.ret f else False else bif (↑c:Int) == (95:Int) then bif Nat.blt e N then a∧bif aO d then k h g else k Ex.ret f else False else bif !(↑c:Int) == (46:Int) then k Ex.ret f else bif Nat.blt e N then a∧bif aO d then k h g else k Ex.ret f else False else bif decide ((↑c:Int) ≥ (48:Int)) then bif decide ((↑c:Int)≤(57:Int)) then bif Nat.blt e N then a∧bif aO d then k h g else k Ex.ret f else False else bif (↑c:Int) == (45:Int) then bif Nat.blt e N then a∧bif aO d then k h g else k Ex.ret f else False else bif (↑c:Int) == (95:Int) then bif Nat.blt e N then a∧bif aO d then k h g else k Ex.ret f else False else bif !(↑c:Int) == (46:Int) then k Ex.ret f else bif Nat.blt e N then a∧bif aO d then k h g else k Ex.ret f else False else bif (↑c:Int) == (45:Int) then bif Nat.blt e N then a∧bif aO d then k h g else k Ex.ret f else False else bif (↑c:Int) == (95:Int) then bif Nat.blt e N then a∧bif aO d then k h g else k Ex.ret f else False else bif !(↑c:Int) == (46:Int) then k Ex.ret f else bif Nat.blt e N then a∧bif aO d then k h g else k Ex.ret f else False else False else k h g):=by subst_vars;kernel_rfl
theorem xe (R:RF) (s:U):(run sT Tryz.f49 [[s]] R)=(bif ByteArray.toList (U.str s) == ByteArray.toList (ByteArray.mk #[]) then R [[U.b false]] else bif decide ((↑(ByteArray.size (U.str s)):Int) > (16:Int)) then R [[U.b false]] else ((0:Int)≤(0 :
 Int)∧(0:Int)≤(↑(ByteArray.size (U.str s)):Int))∧bif aO (List.drop (Int.toNat (0:Int)) (Array.toList (ByteArray.data (U.str s)))) then R [[U.b true]] else R [[U.b false]]):=by kernel_rfl
end Go.Mat

namespace Go.Mat
open Go Go.Den Go.Proofs
abbrev EC:List Ct:=[.int .i64,.int .i64,.int .i64,.int .i64,.int .u32]
def s6:List (List U)→List (List U):=fun us=>[[.b (bU (nth (.i 0) (nth [] us 0) 0).list (nth (.i 0) (nth [] us 1) 0).int (nth (.i 0) (nth [] us 2) 0).int)]]
def oI:List (List U)→List (List U):=fun us=>[[.b (b8 (nth (.i 0) (nth [] us 0) 0).list (nth (.i 0) (nth [] us 1) 0).int (nth (.i 0) (nth [] us 2) 0).int)]]
noncomputable def l8:aS:=fun _ svs os k=>match svs with
 | .val (.int .i64) kk :: .val (.int .i64) m :: .val (.sl true ec) l :: .val .bool s :: rest=>match rest,os with
  | [.val (.int .i64) i,.val (.int .i64) n,.val (.int .i64) c,.val (.int .i64) p1,.val (.int .i64) p2,.val (.sl false [.sl true ec1]) p3,.ptr pp po],[.box [.val (.sl false [.sl true ec2]) L]]=>
   (pp=384∧po=0∧ec=EC∧ec1=EC∧ec2=EC∧s = .b s.bool∧m.int=(l.list.length:Int)∧0≤kk.int∧kk.int≤m.int)∧
   (bif ef n.int c.int i.int kk.int (l.list.drop kk.int.toNat) then k (.exit 2) ⟨(9,vb (.b (s.bool || ie (l.list.drop kk.int.toNat)))) :: [7,1,2,29,28,27,3].zip rest,[384].zip os⟩
     else k .ret ⟨[(6,vb (.b false))],[]⟩)
  | _,_=>False
 | _=>False
noncomputable def l0:aS:=fun _ svs os k=>match svs,os with
 | [.val (.int .i64) i,.val (.int .i64) m,.val (.sl false [.sl true ec]) L,.ptr pp po,.val (.int .i64) n,.val (.int .i64) c],[.box [.val (.sl false [.sl true ec']) L']]=>
  (pp=384∧po=0∧ec=EC∧ec' = EC∧L' = L∧m.int=(L.list.length:Int)∧0≤i.int∧i.int≤m.int)∧
  (bif cx n.int c.int i.int (L.list.drop i.int.toNat) then k (.exit 0) ⟨[(6,.unk)],[]⟩ else k .ret ⟨[(6,vb (.b false))],[]⟩)
 | _,_=>False
noncomputable def Bk:Ctx:=mkC PR bM (aH 58 qw (aH 45 yU aK)) aL
 (aw 2 [50,49,48,9,7,1,2,29,28,27,3] [384] l8 (aw 0 [29,28,27,3,1,2] [384] l0 aC))
 (an 2 [9,7,1,2,29,28,27,3] [384] (an 1048578 [6] [] (an 0 [6] [] aq))) aq
theorem xC (pan:KP) (μ:Mu) (N:Nat) (k:KE) (kk m l s i n c p1 p2 p3 L:U) {h1 a p y u r q i1 g1 d o x d1 e1 f1 b1 c1 w z v e f g h j t a1} (_:h1=(U.list (nth (U.i (0:Int)) l.list kk.int.toNat)):=by rfl) (_:a=(List.tail h1):=by rfl) (_:p=(U.int (nth (U.i (0:Int)) h1 0)):=by rfl) (_:y=(U.int (nth (U.i (0:Int)) a 0)):=by rfl) (_:u=(U.int (nth (U.i (0:Int)) (List.tail a) 0)):=by rfl) (_:r=(U.int (nth (U.i (0:Int)) (List.tail (List.tail a)) 0)):=by rfl) (_:q=(U.int (nth (U.i (0:Int)) (List.tail (List.tail (List.tail a))) 0)):=by rfl) (_:i1=(l.list.length:Int):=by rfl) (_:g1=(kk.int + (1:Int)):=by rfl) (_:d=(384=384∧0=0∧[Ct.int IntKind.i64,Ct.int IntKind.i64,Ct.int IntKind.i64,Ct.int IntKind.i64,Ct.int IntKind.u32]=[.int .i64,.int .i64,.int .i64,.int .i64,.int .u32]∧[Ct.int IntKind.i64,Ct.int IntKind.i64,Ct.int IntKind.i64,Ct.int IntKind.i64,Ct.int IntKind.u32]=[.int .i64,.int .i64,.int .i64,.int .i64,.int .u32]∧[Ct.int IntKind.i64,Ct.int IntKind.i64,Ct.int IntKind.i64,Ct.int IntKind.i64,Ct.int IntKind.u32]=[.int .i64,.int .i64,.int .i64,.int .i64,.int .u32]∧(U.b !gg p y u r q)=U.b !gg p y u r q∧m.int=i1∧(0:Int)≤IntKind.wrap .i64 g1∧IntKind.wrap .i64 g1≤m.int):=by rfl) (_:o=(IntKind.wrap .i64 g1):=by rfl) (_:x=(List.drop (Int.toNat o) l.list):=by rfl) (_:d1=(nat_lit 7,.val (.int IntKind.i64) i):=by rfl) (_:e1=(nat_lit 1,.val (.int IntKind.i64) n):=by rfl) (_:f1=(nat_lit 2,.val (.int IntKind.i64) c):=by rfl) (_:b1=(nat_lit 29,.val (.int IntKind.i64) p1):=by rfl) (_:c1=(nat_lit 28,.val (.int IntKind.i64) p2):=by rfl) (_:w=(nat_lit 27,.val (.sl false [.sl true [.int .i64,.int .i64,.int .i64,.int .i64,.int .u32]]) p3):=by rfl) (_:z=(nat_lit 3,.ptr (nat_lit 384) (nat_lit 0)):=by rfl) (_:v=(nat_lit 384,.box [.val (.sl false [.sl true [.int .i64,.int .i64,.int .i64,.int .i64,.int .u32]]) L]):=by rfl) (_:e=(St.mk [(nat_lit 9,.val .bool (U.b (!gg p y u r q || ie x))),d1,e1,f1,b1,c1,w,z] [v]):=by rfl) (_:f=(μ [.val (.int IntKind.i64) (U.i o),.val (.int IntKind.i64) m,.val (.sl true [.int .i64,.int .i64,.int .i64,.int .i64,.int .u32]) l,.val .bool (U.b !gg p y u r q),.val (.int IntKind.i64) i,.val (.int IntKind.i64) n,.val (.int IntKind.i64) c,.val (.int IntKind.i64) p1,.val (.int IntKind.i64) p2,.val (.sl false [.sl true [.int .i64,.int .i64,.int .i64,.int .i64,.int .u32]]) p3,.ptr (nat_lit 384) (nat_lit 0)] [.box [.val (.sl false [.sl true [.int .i64,.int .i64,.int .i64,.int .i64,.int .u32]]) L]]):=by rfl) (_:g=(384=384∧0=0∧[Ct.int IntKind.i64,Ct.int IntKind.i64,Ct.int IntKind.i64,Ct.int IntKind.i64,Ct.int IntKind.u32]=[.int .i64,.int .i64,.int .i64,.int .i64,.int .u32]∧[Ct.int IntKind.i64,Ct.int IntKind.i64,Ct.int IntKind.i64,Ct.int IntKind.i64,Ct.int IntKind.u32]=[.int .i64,.int .i64,.int .i64,.int .i64,.int .u32]∧[Ct.int IntKind.i64,Ct.int IntKind.i64,Ct.int IntKind.i64,Ct.int IntKind.i64,Ct.int IntKind.u32]=[.int .i64,.int .i64,.int .i64,.int .i64,.int .u32]∧U.b true=U.b true∧m.int=i1∧(0:Int)≤IntKind.wrap .i64 g1∧IntKind.wrap .i64 g1≤m.int):=by rfl) (_:h=(St.mk [(nat_lit 9,.val .bool (U.b (true || ie x))),d1,e1,f1,b1,c1,w,z] [v]):=by rfl) (_:j=(μ [.val (.int IntKind.i64) (U.i o),.val (.int IntKind.i64) m,.val (.sl true [.int .i64,.int .i64,.int .i64,.int .i64,.int .u32]) l,.val .bool (U.b true),.val (.int IntKind.i64) i,.val (.int IntKind.i64) n,.val (.int IntKind.i64) c,.val (.int IntKind.i64) p1,.val (.int IntKind.i64) p2,.val (.sl false [.sl true [.int .i64,.int .i64,.int .i64,.int .i64,.int .u32]]) p3,.ptr (nat_lit 384) (nat_lit 0)] [.box [.val (.sl false [.sl true [.int .i64,.int .i64,.int .i64,.int .i64,.int .u32]]) L]]):=by rfl) (_:t=(St.mk [(nat_lit 6,.val .bool (U.b false))] []):=by rfl) (_:a1=(Ex.exit (nat_lit 2)):=by rfl): (exec (Bk.panics pan) (aa Tryz.f37 1) 2 ⟨[(50,vi kk),(49,vi m),(48,vt EC l),(9,vb s),(7,vi i),(1,vi n),(2,vi c),(29,vi p1),(28,vi p2),(27,vl (.sl true EC) p3),(3,.ptr 384 0)],[(384,.box [vl (.sl true EC) L])]⟩ (again PR (some ([9,7,1,2,29,28,27,3],[384])) (some ([6],[])) pan [50,49,48,9,7,1,2,29,28,27,3] [384] l8 μ N k))=(bif decide (kk.int < m.int) then bif decide ((0:Int)≤kk.int∧kk.int < i1) then bif !dR p y u r q c.int then k Ex.ret t else bif !gg p y u r q then bif decide (IntKind.wrap .i64 (IntKind.wrap .i64 (i.int * (8:Int)) + kk.int) ≥ n.int) then k Ex.ret t else bif s.bool then bif Nat.blt j N then g∧bif ef n.int c.int i.int o x then k a1 h else k Ex.ret t else False else bif Nat.blt f N then d∧bif ef n.int c.int i.int o x then k a1 e else k Ex.ret t else False else bif s.bool then bif Nat.blt j N then g∧bif ef n.int c.int i.int o x then k a1 h else k Ex.ret t else False else bif Nat.blt f N then d∧bif ef n.int c.int i.int o x then k a1 e else k Ex.ret t else False else False else k a1 (St.mk [(nat_lit 9,.val .bool s),d1,e1,f1,b1,c1,w,z] [v])):=by subst_vars;kernel_rfl
theorem wV (pan:KP) (μ:Mu) (N:Nat) (k:KE) (i m L n c:U) {r a f o d h e g j l p q} (_:r=(L.list.length:Int):=by rfl) (_:a=(384=384∧0=0∧[Ct.int IntKind.i64,Ct.int IntKind.i64,Ct.int IntKind.i64,Ct.int IntKind.i64,Ct.int IntKind.u32]=[.int .i64,.int .i64,.int .i64,.int .i64,.int .u32]∧[Ct.int IntKind.i64,Ct.int IntKind.i64,Ct.int IntKind.i64,Ct.int IntKind.i64,Ct.int IntKind.u32]=[.int .i64,.int .i64,.int .i64,.int .i64,.int .u32]∧L=L∧m.int=r∧(0:Int)≤IntKind.wrap .i64 (i.int + (1:Int))∧IntKind.wrap .i64 (i.int + (1:Int))≤m.int):=by rfl) (_:f=(U.list (nth (U.i (0:Int)) L.list i.int.toNat)):=by rfl) (_:o=(List.length f):=by rfl) (_:d=(384=384∧0=0∧[Ct.int IntKind.i64,Ct.int IntKind.i64,Ct.int IntKind.i64,Ct.int IntKind.i64,Ct.int IntKind.u32]=[.int .i64,.int .i64,.int .i64,.int .i64,.int .u32]∧[Ct.int IntKind.i64,Ct.int IntKind.i64,Ct.int IntKind.i64,Ct.int IntKind.i64,Ct.int IntKind.u32]=[.int .i64,.int .i64,.int .i64,.int .i64,.int .u32]∧[Ct.int IntKind.i64,Ct.int IntKind.i64,Ct.int IntKind.i64,Ct.int IntKind.i64,Ct.int IntKind.u32]=[.int .i64,.int .i64,.int .i64,.int .i64,.int .u32]∧U.b false=U.b false∧(↑o:Int)=(↑o:Int)∧(0:Int)≤(0:Int)∧(0:Int)≤(↑o:Int)):=by rfl) (_:h=(IntKind.wrap .i64 (i.int + (1:Int))):=by rfl) (_:e=(μ [.val (.int IntKind.i64) (U.i h),.val (.int IntKind.i64) m,.val (.sl false [.sl true [.int .i64,.int .i64,.int .i64,.int .i64,.int .u32]]) L,.ptr (nat_lit 384) (nat_lit 0),.val (.int IntKind.i64) n,.val (.int IntKind.i64) c] [.box [.val (.sl false [.sl true [.int .i64,.int .i64,.int .i64,.int .i64,.int .u32]]) L]]):=by rfl) (_:g=(St.mk [(nat_lit 6,.val .bool (U.b false))] []):=by rfl) (_:j=(List.drop (Int.toNat (0:Int)) f):=by rfl) (_:l=(St.mk [(nat_lit 6,.unk)] []):=by rfl) (_:p=(List.drop (Int.toNat h) L.list):=by rfl) (_:q=(Ex.exit (nat_lit 0)):=by rfl): (exec (Bk.panics pan) (aa Tryz.f37 0) 0 ⟨[(29,vi i),(28,vi m),(27,vl (.sl true EC) L),(3,.ptr 384 0),(1,vi n),(2,vi c)],[(384,.box [vl (.sl true EC) L])]⟩ (again PR (some ([6],[])) none pan [29,28,27,3,1,2] [384] l0 μ N k))=(bif decide (i.int < m.int) then bif decide ((0:Int)≤i.int∧i.int < r) then bif (↑o:Int) == (0:Int) then bif decide (i.int < IntKind.wrap .i64 (r - (1:Int))) then bif Nat.blt e N then a∧bif cx n.int c.int h p then k q l else k Ex.ret g else False else bif (↑o:Int) != (8:Int) then k Ex.ret g else d∧bif ef n.int c.int i.int (0:Int) j then bif !(false || ie j) then k Ex.ret g else bif Nat.blt e N then a∧bif cx n.int c.int h p then k q l else k Ex.ret g else False else k Ex.ret g else bif (↑o:Int) != (8:Int) then k Ex.ret g else d∧bif ef n.int c.int i.int (0:Int) j then bif !(false || ie j) then k Ex.ret g else bif Nat.blt e N then a∧bif cx n.int c.int h p then k q l else k Ex.ret g else False else k Ex.ret g else False else k q l):=by subst_vars;kernel_rfl
theorem Cr (R:RF) (L n c:U) {a} (_:a=(List.length (U.list L)):=by rfl): (run Bk Tryz.f37 [[L],[n],[c]] R)=(bif decide (U.int n < (0:Int)) then R [[U.b false]] else bif decide (U.int n > (4096:Int)) then R [[U.b false]] else bif decide (U.int c < (0:Int)) then R [[U.b false]] else bif decide (U.int c > (6:Int)) then R [[U.b false]] else (nat_lit 384=nat_lit 384∧nat_lit 0=nat_lit 0∧[Ct.int IntKind.i64,Ct.int IntKind.i64,Ct.int IntKind.i64,Ct.int IntKind.i64,Ct.int IntKind.u32]=[Ct.int IntKind.i64,Ct.int IntKind.i64,Ct.int IntKind.i64,Ct.int IntKind.i64,Ct.int IntKind.u32]∧[Ct.int IntKind.i64,Ct.int IntKind.i64,Ct.int IntKind.i64,Ct.int IntKind.i64,Ct.int IntKind.u32]=[Ct.int IntKind.i64,Ct.int IntKind.i64,Ct.int IntKind.i64,Ct.int IntKind.i64,Ct.int IntKind.u32]∧L=L∧(↑a:Int)=(↑a:Int)∧(0:Int)≤(0:Int)∧(0:Int)≤(↑a:Int))∧bif cx (U.int n) (U.int c) (0:Int) (List.drop (Int.toNat (0:Int)) (U.list L)) then R [[U.b true]] else R [[U.b false]]):=by subst_vars;kernel_rfl
noncomputable def kO:aS:=fun _ svs os k=>match svs with
 | .val (.int .i64) kk :: .val .bool s :: rest=>match rest,os with
  | [.val (.int .i64) i,.val (.int .i64) n,.val (.int .i64) c,.ptr pp po],[.box [.val (.sl false [.sl true ec]) L]]=>
   (pp=384∧po=0∧ec=EC∧s = .b s.bool∧0≤kk.int∧kk.int≤8∧0≤i.int∧i.int < (L.list.length:Int)∧(nth (.i 0) L.list i.int.toNat).list.length=8)∧
   (bif ft n.int c.int i.int kk.int ((nth (.i 0) L.list i.int.toNat).list.drop kk.int.toNat) then k (.exit 2) ⟨(8,vb (.b (s.bool || gj ((nth (.i 0) L.list i.int.toNat).list.drop kk.int.toNat)))) :: [7,1,2,3].zip rest,[384].zip os⟩
     else k .ret ⟨[(6,vb (.b false))],[]⟩)
  | _,_=>False
 | _=>False
noncomputable def kH:aS:=fun _ svs os k=>match svs,os with
 | [.val (.int .i64) i,.val (.int .i64) n,.val (.int .i64) c,.ptr pp po],[.box [.val (.sl false [.sl true ec]) L]]=>
  (pp=384∧po=0∧ec=EC∧0≤i.int∧i.int≤(L.list.length:Int))∧
  (bif bq n.int c.int i.int (L.list.drop i.int.toNat) then k (.exit 0) ⟨[(6,.unk)],[]⟩ else k .ret ⟨[(6,vb (.b false))],[]⟩)
 | _,_=>False
noncomputable def rH:Ctx:=mkC PR bM (aH 70 qw aK) aL
 (aw 2 [9,8,7,1,2,3] [384] kO (aw 0 [7,1,2,3] [384] kH aC))
 (an 2 [8,7,1,2,3] [384] (an 1048578 [6] [] (an 0 [6] [] aq))) aq
theorem ui (pan:KP) (μ:Mu) (N:Nat) (k:KE) (kk s i n c L:U) {a q d y e a1 b1 f g h j l r v w x t m o p u z} (_:a=(U.list (nth (U.i (0:Int)) L.list i.int.toNat)):=by rfl) (_:q=(U.list (nth (U.i (0:Int)) a kk.int.toNat)):=by rfl) (_:d=(nth (U.i (0:Int)) q 0):=by rfl) (_:y=(kk.int + (1:Int)):=by rfl) (_:e=(IntKind.wrap .i64 y):=by rfl) (_:a1=(U.int d != (0:Int)):=by rfl) (_:b1=(L.list.length:Int):=by rfl) (_:f=(384=384∧0=0∧[Ct.int IntKind.i64,Ct.int IntKind.i64,Ct.int IntKind.i64,Ct.int IntKind.i64,Ct.int IntKind.u32]=[.int .i64,.int .i64,.int .i64,.int .i64,.int .u32]∧U.b a1=U.b a1∧(0:Int)≤IntKind.wrap .i64 y∧IntKind.wrap .i64 y≤(8:Int)∧(0:Int)≤i.int∧i.int < b1∧List.length a=nat_lit 8):=by rfl) (_:g=(nat_lit 384,.box [.val (.sl false [.sl true [.int .i64,.int .i64,.int .i64,.int .i64,.int .u32]]) L]):=by rfl) (_:h=(384=384∧0=0∧[Ct.int IntKind.i64,Ct.int IntKind.i64,Ct.int IntKind.i64,Ct.int IntKind.i64,Ct.int IntKind.u32]=[.int .i64,.int .i64,.int .i64,.int .i64,.int .u32]∧U.b true=U.b true∧(0:Int)≤IntKind.wrap .i64 y∧IntKind.wrap .i64 y≤(8:Int)∧(0:Int)≤i.int∧i.int < b1∧List.length a=nat_lit 8):=by rfl) (_:j=(μ [.val (.int IntKind.i64) (U.i e),.val .bool (U.b a1),.val (.int IntKind.i64) i,.val (.int IntKind.i64) n,.val (.int IntKind.i64) c,.ptr (nat_lit 384) (nat_lit 0)] [.box [.val (.sl false [.sl true [.int .i64,.int .i64,.int .i64,.int .i64,.int .u32]]) L]]):=by rfl) (_:l=(μ [.val (.int IntKind.i64) (U.i e),.val .bool (U.b true),.val (.int IntKind.i64) i,.val (.int IntKind.i64) n,.val (.int IntKind.i64) c,.ptr (nat_lit 384) (nat_lit 0)] [.box [.val (.sl false [.sl true [.int .i64,.int .i64,.int .i64,.int .i64,.int .u32]]) L]]):=by rfl) (_:r=(List.drop (Int.toNat e) a):=by rfl) (_:v=(nat_lit 7,.val (.int IntKind.i64) i):=by rfl) (_:w=(nat_lit 1,.val (.int IntKind.i64) n):=by rfl) (_:x=(nat_lit 2,.val (.int IntKind.i64) c):=by rfl) (_:t=(nat_lit 3,.ptr (nat_lit 384) (nat_lit 0)):=by rfl) (_:m=(St.mk [(nat_lit 8,.val .bool (U.b (U.int d != (0:Int) || gj r))),v,w,x,t] [g]):=by rfl) (_:o=(St.mk [(nat_lit 8,.val .bool (U.b (true || gj r))),v,w,x,t] [g]):=by rfl) (_:p=(St.mk [(nat_lit 6,.val .bool (U.b false))] []):=by rfl) (_:u=(Ex.exit (nat_lit 2)):=by rfl) (_:z=(List.tail (List.tail q)):=by rfl): (exec (rH.panics pan) (aa Tryz.f50 1) 2 ⟨[(9,vi kk),(8,vb s),(7,vi i),(1,vi n),(2,vi c),(3,.ptr 384 0)],[(384,.box [vl (.sl true EC) L])]⟩ (again PR (some ([8,7,1,2,3],[384])) (some ([6],[])) pan [9,8,7,1,2,3] [384] kO μ N k))=(bif decide (kk.int < (8:Int)) then bif decide ((0:Int)≤i.int∧i.int < b1) then bif decide ((0:Int)≤kk.int∧kk.int < (↑(List.length a):Int)) then bif !dR (U.int d) (U.int (nth (U.i (0:Int)) (List.tail q) 0)) (U.int (nth (U.i (0:Int)) z 0)) (U.int (nth (U.i (0:Int)) (List.tail z) 0)) (U.int (nth (U.i (0:Int)) (List.tail (List.tail z)) 0)) c.int then k Ex.ret p else bif U.int d != (0:Int) then bif decide (IntKind.wrap .i64 (IntKind.wrap .i64 (i.int * (8:Int)) + kk.int) ≥ n.int) then k Ex.ret p else bif s.bool then bif Nat.blt l N then h∧bif ft n.int c.int i.int e r then k u o else k Ex.ret p else False else bif Nat.blt j N then f∧bif ft n.int c.int i.int e r then k u m else k Ex.ret p else False else bif s.bool then bif Nat.blt l N then h∧bif ft n.int c.int i.int e r then k u o else k Ex.ret p else False else bif Nat.blt j N then f∧bif ft n.int c.int i.int e r then k u m else k Ex.ret p else False else False else False else k u (St.mk [(nat_lit 8,.val .bool s),v,w,x,t] [g])):=by subst_vars;kernel_rfl
theorem wz (pan:KP) (μ:Mu) (N:Nat) (k:KE) (i L n c:U) {h a g d e f j l} (_:h=(L.list.length:Int):=by rfl) (_:a=(384=384∧0=0∧[Ct.int IntKind.i64,Ct.int IntKind.i64,Ct.int IntKind.i64,Ct.int IntKind.i64,Ct.int IntKind.u32]=[.int .i64,.int .i64,.int .i64,.int .i64,.int .u32]∧(0:Int)≤IntKind.wrap .i64 (i.int + (1:Int))∧IntKind.wrap .i64 (i.int + (1:Int))≤h):=by rfl) (_:g=(IntKind.wrap .i64 (i.int + (1:Int))):=by rfl) (_:d=(μ [.val (.int IntKind.i64) (U.i g),.val (.int IntKind.i64) n,.val (.int IntKind.i64) c,.ptr (nat_lit 384) (nat_lit 0)] [.box [.val (.sl false [.sl true [.int .i64,.int .i64,.int .i64,.int .i64,.int .u32]]) L]]):=by rfl) (_:e=(U.list (nth (U.i (0:Int)) L.list i.int.toNat)):=by rfl) (_:f=(St.mk [(nat_lit 6,.val .bool (U.b false))] []):=by rfl) (_:j=(St.mk [(nat_lit 6,.unk)] []):=by rfl) (_:l=(Ex.exit (nat_lit 0)):=by rfl): (exec (rH.panics pan) (aa Tryz.f50 0) 0 ⟨[(7,vi i),(1,vi n),(2,vi c),(3,.ptr 384 0)],[(384,.box [vl (.sl true EC) L])]⟩ (again PR (some ([6],[])) none pan [7,1,2,3] [384] kH μ N k))=(bif decide (i.int < h) then bif decide ((0:Int)≤i.int∧i.int < h) then bif (↑(List.length e):Int) == (0:Int) then bif Nat.blt d N then a∧bif bq n.int c.int g (List.drop (Int.toNat g) L.list) then k l j else k Ex.ret f else False else bif decide ((0:Int)≤i.int∧i.int < h) then bif (↑(List.length e):Int) != (8:Int) then k Ex.ret f else (384=384∧0=0∧[Ct.int IntKind.i64,Ct.int IntKind.i64,Ct.int IntKind.i64,Ct.int IntKind.i64,Ct.int IntKind.u32]=[.int .i64,.int .i64,.int .i64,.int .i64,.int .u32]∧U.b false=U.b false∧(0:Int)≤(0:Int)∧(0:Int)≤(8:Int)∧(0:Int)≤i.int∧i.int < h∧List.length e=nat_lit 8)∧bif ft n.int c.int i.int (0:Int) (List.drop (Int.toNat (0:Int)) e) then bif !(false || gj (List.drop (Int.toNat (0:Int)) e)) then k Ex.ret f else bif Nat.blt d N then a∧bif bq n.int c.int g (List.drop (Int.toNat g) L.list) then k l j else k Ex.ret f else False else k Ex.ret f else False else False else k l j):=by subst_vars;kernel_rfl
theorem BO (R:RF) (L n c:U) {d a e} (_:d=(L.list.length:Int):=by rfl) (_:a=(384=384∧0=0∧[Ct.int IntKind.i64,Ct.int IntKind.i64,Ct.int IntKind.i64,Ct.int IntKind.i64,Ct.int IntKind.u32]=[.int .i64,.int .i64,.int .i64,.int .i64,.int .u32]∧(0:Int)≤(0:Int)∧(0:Int)≤d):=by rfl) (_:e=(List.drop (Int.toNat (0:Int)) L.list):=by rfl): (run rH Tryz.f50 [[L],[n],[c]] R)=(bif decide (n.int < (0:Int)) then R [[U.b false]] else bif decide (n.int > (4096:Int)) then R [[U.b false]] else bif decide (c.int < (0:Int)) then R [[U.b false]] else bif decide (c.int > (6:Int)) then R [[U.b false]] else bif decide (d > (0:Int)) then bif decide ((0:Int)≤IntKind.wrap .i64 (d - (1:Int))∧IntKind.wrap .i64 (d - (1:Int)) < d) then bif (↑(List.length (U.list (nth (U.i (0:Int)) L.list (Int.toNat (IntKind.wrap .i64 (d - (1:Int))))))):Int) == (0:Int) then R [[U.b false]] else bif decide (d > (512:Int)) then R [[U.b false]] else a∧bif bq n.int c.int (0:Int) e then R [[U.b true]] else R [[U.b false]] else False else bif decide (d > (512:Int)) then R [[U.b false]] else a∧bif bq n.int c.int (0:Int) e then R [[U.b true]] else R [[U.b false]]):=by subst_vars;kernel_rfl
end Go.Mat

namespace Go.Mat
open Go Go.Den Go.Proofs
theorem ao:∀ t ks,bM t=some ks→xF PR t ks:=by
 intro t ks h
 unfold bM at h
 cases hb:Nat.beq t 46 with
 | true=>
  rw [hb] at h
  have:=Nat.eq_of_beq_eq_true hb
  subst this
  injection h with h
  subst h
  exact yO (by kernel_rfl)
 | false=>rw [hb] at h;cases h
theorem af:PR.follows .mixedOrders=true:=by kernel_rfl
end Go.Mat

namespace Go.Mat
open Go Go.Den Go.Proofs
theorem ubi {x y:Bool} (h:x=true↔y=true):([[U.b x]]:List (List U))=[[.b y]]:=by rw [Bool.eq_iff_iff.2 h]
theorem x6:bB PR 59 i3:=fun fn us hfn=>by
 have hf:PR.funcs[(59:Nat)]? = some Tryz.f59:=by kernel_rfl
 rw [hf] at hfn;cases hfn
 refine aM (C:=K0) (aB ao af .nil .nil) hf (by kernel_rfl) (aI (by kernel_rfl)) fun hok=>?_
 have hp:Tryz.f59.params.toList=[67]:=by kernel_rfl
 rw [hp] at hok
 obtain ⟨a,b,hus⟩:∃ a b,us=[[a,b]]:=by
  obtain ⟨u,rfl,h1⟩:=cT (by kernel_rfl:Cs PR 67=some (true,[.int .i64,.int .i64])) hok.1
  obtain ⟨a,b,rfl⟩:=Da h1
  exact ⟨a,b,rfl⟩
 subst hus
 refine .eq (tS _ _ _) ?_
 unfold i3
 simp only [bo,aZ]
 repeat' (first | refine bd (fun _=>?_) (fun _=>?_) | refine bi (fun _=>?_) (fun _=>?_))
 all_goals (first | (refine ubi ?_;simp [eo];omega) | (refine ubi ?_;simp_all [eo];done) | (refine ubi ?_;simp_all [eo];omega))
theorem vB:bB PR 71 i3:=fun fn us hfn=>by
 have hf:PR.funcs[(71:Nat)]? = some Tryz.f71:=by kernel_rfl
 rw [hf] at hfn;cases hfn
 refine aM (C:=K0) (aB ao af .nil .nil) hf (by kernel_rfl) (aI (by kernel_rfl)) fun hok=>?_
 have hp:Tryz.f71.params.toList=[67]:=by kernel_rfl
 rw [hp] at hok
 obtain ⟨a,b,hus⟩:∃ a b,us=[[a,b]]:=by
  obtain ⟨u,rfl,h1⟩:=cT (by kernel_rfl:Cs PR 67=some (true,[.int .i64,.int .i64])) hok.1
  obtain ⟨a,b,rfl⟩:=Da h1
  exact ⟨a,b,rfl⟩
 subst hus
 refine .eq (qE _ _ _) ?_
 unfold i3
 simp only [bo,aZ]
 repeat' (first | refine bd (fun _=>?_) (fun _=>?_) | refine bi (fun _=>?_) (fun _=>?_))
 all_goals (first | (refine ubi ?_;simp [eo];omega) | (refine ubi ?_;simp_all [eo];done) | (refine ubi ?_;simp_all [eo];omega))
theorem CA:bB PR 74 xp:=fun fn us hfn=>by
 have hf:PR.funcs[(74:Nat)]? = some Tryz.f74:=by kernel_rfl
 rw [hf] at hfn;cases hfn
 refine aM (C:=K0) (aB ao af .nil .nil) hf (by kernel_rfl) (aI (by kernel_rfl)) fun hok=>?_
 have hp:Tryz.f74.params.toList=[46]:=by kernel_rfl
 rw [hp] at hok
 obtain ⟨a,b,c,d,e,hus⟩:∃ a b c d e,us=[[a,b,c,d,e]]:=by
  obtain ⟨u,rfl,h1⟩:=cT (by kernel_rfl:Cs PR 46=some (true,[.int .i64,.int .i64,.int .i64,.int .i64,.int .u32])) hok.1
  obtain ⟨a,b,c,d,e,rfl⟩:=qy h1
  exact ⟨a,b,c,d,e,rfl⟩
 subst hus
 refine .eq (yd _ _ _ _ _ _) ?_
 unfold xp
 simp only [bo,aZ]
 have hw:2≤b.int→b.int≤65536→IntKind.wrap .i64 (65536 - b.int)=65536 - b.int:=fun h h'=>i64_in (by omega) (by omega)
 repeat' (first | refine bd (fun _=>?_) (fun _=>?_) | refine bi (fun _=>?_) (fun _=>?_))
 all_goals (first | (rw [hw (by omega) (by omega)];refine ubi ?_;simp [ea];omega) | (refine ubi ?_;simp [ea];omega))
theorem yY:bB PR 45 yU:=fun fn us hfn=>by
 have hf:PR.funcs[(45:Nat)]? = some Tryz.f45:=by kernel_rfl
 rw [hf] at hfn;cases hfn
 refine aM (C:=K0) (aB ao af .nil .nil) hf (by kernel_rfl) (aI (by kernel_rfl)) fun hok=>?_
 have hp:Tryz.f45.params.toList=[46]:=by kernel_rfl
 rw [hp] at hok
 obtain ⟨a,b,c,d,e,hus⟩:∃ a b c d e,us=[[a,b,c,d,e]]:=by
  obtain ⟨u,rfl,h1⟩:=cT (by kernel_rfl:Cs PR 46=some (true,[.int .i64,.int .i64,.int .i64,.int .i64,.int .u32])) hok.1
  obtain ⟨a,b,c,d,e,rfl⟩:=qy h1
  exact ⟨a,b,c,d,e,rfl⟩
 subst hus
 refine .eq (Bi _ _ _ _ _ _) ?_
 unfold yU
 simp only [bo,aZ]
 refine ubi ?_;simp [gg]
theorem xr:bB PR 58 qw:=fun fn us hfn=>by
 have hf:PR.funcs[(58:Nat)]? = some Tryz.f58:=by kernel_rfl
 rw [hf] at hfn;cases hfn
 refine aM (C:=Jy) (aB ao af (.cons CA .nil) .nil) hf (by kernel_rfl) (aI (by kernel_rfl)) fun hok=>?_
 have hp:Tryz.f58.params.toList=[46,3]:=by kernel_rfl
 rw [hp] at hok
 obtain ⟨a,b,c,d,e,k,hus⟩:∃ a b c d e k,us=[[a,b,c,d,e],[k]]:=by
  obtain ⟨u,u2,rfl,h1,h2⟩:=bR (by kernel_rfl:Cs PR 46=some (true,[.int .i64,.int .i64,.int .i64,.int .i64,.int .u32])) (by kernel_rfl:Cs PR 3=some (false,[.int .i64])) hok.1
  obtain ⟨a,b,c,d,e,rfl⟩:=qy h1
  obtain ⟨k,rfl⟩:=bG h2
  exact ⟨a,b,c,d,e,k,rfl⟩
 subst hus
 refine .eq (Dc _ _ _ _ _ _ _) ?_
 unfold qw
 simp only [bo,aZ]
 by_cases hk0:k.int < 0
 ·exact dt hk0 (by simp [dR,hk0])
 refine df hk0 ?_
 by_cases hk6:k.int > 6
 ·exact dt hk6 (by simp [dR,show 6 < k.int from hk6])
 refine df hk6 (df hk0 ?_)
 have hs:=tV (c:=k.int) (by omega) (by omega)
 have hp:=xG (c:=k.int) (by omega) (by omega)
 rw [hs]
 have hc:¬ (k.int < 0∨6 < k.int):=by omega
 rw [dR,if_neg hc]
 generalize (2:Int) ^ k.int.toNat=p at hp hs ⊢
 by_cases ha0:a.int=0
 ·refine bt (by simp [ha0]) ?_
  refine ubi ?_;simp [ha0]
 refine bf (by simp [ha0]) ?_
 by_cases ha1:a.int=1
 ·refine bt (by simp [ha1]) ?_
  refine ubi ?_;simp [ha1]
 refine bf (by simp [ha1]) ?_
 rw [if_neg (by omega)]
 by_cases ha2:a.int=2
 ·refine bt (by simp [ha2]) ?_
  rw [if_pos ha2]
  refine bi (fun h=>bi (fun h'=>?_) (fun h'=>?_)) (fun h=>?_)
  all_goals (simp at h;simp_all)
 refine bf (by simp [ha2]) ?_
 rw [if_neg ha2]
 by_cases ha3:a.int=3
 ·refine bt (by simp [ha3]) ?_
  rw [if_pos ha3]
  by_cases h1:c.int ≥ 1
  ·refine dt h1 ?_
   by_cases h2:c.int < p
   ·refine dt h2 ?_
    rw [i64_in (x:=c.int - 1) (by omega) (by omega),i64_in (x:=(c.int - 1) * 16) (by omega) (by omega),i64_in (x:=c.int * 16) (by omega) (by omega)]
    refine bd (fun h3=>bd (fun h4=>bd (fun h5=>?_) (fun h5=>?_)) (fun h4=>?_)) (fun h3=>?_)
    ·have:decide (1≤c.int∧c.int < p∧1≤d.int∧(c.int - 1) * 16 < d.int∧d.int≤c.int * 16)=true:=by simp;omega
     rw [this];rfl
    all_goals
     have:decide (1≤c.int∧c.int < p∧1≤d.int∧(c.int - 1) * 16 < d.int∧d.int≤c.int * 16)=false:=by simp;omega
     rw [this];rfl
   ·refine df h2 ?_
    simp [h2]
  ·refine df h1 ?_
   simp [show ¬ 1≤c.int from h1]
 refine bf (by simp [ha3]) ?_
 simp [ha3]
theorem tt:bB PR 70 qw:=fun fn us hfn=>by
 have hf:PR.funcs[(70:Nat)]? = some Tryz.f70:=by kernel_rfl
 rw [hf] at hfn;cases hfn
 refine aM (C:=K0) (aB ao af .nil .nil) hf (by kernel_rfl) (aI (by kernel_rfl)) fun hok=>?_
 have hp:Tryz.f70.params.toList=[46,3]:=by kernel_rfl
 rw [hp] at hok
 obtain ⟨a,b,c,d,e,k,hus⟩:∃ a b c d e k,us=[[a,b,c,d,e],[k]]:=by
  obtain ⟨u,u2,rfl,h1,h2⟩:=bR (by kernel_rfl:Cs PR 46=some (true,[.int .i64,.int .i64,.int .i64,.int .i64,.int .u32])) (by kernel_rfl:Cs PR 3=some (false,[.int .i64])) hok.1
  obtain ⟨a,b,c,d,e,rfl⟩:=qy h1
  obtain ⟨k,rfl⟩:=bG h2
  exact ⟨a,b,c,d,e,k,rfl⟩
 subst hus
 refine .eq (BQ _ _ _ _ _ _ _) ?_
 unfold qw
 simp only [bo,aZ]
 by_cases hk0:k.int < 0
 ·exact dt hk0 (by simp [dR,hk0])
 refine df hk0 ?_
 by_cases hk6:k.int > 6
 ·exact dt hk6 (by simp [dR,show 6 < k.int from hk6])
 refine df hk6 ?_
 have hku:IntKind.wrap .u64 k.int=k.int:=u64_in (by omega) (by omega)
 have hs:=tV (c:=k.int) (by omega) (by omega)
 have hp:=xG (c:=k.int) (by omega) (by omega)
 simp only [hku,hs]
 have hc:¬ (k.int < 0∨6 < k.int):=by omega
 rw [dR,if_neg hc]
 generalize (2:Int) ^ k.int.toNat=p at hp hs ⊢
 clear hs hku
 have w1:1≤c.int→c.int≤64→IntKind.wrap .i64 (65536 - c.int)=65536 - c.int:=fun _ _=>i64_in (by omega) (by omega)
 have w2:1≤c.int→c.int < p→IntKind.wrap .i64 (c.int * 16)=c.int * 16:=fun _ _=>i64_in (by omega) (by omega)
 have w3:1≤c.int→c.int < p→IntKind.wrap .i64 (IntKind.wrap .i64 (c.int - 1) * 16)=(c.int - 1) * 16:=fun _ _=>by rw [i64_in (x:=c.int - 1) (by omega) (by omega),i64_in (by omega) (by omega)]
 have key:a.int=0∨a.int=1∨a.int=2∨a.int=3∨(a.int≠0∧a.int≠1∧a.int≠2∧a.int≠3):=by omega
 have hd:∀ {q:Prop} [Decidable q] {x y:Prop},(bif decide q then x else y)=if q then x else y:=fun {q} _ {x y}=>by by_cases h:q<;>simp [h]
 have hb:∀ {m n:Int} {x y:Prop},(bif m == n then x else y)=if m=n then x else y:=fun {m n x y}=>by by_cases h:m=n<;>simp [h]
 simp only [hd,hb]
 rcases key with ha | ha | ha | ha | ⟨ha,ha1,ha2,ha3⟩
 ·simp only [ha,↓reduceIte,Int.reduceEq,or_false,or_true,true_or,or_self]
  (repeat' split)<;>(refine ubi ?_;simp<;>omega)
 ·simp only [ha,↓reduceIte,Int.reduceEq,or_false,or_true,true_or,or_self]
  (repeat' split)<;>(refine ubi ?_;simp<;>omega)
 ·simp only [ha,↓reduceIte,Int.reduceEq,or_false,or_true,true_or,or_self,if_neg hk0]
  by_cases h1:c.int=p
  ·simp only [if_pos h1,w1 (by omega) (by omega)]
   (repeat' split)<;>(refine ubi ?_;simp [ea]<;>omega)
  ·simp only [if_neg h1]
   (repeat' split)<;>(refine ubi ?_;simp [ea]<;>omega)
 ·simp only [ha,↓reduceIte,Int.reduceEq,or_false,or_true,true_or,or_self,if_neg hk0]
  by_cases h1:1≤c.int∧c.int < p
  ·simp only [w1 h1.1 (by omega),w2 h1.1 h1.2,w3 h1.1 h1.2]
   (repeat' split)<;>(refine ubi ?_;simp [ea]<;>omega)
  ·by_cases g1:c.int ≥ 1
   ·simp only [if_pos g1,if_neg (fun g2=>h1 ⟨g1,g2⟩)]
    (repeat' split)<;>(refine ubi ?_;simp [ea]<;>omega)
   ·simp only [if_neg g1]
    (repeat' split)<;>(refine ubi ?_;simp [ea]<;>omega)
 ·simp only [if_neg ha,if_neg ha1,if_neg ha2,if_neg ha3]
  rw [if_neg (by omega)]
theorem yo:aE tk 0 (aa Tryz.f38 0):=by
 refine al (F:=kI) (ts:=[8,7,6,3]) (os:=[]) rfl (fun svs _=>match svs with | .val _ i :: .val _ m :: _=>(m.int - i.int).toNat | _=>0) ?_
 intro pan svs l k ho1 ho2 h
 unfold kI at h
 split at h
 ·rename_i i m L last
  obtain ⟨⟨hm,h0,hi⟩,hk⟩:=h
  have hL:L.list.length≤maxLen:=ho1.2.2.1.1
  refine .eq (ue pan _ _ k i m L last) ?_
  simp only [aD]
  refine bd (fun hlt=>dt ⟨h0,by omega⟩ ?_) (fun hlt=>?_)
  ·rw [aN (by omega),fS] at hk
   simp only [U.at,e0,e1] at hk
   have hw:IntKind.wrap .i64 (i.int + 1)=i.int + 1:=i64_in (by omega) (by unfold maxLen at hL;omega)
   have hn:(i.int + 1).toNat=i.int.toNat + 1:=by omega
   simp only [hw,hn]
   refine bi (fun h1=>?_) (fun h1=>bd (fun h2=>?_) (fun h2=>blt (by simp;omega) ⟨⟨hm,by omega,by omega⟩,?_⟩))
   ·rw [nt h1] at hk;exact hk
   ·rw [nf h1,decide_eq_false (by omega)] at hk;exact hk
   ·rw [nf h1,decide_eq_true (by omega)] at hk;exact hk
  ·rw [List.drop_of_length_le (by omega)] at hk;exact hk
 ·exact h.elim
theorem wj:aE oW 0 (aa Tryz.f53 0):=by
 refine al (F:=jl) (ts:=[3,0]) (os:=[]) rfl (fun svs _=>match svs with | .val _ i :: .val _ L :: _=>(L.list.length - i.int).toNat | _=>0) ?_
 intro pan svs l k ho1 ho2 h
 unfold jl at h
 split at h
 ·rename_i i L
  obtain ⟨⟨h0,hi⟩,hk⟩:=h
  have hL:L.list.length≤maxLen:=ho1.2.1.1
  refine .eq (th pan _ _ k i L) ?_
  simp only [aD,bW]
  refine bd (fun hlt=>dt ⟨h0,hlt⟩ ?_) (fun hlt=>?_)
  ·rw [show L.list.length - i.int.toNat=(L.list.length - (i.int.toNat + 1)) + 1 by omega,ik] at hk
   simp only [U.at,e0,e1] at hk
   have hw:IntKind.wrap .i64 (i.int + 1)=i.int + 1:=i64_in (by omega) (by unfold maxLen at hL;omega)
   have hn:(i.int + 1).toNat=i.int.toNat + 1:=by omega
   simp only [hw,hn]
   refine bi (fun h1=>?_) (fun h1=>bd (fun h2=>?_) (fun h2=>blt (by simp;omega) ⟨⟨by omega,by omega⟩,?_⟩))
   ·rw [nt h1] at hk;exact hk
   ·have hw1:IntKind.wrap .i64 (i.int - 1)=i.int - 1:=i64_in (by omega) (by unfold maxLen at hL;omega)
    have hn1:(i.int - 1).toNat=i.int.toNat - 1:=by omega
    simp only [hw1,hn1,Nat.zero_add,Nat.add_zero]
    rw [nf h1,decide_eq_false (p:=i.int.toNat=0) (by omega),Bool.false_or] at hk
    refine dt ⟨h0,hlt⟩ (dt ⟨by omega,by omega⟩ (bd (fun h3=>?_) (fun h3=>blt (by simp;omega) ⟨⟨by omega,by omega⟩,?_⟩)))
    ·rw [decide_eq_false (by omega)] at hk;exact hk
    ·rw [decide_eq_true (by omega)] at hk;exact hk
   ·rw [nf h1,decide_eq_true (p:=i.int.toNat=0) (by omega),Bool.true_or] at hk;exact hk
  ·rw [show L.list.length - i.int.toNat=0 by omega] at hk;exact hk
 ·exact h.elim
theorem EE:bB PR 38 nr:=fun fn us hfn=>by
 have hf:PR.funcs[(38:Nat)]? = some Tryz.f38:=by kernel_rfl
 rw [hf] at hfn;cases hfn
 refine aM (C:=tk) (aB ao af (.cons x6 .nil) .nil) hf (by kernel_rfl) (aW (by kernel_rfl) yo) fun hok=>?_
 have hp:Tryz.f38.params.toList=[62]:=by kernel_rfl
 rw [hp] at hok
 obtain ⟨L,hus⟩:∃ L,us=[[L]]:=by
  obtain ⟨u,rfl,h1⟩:=cT (by kernel_rfl:Cs PR 62=some (false,[.sl true [.int .i64,.int .i64]])) hok.1
  obtain ⟨L,rfl⟩:=bG h1
  exact ⟨L,rfl⟩
 subst hus
 refine .eq (xo _ _) ?_
 unfold nr
 simp only [bo,aZ]
 refine ⟨⟨by trivial,by omega,by omega⟩,?_⟩
 simp only [Int.toNat_zero,List.drop_zero]
 refine bi (fun h=>?_) (fun h=>?_)<;>rw [h]
theorem BV:bB PR 53 nr:=fun fn us hfn=>by
 have hf:PR.funcs[(53:Nat)]? = some Tryz.f53:=by kernel_rfl
 rw [hf] at hfn;cases hfn
 refine aM (C:=oW) (aB ao af (.cons vB .nil) .nil) hf (by kernel_rfl) (aW (by kernel_rfl) wj) fun hok=>?_
 have hp:Tryz.f53.params.toList=[62]:=by kernel_rfl
 rw [hp] at hok
 obtain ⟨L,hus⟩:∃ L,us=[[L]]:=by
  obtain ⟨u,rfl,h1⟩:=cT (by kernel_rfl:Cs PR 62=some (false,[.sl true [.int .i64,.int .i64]])) hok.1
  obtain ⟨L,rfl⟩:=bG h1
  exact ⟨L,rfl⟩
 subst hus
 refine .eq (vX _ _) ?_
 unfold nr
 simp only [bo,aZ]
 refine ⟨⟨by omega,by omega⟩,?_⟩
 have:=pC L.list.length L.list 0 (by omega)
 simp only [if_true,List.drop_zero] at this
 simp only [Int.toNat_zero,Nat.sub_zero,this]
 refine bi (fun h=>?_) (fun h=>?_)<;>rw [h]
theorem pU {l:List UInt8} {i:Nat} (h:i < l.length):aO (l.drop i)=(fW ((l.getD i 0).toNat:Int) && aO (l.drop (i + 1))):=by
 rw [List.drop_eq_getElem_cons h,List.getD_eq_getElem?_getD,List.getElem?_eq_getElem h]
 rfl
theorem Aw:aE y9 0 (aa Tryz.f36 0):=by
 refine al (F:=mu) (ts:=[14,13,0]) (os:=[]) rfl (fun svs _=>match svs with | .val _ i :: .val _ m :: _=>(m.int - i.int).toNat | _=>0) ?_
 intro pan svs l k ho1 ho2 h
 unfold mu at h
 split at h
 ·rename_i i m s
  obtain ⟨⟨hm,h0,hi⟩,hk⟩:=h
  have hL:s.str.size≤maxLen:=ho1.2.2.1
  have hsz:s.str.data.toList.length=s.str.size:=om _
  refine .eq (yn pan _ _ k i m s) ?_
  refine bd (fun hlt=>dt ⟨h0,by omega⟩ ?_) (fun hlt=>?_)
  ·rw [pU (by omega)] at hk
   have hw:IntKind.wrap .i64 (i.int + 1)=i.int + 1:=i64_in (by omega) (by unfold maxLen at hL;omega)
   have hn:(i.int + 1).toNat=i.int.toNat + 1:=by omega
   simp only [hw,hn]
   generalize hc:(((s.str.data.toList.getD i.int.toNat 0).toNat:Nat):Int)=c at hk ⊢
   have hlt':(m.int - (i.int + 1)).toNat < (m.int - i.int).toNat:=by omega
   have good:fW c=true→(bif aO (s.str.data.toList.drop (i.int.toNat + 1)) then k (.exit 0) ⟨[(2,.unk)],[]⟩ else k .ret ⟨[(2,vb (.b false))],[]⟩):=fun h=>by rw [h,Bool.true_and] at hk;exact hk
   have bad:fW c=false→k .ret ⟨[(2,vb (.b false))],[]⟩:=fun h=>by rw [h,Bool.false_and] at hk;exact hk
   clear hk
   repeat' (first | exact blt hlt' ⟨⟨by assumption,by omega,by omega⟩,good (by simp_all [fW]<;>omega)⟩ | refine bd (fun _=>?_) (fun _=>?_) | refine bi (fun _=>?_) (fun _=>?_))
   all_goals exact bad (by simp_all [fW]<;>omega)
  ·rw [List.drop_of_length_le (by omega)] at hk;exact hk
 ·exact h.elim
theorem xM:aE sT 0 (aa Tryz.f49 0):=by
 refine al (F:=kG) (ts:=[3,0]) (os:=[]) rfl (fun svs _=>match svs with | .val _ i :: .val _ s :: _=>(s.str.size - i.int).toNat | _=>0) ?_
 intro pan svs l k ho1 ho2 h
 unfold kG at h
 split at h
 ·rename_i i s
  obtain ⟨⟨h0,hi⟩,hk⟩:=h
  have hL:s.str.size≤maxLen:=ho1.2.1
  have hsz:s.str.data.toList.length=s.str.size:=om _
  refine .eq (ur pan _ _ k i s) ?_
  refine bd (fun hlt=>dt ⟨h0,by omega⟩ ?_) (fun hlt=>?_)
  ·rw [pU (by omega)] at hk
   have hw:IntKind.wrap .i64 (i.int + 1)=i.int + 1:=i64_in (by omega) (by unfold maxLen at hL;omega)
   have hn:(i.int + 1).toNat=i.int.toNat + 1:=by omega
   simp only [hw,hn]
   generalize hc:(((s.str.data.toList.getD i.int.toNat 0).toNat:Nat):Int)=c at hk ⊢
   have hlt':(s.str.size - (i.int + 1)).toNat < (s.str.size - i.int).toNat:=by omega
   have good:fW c=true→(bif aO (s.str.data.toList.drop (i.int.toNat + 1)) then k (.exit 0) ⟨[(2,.unk)],[]⟩ else k .ret ⟨[(2,vb (.b false))],[]⟩):=fun h=>by rw [h,Bool.true_and] at hk;exact hk
   have bad:fW c=false→k .ret ⟨[(2,vb (.b false))],[]⟩:=fun h=>by rw [h,Bool.false_and] at hk;exact hk
   clear hk
   repeat' (first | exact blt hlt' ⟨⟨by omega,by omega⟩,good (by simp_all [fW]<;>omega)⟩ | refine bd (fun _=>?_) (fun _=>?_) | refine bi (fun _=>?_) (fun _=>?_))
   all_goals exact bad (by simp_all [fW]<;>omega)
  ·rw [List.drop_of_length_le (by omega)] at hk;exact hk
 ·exact h.elim
theorem yB:bB PR 36 qi:=fun fn us hfn=>by
 have hf:PR.funcs[(36:Nat)]? = some Tryz.f36:=by kernel_rfl
 rw [hf] at hfn;cases hfn
 refine aM (C:=y9) (aB ao af .nil .nil) hf (by kernel_rfl) (aW (by kernel_rfl) Aw) fun hok=>?_
 have hp:Tryz.f36.params.toList=[9]:=by kernel_rfl
 rw [hp] at hok
 obtain ⟨s,hus⟩:∃ s,us=[[s]]:=by
  obtain ⟨u,rfl,h1⟩:=cT (by kernel_rfl:Cs PR 9=some (false,[.str])) hok.1
  obtain ⟨s,rfl⟩:=bG h1
  exact ⟨s,rfl⟩
 subst hus
 refine .eq (BL _ _) ?_
 unfold qi
 simp only [bo,aZ]
 have e1:(ByteArray.toList s.str == ByteArray.toList { data:=#[] })=(s.str.data.toList == []):=by rw [ByteArray.toList_eq,ByteArray.toList_eq]
 have e2:(s.str.size:Int)=s.str.data.toList.length:=by rw [om]
 rw [e1]
 refine bi (fun h=>?_) (fun h=>?_)
 ·rw [fG,h];rfl
 ·refine bd (fun h2=>?_) (fun h2=>?_)
  ·rw [fG,h,decide_eq_false (by omega)];rfl
  ·refine ⟨⟨by trivial,by omega,by omega⟩,?_⟩
   simp only [Int.toNat_zero,List.drop_zero]
   refine bi (fun h3=>?_) (fun h3=>?_)<;>(rw [fG,h,decide_eq_true (by omega),h3];rfl)
theorem Es:bB PR 49 qi:=fun fn us hfn=>by
 have hf:PR.funcs[(49:Nat)]? = some Tryz.f49:=by kernel_rfl
 rw [hf] at hfn;cases hfn
 refine aM (C:=sT) (aB ao af .nil .nil) hf (by kernel_rfl) (aW (by kernel_rfl) xM) fun hok=>?_
 have hp:Tryz.f49.params.toList=[9]:=by kernel_rfl
 rw [hp] at hok
 obtain ⟨s,hus⟩:∃ s,us=[[s]]:=by
  obtain ⟨u,rfl,h1⟩:=cT (by kernel_rfl:Cs PR 9=some (false,[.str])) hok.1
  obtain ⟨s,rfl⟩:=bG h1
  exact ⟨s,rfl⟩
 subst hus
 refine .eq (xe _ _) ?_
 unfold qi
 simp only [bo,aZ]
 have e1:(ByteArray.toList s.str == ByteArray.toList { data:=#[] })=(s.str.data.toList == []):=by rw [ByteArray.toList_eq,ByteArray.toList_eq]
 have e2:(s.str.size:Int)=s.str.data.toList.length:=by rw [om]
 rw [e1]
 refine bi (fun h=>?_) (fun h=>?_)
 ·rw [fG,h];rfl
 ·refine bd (fun h2=>?_) (fun h2=>?_)
  ·rw [fG,h,decide_eq_false (by omega)];rfl
  ·refine ⟨⟨by omega,by omega⟩,?_⟩
   simp only [Int.toNat_zero,List.drop_zero]
   refine bi (fun h3=>?_) (fun h3=>?_)<;>(rw [fG,h,decide_eq_true (by omega),h3];rfl)
end Go.Mat
