/- A part of the proof of this: the law ChainChecks. Conditions: none. Joined of AmY, AmZ, AmZa, AmZb, AmSa, AmSb, AmSc, AmSd, AmZe, M18AG. -/
import Derived.Test.YtllgedaeidbenaaGreatC2
import Derived.RangeFuncRecord
import Derived.JoinedCond
import Derived.JoinedOf
namespace Go.AM
open Go
section
variable {P:Program} {θ θ':Th} {f:Nat} {fn:Func} {body:Code} {kd:Bool} {rd:Option Nat} {df:List AD} {a a':Act} {td:List T} {todo:List Item}
variable {w0 w:World} {cs0:List Frame} {f0:F0} {κ:ASt→R} {tb:Tb} {h:H} {nx:Nat} {cs:List AFr} {Fs:List Frame} {q pd:List (Nat × AO)} {en:Env}
variable {ops:Array Oper} {i:Nat} {rest:List Nat} {o:Oper}
theorem trH_call {dr:Bool} {op:Op} {f:Nat} {xs:List X} (h:trH P dr op = .call f xs):∃ c,op = .call c∧c.callee = .value (.func f)∧trXs c.args=some xs:=by
 unfold trH at h
 split at h
 ·rename_i c
  split at h
  ·cases h
  ·rename_i g xs' hc hx
   split at h
   ·injection h with h1 h2;subst h1 h2;exact ⟨c,rfl,hc,hx⟩
   ·cases h
  ·split at h<;>cases h
  ·split at h<;>cases h
  ·cases h
 ·split at h
  ·split at h<;>cases h
  ·split at h<;>cases h
  ·cases h
 ·cases h
theorem trH_calv {dr:Bool} {op:Op} {x:X} {xs:List X} (h:trH P dr op = .calv x xs):∃ c t,op = .call c∧c.callee = .value (.tmp t)∧t < 512∧x = .t t∧trXs c.args=some xs:=by
 unfold trH at h
 split at h
 ·rename_i c
  split at h
  ·cases h
  ·split at h<;>cases h
  ·rename_i t xs' hc hx
   split at h
   ·rename_i ht;injection h with h1 h2;subst h1 h2;exact ⟨c,t,rfl,hc,ht,rfl,hx⟩
   ·cases h
  ·split at h<;>cases h
  ·cases h
 ·split at h
  ·split at h<;>cases h
  ·split at h<;>cases h
  ·cases h
 ·cases h
theorem trH_inv {dr:Bool} {op:Op} {tbl:List (Nat × Nat)} {x:X} {xs:List X} (h:trH P dr op = .inv tbl x xs):∃ c Y name,op = .call c∧c.callee = .invoke Y name∧trX Y=some x∧trXs c.args=some xs∧tbl=mtab P name:=by
 unfold trH at h
 split at h
 ·rename_i c
  split at h
  ·cases h
  ·split at h<;>cases h
  ·split at h<;>cases h
  ·rename_i Y name xs' hc hx
   split at h
   ·rename_i y hy
    injection h with h1 h2 h3;subst h1 h2 h3;exact ⟨c,Y,name,rfl,hc,hy,hx,rfl⟩
   ·cases h
  ·cases h
 ·split at h
  ·split at h<;>cases h
  ·split at h<;>cases h
  ·cases h
 ·cases h
theorem trH_dfr {dr:Bool} {op:Op} {x:X} {xs:List X} (h:trH P dr op = .dfr x xs):∃ c,op = .defer c∧trXs c.args=some xs∧((∃ f,c.callee = .value (.func f)∧x = .c (.fn f []))∨∃ t,c.callee = .value (.tmp t)∧t < 512∧x = .t t):=by
 unfold trH at h
 split at h
 ·split at h
  ·cases h
  ·split at h<;>cases h
  ·split at h<;>cases h
  ·split at h<;>cases h
  ·cases h
 ·rename_i c
  split at h
  ·rename_i g xs' hc hx
   split at h
   ·injection h with h1 h2;subst h1 h2;exact ⟨c,rfl,hx,.inl ⟨g,hc,rfl⟩⟩
   ·cases h
  ·rename_i t xs' hc hx
   split at h
   ·rename_i ht;injection h with h1 h2;subst h1 h2;exact ⟨c,rfl,hx,.inr ⟨t,hc,ht,rfl⟩⟩
   ·cases h
  ·cases h
 ·cases h
theorem trH_rcv {dr:Bool} {op:Op} (h:trH P dr op = .rcv):∃ c,op = .call c∧c.callee = .builtin .recover:=by
 unfold trH at h
 split at h
 ·rename_i c
  split at h
  ·rename_i hc _;exact ⟨c,rfl,hc⟩
  ·split at h<;>cases h
  ·split at h<;>cases h
  ·split at h<;>cases h
  ·cases h
 ·split at h
  ·split at h<;>cases h
  ·split at h<;>cases h
  ·cases h
 ·cases h
theorem mtab_ok {name:String} {t f:Nat} (h:(t,f) ∈ mtab P name):∃ i m pr,P.info? t=some i∧i.methods.find? (·.name == name)=some m∧m.func=some (f,pr)∧m.path.isEmpty=true∧mrOk P t pr=true:=by
 unfold mtab at h
 rw [List.mem_filterMap] at h
 obtain ⟨t',_,h⟩:=h
 split at h
 ·rename_i i hi
  split at h
  ·rename_i m hm
   split at h
   ·rename_i f' pr hf
    split at h
    ·rename_i hb
     simp only [Bool.and_eq_true] at hb
     injection h with h
     injection h with h1 h2
     subst h1 h2
     exact ⟨i,m,pr,hi,hm,hf,hb.1.1,hb.2⟩
    ·cases h
   ·cases h
  ·cases h
 ·cases h
theorem run_method {name:String} {t f:Nat} (h:(t,f) ∈ mtab P name) (v:Value) (w:World):(method (P.types.size + Made.depth) t v name).run P w = .ok (f,v) w:=by
 obtain ⟨i,m,pr,h1,h2,h3,h4,h5⟩:=mtab_ok h
 have hp:m.path.toList=[]:=by simpa using h4
 show (method ((P.types.size + 99) + 1) t v name).run P w=_
 generalize P.types.size + 99=n
 unfold mrOk at h5
 cases hu:P.underlying t with
 | none=>rw [hu] at h5;cases h5
 | some d=>
  rw [hu] at h5
  have hr:∀ wr,(receiverAt t (.val v) pr wr).run P w = .ok v w:=by
   intro wr
   simp only [receiverAt,Sem.run_bind,run_underlying hu,Result.andThen]
   cases d<;>first
    | (have h5:pr=true:=h5
       subst h5
       rfl)
    | (have h5:(!pr)=true:=h5
       have h5:pr=false:=by simpa using h5
       subst h5
       rfl)
  simp only [method,Sem.run_bind,typeInfo,h1,h2,Result.andThen,Sem.run_pure,hp,follow,h3,hr,run_program]
theorem invK_true {tbl:List (Nat × Nat)} {v:AV} {vs:List AV} {cs:List AFr} {κ:ASt→R} (e:invK tb tbl v vs cs h nx κ=true):∃ t v' f,v = .ifc t v'∧(t,f) ∈ tbl∧enterK tb f (v' :: vs) false cs h nx κ=true:=by
 cases v<;>first | (cases e;done) | skip
 rename_i t v'
 have e:fndF t (fun f=>enterK tb f (v' :: vs) false cs h nx κ) tbl=true:=e
 refine ⟨t,v',?_⟩
 have go:∀ tbl,fndF t (fun f=>enterK tb f (v' :: vs) false cs h nx κ) tbl=true→∃ f,(t,f) ∈ tbl∧enterK tb f (v' :: vs) false cs h nx κ=true:=by
  intro tbl
  induction tbl with
  | nil=>intro e;cases e
  | cons p tbl ih=>
   intro e
   obtain ⟨t',f⟩:=p
   have e:br (Nat.beq t' t) (enterK tb f (v' :: vs) false cs h nx κ) (fndF t (fun f=>enterK tb f (v' :: vs) false cs h nx κ) tbl)=true:=e
   rcases br_true e with ⟨h1,h2⟩ | ⟨h1,h2⟩
   ·have h1:=Nat.eq_of_beq_eq_true h1
    subst h1
    exact ⟨f,List.mem_cons_self ..,h2⟩
   ·obtain ⟨f,h3,h4⟩:=ih h2
    exact ⟨f,List.mem_cons_of_mem _ h3,h4⟩
 obtain ⟨f,h1,h2⟩:=go tbl e
 exact ⟨f,rfl,h1,h2⟩
theorem args_ok {args:Array Operand} {xs:List X} (hx:trXs args=some xs) {en:Env} {κ:List AV→R} (e:dXs xs en κ=true) (hE:ER θ en a.tmps):∃ vs,κ vs=true∧Oks θ vs∧args.map a.eval=(toVs θ vs).toArray:=by
 obtain ⟨vs,h1,_,h3⟩:=xs_ok hx en
 rw [h1] at e
 obtain ⟨h4,h5⟩:=h3 θ a hE
 refine ⟨vs,e,h4,?_⟩
 apply Array.ext'
 simpa using h5
theorem no_defer {op:Op} {c:Call} (h:op = .call c):∀ c',op≠.defer c':=by
 intro c' h';rw [h] at h';cases h'
theorem no_recover (hC:CsR P θ f0 f kd cs Fs pd) {b:Frame} (hb:b.kind=if kd then .deferred else .normal) {k:List Item}:tryRecover (b.atR a k) (Fs ++ cs0)=none:=by
 have hk:(b.atR a k).kind=if kd then .deferred else .normal:=hb
 unfold tryRecover
 rw [hk]
 cases kd with
 | false=>rfl
 | true=>
  cases cs with
  | nil=>exact absurd hC.2.1 (by simp)
  | cons c cs=>
   obtain ⟨en,td,fr⟩:=c
   obtain ⟨F,Fs',q,pd',rfl,_,hw,_⟩:=hC
   simp only [List.cons_append,if_true,hw.1]
theorem arg_ok {x:X} {X:Operand} (hx:trX X=some x) {en:Env} {κ:AV→R} (e:dX x en κ=true) (hE:ER θ en a.tmps):∃ v,κ v=true∧VR θ v (a.eval X):=by
 obtain ⟨v,h1,h2⟩:=x_ok hx en
 rw [h1] at e
 exact ⟨v,e,h2 θ a hE⟩
theorem op_plain {nt:Nat} {dr:Bool} {b:Frame} {k:List Item} {cs':List Frame} {g:Gd} {d:Ds} {I:I} (ho:ops[i]? = some o) (hg:trG ops o=some g) (hd:trD nt o=some d) (hI:trH P dr o.op = .op I) {K:Env→H→Nat→R}
  (e:dG g en (dI I en h nx fun v h nx=>K (putE d v en) h nx) (K (putE d undef en) h nx)=true) (hR:HR P w0 pd θ h nx w) (hE:ER θ en a.tmps) (hs:nt≤a.tmps.size) (hn:nt≤512) :
  ∃ θ' h' nx' w' en' a',θ.le θ'∧Steps P (lone (b.atR a (.inRegion ops (i :: rest) :: k)) cs' w) (lone (b.atR a' (.inRegion ops rest :: k)) cs' w')∧HR P w0 pd θ' h' nx' w'∧ER θ' en' a'.tmps∧
   a'.tmps.size=a.tmps.size∧a'.defers=a.defers∧K en' h' nx' = true:=by
 rcases gd_ok hg hE e with ⟨_,e1,hw⟩ | ⟨_,e1,hw⟩
 ·obtain ⟨v,u,θ',h',nx',w',n,k1,k2,k3,k4,k5,k6⟩:=(cls_of hI).op en h nx _ w0 pd θ a w hE hR e1
  exact ⟨θ',h',nx',w',_,_,k1,step_value ho hw k5 k6,k3,er_put hd (hE.mono k1) hs hn k2,put_size,put_defers,k4⟩
 ·exact ⟨θ,h,nx,w,_,_,.refl θ,step_unwanted ho hw,hR,er_put hd hE hs hn (vr_undef θ),put_size,put_defers,e1⟩
theorem act_ok {dr:Bool} (ht:TbOk tb P) (hx:Fx P θ f fn body kd rd df a td todo) (hR:HR P w0 (q ++ pd) θ h nx w) (hC:CsR P θ f0 f kd cs Fs pd) (hE:ER θ en a.tmps) {π:List Nat} {o:Oper} {g:Gd} {d:Ds} {r:DR} {hh:DH}
  (ho:ops[i]? = some o) (hg:trG ops o=some g) (hd:trD fn.ntmps o=some d) (hH:trH P dr o.op=hh) (hact:∀ I,hh≠.op I) {enA:Env} (hag:Agree (rdH hh ++ rdG (some g)) enA en)
  (e:rgK tb (dR (putH g d hh r)) enA td (.mk f df kd rd) cs h nx κ=true)
  (hnext:∀ θ' h' v u df' a',θ.le θ'→VR θ' v u→a'.tmps=(a.put o.dst u).tmps→Fx P θ' f fn body kd rd df' a' td todo→FR P θ' h' q (putE d v enA) (.rg (dR r) :: td) (.mk f df' kd rd) ((bF f kd (rd.map θ'.blk)).atR a' (.inRegion ops π :: todo))) :
  Goal P w0 cs0 f0 κ (lone ((bF f kd (rd.map θ.blk)).atR a (.inRegion ops (i :: π) :: todo)) (Fs ++ cs0) w):=by
 have hgd:∀ A B,dG g enA A B=dG g en A B:=dG_agree hag.right
 have on:∀ {θ':Th} {v:AV} {u:Value} {df':List AD} {a':Act} {w':World},θ.le θ'→VR θ' v u→a'.tmps=(a.put o.dst u).tmps→Fx P θ' f fn body kd rd df' a' td todo→HR P w0 (q ++ pd) θ' h nx w'→
   κ (.mk (putE d v enA) (.rg (dR r) :: td) (.mk f df' kd rd) cs h nx)=true→Goal P w0 cs0 f0 κ (lone ((bF f kd (rd.map θ.blk)).atR a' (.inRegion ops π :: todo)) (Fs ++ cs0) w'):=by
  intro θ' v u df' a' w' hle hv ha hx' hR' e'
  have:=hnext θ' h v u df' a' hle hv ha hx'
  rw [hx.rdm hle] at this
  exact ⟨_,_,.refl P _,.mk hR' this (hC.mono hle),e'⟩
 have unw:∀ {e':κ (.mk (putE d undef enA) (.rg (dR r) :: td) (.mk f df kd rd) cs h nx)=true},Region.wanted o (yielded ops a.tmps)=false→Goal P w0 cs0 f0 κ (lone ((bF f kd (rd.map θ.blk)).atR a (.inRegion ops (i :: π) :: todo)) (Fs ++ cs0) w):=by
  intro e' hw
  exact (on (.refl θ) (vr_undef θ) rfl (hx.act put_size put_defers) hR e').of_steps (step_unwanted ho hw)
 have hwait:WaitR P θ q enA (.wt (dD d) (dR r) :: td) (.mk f df kd rd) ((bF f kd (rd.map θ.blk)).atR a (.inRegion ops (i :: π) :: todo)) false:=by
  intro θ' h' v u hle hv
  refine ⟨d,rfl,?_⟩
  have:=hnext θ' h' v u df (a.put o.dst u) hle hv rfl ((hx.mono hle).act put_size put_defers)
  rw [hx.rdm hle] at this
  rw [Frame.finish_atR,ho]
  exact this
 have hCw:∀ g,CsR P θ f0 g false (.mk enA (.wt (dD d) (dR r) :: td) (.mk f df kd rd) :: cs) ((bF f kd (rd.map θ.blk)).atR a (.inRegion ops (i :: π) :: todo) :: Fs) (q ++ pd):=fun _=>⟨_,_,q,pd,rfl,rfl,hwait,hC⟩
 cases hh with
 | op I=>exact absurd rfl (hact I)
 | bad=>
  have e:rgK tb (dR (.op .n .n .bad .nil)) enA td (.mk f df kd rd) cs h nx κ=true:=e
  rw [rgK_op] at e
  cases e
 | call g' xs=>
  obtain ⟨c,hop,hc,hxs⟩:=trH_call hH
  have e:rgK tb (dR (.call g d g' xs r)) enA td (.mk f df kd rd) cs h nx κ=true:=e
  rw [rgK_call,hgd] at e
  rcases gd_ok hg hE e with ⟨_,e1,hw⟩ | ⟨_,e1,hw⟩
  ·rw [dXs_agree hag.left] at e1
   obtain ⟨vs,e2,h1,h2⟩:=args_ok hxs e1 hE
   obtain ⟨fn',body',hf',hgo⟩:=enter_ok ht e2 h1 hR (hCw _)
   refine hgo.of_steps (step_enter ho hw (no_defer hop) ?_)
   simp only [execOp,hop,resolve,hc,h2,Act.eval,Deferred.ofValue,Sem.run_bind,Sem.run_pure,Result.andThen,invoke]
   rw [run_callFunc hf']
   simp
  ·exact unw (e':=e1) hw
 | calv x xs=>
  obtain ⟨c,t,hop,hc,htt,rfl,hxs⟩:=trH_calv hH
  have e:rgK tb (dR (.calv g d (.t t) xs r)) enA td (.mk f df kd rd) cs h nx κ=true:=e
  rw [rgK_calv,hgd] at e
  rcases gd_ok hg hE e with ⟨_,e1,hw⟩ | ⟨_,e1,hw⟩
  ·have hag1:Agree (rdX (.t t)) enA en:=hag.left.left
   have hag2:Agree (xs.flatMap rdX) enA en:=hag.left.right
   rw [dX_agree hag1] at e1
   have hX:trX (.tmp t)=some (.t t):=by simp [trX,htt]
   obtain ⟨v,e2,h1⟩:=arg_ok hX e1 hE
   rw [dXs_agree hag2] at e2
   obtain ⟨vs,e3,h2,h3⟩:=args_ok hxs e2 hE
   obtain ⟨d',n,k1,k2,k3⟩:=callv_ok ht e3 h1 h2 hR hCw
   have hrun:(execOp a.eval o).run P w = .ok n w:=by
    simp only [execOp,hop,resolve,hc,h3,Sem.run_bind,k1,Result.andThen,k2]
   rcases k3 with ⟨g2,args,rfl,hgo⟩ | ⟨l,g2,tmps,x,y,rfl,hgo⟩
   ·exact hgo.of_steps (step_enter ho hw (no_defer hop) hrun)
   ·exact hgo.of_steps (step_round ho hw (no_defer hop) hrun)
  ·exact unw (e':=e1) hw
 | inv tbl x xs=>
  obtain ⟨c,Y,name,hop,hc,hY,hxs,rfl⟩:=trH_inv hH
  have e:rgK tb (dR (.inv g d (mtab P name) x xs r)) enA td (.mk f df kd rd) cs h nx κ=true:=e
  rw [rgK_inv,hgd] at e
  rcases gd_ok hg hE e with ⟨_,e1,hw⟩ | ⟨_,e1,hw⟩
  ·have hag1:Agree (rdX x) enA en:=hag.left.left
   have hag2:Agree (xs.flatMap rdX) enA en:=hag.left.right
   rw [dX_agree hag1] at e1
   obtain ⟨v,e2,h1⟩:=arg_ok hY e1 hE
   rw [dXs_agree hag2] at e2
   obtain ⟨vs,e3,h2,h3⟩:=args_ok hxs e2 hE
   obtain ⟨t',v',f',rfl,hm,e4⟩:=invK_true e3
   have hv':Ok θ v':=h1.1
   obtain ⟨fn',body',hf',hgo⟩:=enter_ok ht e4 (show Oks θ (v' :: vs) from ⟨hv',h2⟩) hR (hCw _)
   refine hgo.of_steps (step_enter ho hw (no_defer hop) ?_)
   have hX:a.eval Y = .iface t' (toV θ v'):=h1.2
   have hcons:(#[Value.iface t' (toV θ v')] ++ (toVs θ vs).toArray)[0]? = some (.iface t' (toV θ v')):=by simp
   have htail:(#[Value.iface t' (toV θ v')] ++ (toVs θ vs).toArray).extract 1 (#[Value.iface t' (toV θ v')] ++ (toVs θ vs).toArray).size=(toVs θ vs).toArray:=by
    apply Array.ext'
    simp
    rw [List.take_of_length_le (by simp)]
   have hall:#[toV θ v'] ++ (toVs θ vs).toArray=(toVs θ (v' :: vs)).toArray:=by
    apply Array.ext'
    simp [toVs]
   simp only [execOp,hop,resolve,hc,h3,hX,Sem.run_bind,Sem.run_pure,Result.andThen,invoke,hcons,htail,callMethod,run_program,run_method hm,hall]
   rw [run_callFunc hf']
  ·exact unw (e':=e1) hw
 | dfr x xs=>
  obtain ⟨c,hop,hxs,hcx⟩:=trH_dfr hH
  have e:rgK tb (dR (.dfr g d x xs r)) enA td (.mk f df kd rd) cs h nx κ=true:=e
  rw [rgK_dfr,hgd] at e
  rcases gd_ok hg hE e with ⟨_,e1,hw⟩ | ⟨_,e1,hw⟩
  ·cases rd with
   | some o=>cases e1
   | none=>
    have e1:dX x enA (fun v=>dXs xs enA fun vs=>match v with
     | .fn f2 caps=>appK AV vs caps fun vs=>κ (.mk (putE d undef enA) (.rg (dR r) :: td) (.mk f (.fn f2 vs :: df) kd none) cs h nx)
     | _=>false)=true:=e1
    have hag1:Agree (rdX x) enA en:=hag.left.left
    have hag2:Agree (xs.flatMap rdX) enA en:=hag.left.right
    rw [dX_agree hag1] at e1
    obtain ⟨X,v,hcX,e2,h1⟩:∃ X v,c.callee = .value X∧(dXs xs enA fun vs=>match v with
     | .fn f2 caps=>appK AV vs caps fun vs=>κ (.mk (putE d undef enA) (.rg (dR r) :: td) (.mk f (.fn f2 vs :: df) kd none) cs h nx)
     | _=>false)=true∧VR θ v (a.eval X):=by
     rcases hcx with ⟨g2,hc,rfl⟩ | ⟨t,hc,htt,rfl⟩
     ·exact ⟨_,.fn g2 [],hc,e1,⟨trivial,rfl⟩⟩
     ·have hX:trX (.tmp t)=some (.t t):=by simp [trX,htt]
      obtain ⟨v,e2,h1⟩:=arg_ok hX e1 hE
      exact ⟨_,v,hc,e2,h1⟩
    rw [dXs_agree hag2] at e2
    obtain ⟨vs,e3,h2,h3⟩:=args_ok hxs e2 hE
    cases v<;>first | (cases e3;done) | skip
    rename_i f2 caps
    have e3:appK AV vs caps (fun vs=>κ (.mk (putE d undef enA) (.rg (dR r) :: td) (.mk f (.fn f2 vs :: df) kd none) cs h nx))=true:=e3
    rw [appK_eq] at e3
    have hall:Oks θ (vs ++ caps):=Oks_iff.2 fun x hx=>(List.mem_append.1 hx).elim (Oks_iff.1 h2 x) (Oks_iff.1 h1.1 x)
    have hu:a.eval X = .func (.func f2) #[] (toVs θ caps).toArray:=h1.2
    have hrun:(execOp a.eval o).run P w = .ok (.defer { target:=.fn (.func f2) (toVs θ caps).toArray,args:=#[] ++ (toVs θ vs).toArray }) w:=by
     simp only [execOp,hop,resolve,hcX,h3,hu,Deferred.ofValue,Sem.run_bind,Sem.run_pure,Result.andThen]
    refine (on (v:=undef) (u:=Go.undef) (.refl θ) (vr_undef θ) ?_ ⟨hx.hf,hx.hr,?_,?_,hx.ht⟩ hR e3).of_steps (step_defer_op rfl ho hw hrun)
    ·cases o.dst<;>rfl
    ·rw [put_defers]
     exact ⟨_,_,_,rfl,rfl,by simp [toVs_map],hall,hx.hd⟩
    ·rw [put_size];exact hx.hs
  ·exact unw (e':=e1) hw
 | rcv=>
  obtain ⟨c,hop,hc⟩:=trH_rcv hH
  have e:rgK tb (dR (.rcv g d r)) enA td (.mk f df kd rd) cs h nx κ=true:=e
  rw [rgK_rcv,hgd] at e
  rcases gd_ok hg hE e with ⟨_,e1,hw⟩ | ⟨_,e1,hw⟩
  ·cases rd with
   | some o=>cases e1
   | none=>
    have e1:κ (.mk (putE d .ni enA) (.rg (dR r) :: td) (.mk f df kd none) cs h nx)=true:=e1
    have hrun:(execOp a.eval o).run P w = .ok .recover w:=by
     simp only [execOp,hop,resolve,hc,Sem.run_bind,Sem.run_pure,Result.andThen,invoke,builtin]
    refine (on (v:=.ni) (u:=.nilIface) (.refl θ) ⟨trivial,rfl⟩ rfl (hx.act put_size put_defers) hR e1).of_steps (step_recover rfl ho hw (no_defer hop) hrun (no_recover hC rfl))
  ·exact unw (e':=e1) hw
theorem reg_plain (ht:TbOk tb P):∀ (rest:List Nat) (θ:Th) (a:Act) (h:H) (nx:Nat) (w:World) (en:Env),(∀ i ∈ rest,i < ops.size)→Fx P θ f fn body kd rd df a td todo→HR P w0 pd θ h nx w→CsR P θ f0 f kd cs Fs pd→ER θ en a.tmps→
  rgK tb (dR (trOs P fn.ntmps ops (rest.filterMap (ops[·]?)))) en td (.mk f df kd rd) cs h nx κ=true→Goal P w0 cs0 f0 κ (lone ((bF f kd (rd.map θ.blk)).atR a (.inRegion ops rest :: todo)) (Fs ++ cs0) w):=by
 intro rest
 induction rest with
 | nil=>
  intro θ a h nx w en _ hx hR hC hE e
  exact (hx.goal hE hR hC e).of_steps (.one stepR_region_end)
 | cons i rest ih=>
  intro θ a h nx w en hi hx hR hC hE e
  obtain ⟨o,ho⟩:∃ o,ops[i]? = some o:=⟨_,Array.getElem?_eq_getElem (hi i (List.mem_cons_self ..))⟩
  rw [List.filterMap_cons,ho] at e
  have e:rgK tb (dR (match trG ops o,trD fn.ntmps o with | some g,some d=>putH g d (trH P false o.op) (trOs P fn.ntmps ops (rest.filterMap (ops[·]?))) | _,_=>.op .n .n .bad .nil)) en td (.mk f df kd rd) cs h nx κ=true:=e
  have hi':∀ j ∈ rest,j < ops.size:=fun j hj=>hi j (List.mem_cons_of_mem _ hj)
  split at e
  ·rename_i g d hg hd
   cases hH:trH P false o.op with
   | op I=>
    rw [hH] at e
    have e:rgK tb (dR (.op g d I (trOs P fn.ntmps ops (rest.filterMap (ops[·]?))))) en td (.mk f df kd rd) cs h nx κ=true:=e
    rw [rgK_op] at e
    obtain ⟨θ',h',nx',w',en',a',k1,k2,k3,k4,k5,k6,k7⟩:=op_plain (rest:=rest) (b:=bF f kd (rd.map θ.blk)) (k:=todo) (cs':=Fs ++ cs0) ho hg hd hH (K:=fun en h nx=>rgK tb (dR (trOs P fn.ntmps ops (rest.filterMap (ops[·]?)))) en td (.mk f df kd rd) cs h nx κ) e hR hE hx.hs hx.hf.nt
    have:=ih θ' a' h' nx' w' en' hi' ((hx.mono k1).act k5 k6) k3 (hC.mono k1) k4 k7
    rw [hx.rdm k1] at this
    exact this.of_steps k2
   | _=>
    refine act_ok (q:=[]) (d:=d) (r:=trOs P fn.ntmps ops (rest.filterMap (ops[·]?))) ht hx hR hC hE ho hg hd rfl (fun I hI=>by rw [hH] at hI;cases hI) (fun t _=>rfl) e ?_
    intro θ' h' v u df' a' hle hv ha hx'
    exact (hx'.more (.reg hi')).run h' (by rw [ha];exact er_put hd (hE.mono hle) hx.hs hx.hf.nt hv)
  ·rw [rgK_op] at e
   cases e
theorem dG_split {g:Gd} {en:Env} {A B:R} (e:dG g en A B=true):(GSays g en true∧A=true)∨(GSays g en false∧B=true):=by
 cases g with
 | n=>exact .inl ⟨.yes fun _ _=>rfl,e⟩
 | g t b=>
  have hdef:∀ A B:R,dG (.g t b) en A B=(match getL AV 3 t en with | .b c=>br (eqB c b) A B | .tu _=>B | _=>false):=by
   intro A B
   show getK AV (fun v=>match v with | .b c=>br (eqB c b) A B | .tu _=>B | _=>false) 3 t en=_
   rw [getK_eq]
  rw [hdef] at e
  cases hv:getL AV 3 t en<;>rw [hv] at e<;>first | (cases e;done) | skip
  ·rename_i c
   have e:br (eqB c b) A B=true:=e
   cases hc:eqB c b with
   | true=>rw [hc] at e;exact .inl ⟨.yes fun A B=>by rw [hdef,hv];show br (eqB c b) A B=A;rw [hc];rfl,e⟩
   | false=>rw [hc] at e;exact .inr ⟨.no fun A B=>by rw [hdef,hv];show br (eqB c b) A B=B;rw [hc];rfl,e⟩
  ·exact .inr ⟨.no fun A B=>by rw [hdef,hv],e⟩
theorem cls_op {nt:Nat} {c:Nat} (hc:c < 3) (ho:ops[i]? = some o) (h:clsAt P ops i=c):∃ I,trH P true o.op = .op I∧clsI I=c:=by
 unfold clsAt cls at h
 rw [ho] at h
 have h:clsH (trH P true o.op)=c:=h
 cases hH:trH P true o.op with
 | op I=>rw [hH] at h;exact ⟨I,rfl,h⟩
 | _=>rw [hH] at h;have h:3=c:=h;omega
theorem trO_eq {nt:Nat} {dr:Bool} {g:Gd} {d:Ds} {r:DR} (hg:trG ops o=some g) (hd:trD nt o=some d):trO P nt dr ops o r=putH g d (trH P dr o.op) r:=by
 unfold trO
 rw [hg,hd]
theorem dr_add {nt:Nat} {qs qs':List (Nat × Nat × AO)} {L:List (Bool × Nat)} {A st π:List Nat} {D:Nat→Prop} {en enM:Env} {h h':H} (hn:nt≤512) (hD:Dr P nt ops θ h qs ((false,i) :: L) A st en enM a.tmps π D) (hcl:clsAt P ops i < 3) {g:Gd} {d:Ds}
  (hf:Fitd P nt ops i o g d) {v:AV} (hx:Ext h h') (hq:∀ x ∈ qs,x ∈ qs')
  (hp:∀ en' enM',(∀ t,d = .d t→getL AV 3 t en' = v)→EnI ops i (rdOf P ops o) en en' enM'→Pend P ops qs' st h' en' enM' i o g d):Dr P nt ops θ h' qs' L (i :: A) st (putE d v en) enM a.tmps π D:=by
 have hchk:=hD.chk
 simp only [okL,Bool.and_eq_true] at hchk
 obtain ⟨hfit,hrest⟩:=hchk
 obtain ⟨_,hia,hdepA⟩:=fitL_ok hfit
 rw [if_pos hcl] at hrest
 have hnD:¬ D i:=fun h=>hia (hD.sub i h)
 refine ⟨hrest,hD.lin,hD.shut,fun j hj=>List.mem_cons_of_mem _ (hD.sub j hj),⟨fun o' ho' e he hb=>hdepA o' ho' e he hb,hD.ord⟩,?_,hD.er,?_,?_⟩
 ·intro j hj hc
  rcases List.mem_cons.1 hj with rfl | hj
  ·omega
  ·exact hD.act j hj hc
 ·intro t ht hno
  have hne:o.dst≠some t:=hno i o (List.mem_cons_self ..) hnD hf.ho
  rw [putE_ne ht hn hf.hd hne]
  exact hD.agr t ht fun j oj hj hnj hoj=>hno j oj (List.mem_cons_of_mem _ hj) hnj hoj
 ·intro j hj
  rcases List.mem_cons.1 hj with rfl | hj
  ·refine ⟨o,g,d,hf,fun _=>hp _ _ (fun t ht=>putE_same ht) fun t ht=>?_⟩
   by_cases hb:∀ k ok,ops[k]? = some ok→ok.dst=some t→Waits ops j k
   ·exact .inl ⟨hb,(putE_ne (hf.lt t ht) hn hf.hd fun e=>hia ((hb j o hf.ho e).shut hD.ord.shut hdepA)).symm⟩
   ·obtain ⟨k,ok,hk,hkt,hnw⟩:∃ k ok,ops[k]? = some ok∧ok.dst=some t∧¬ Waits ops j k:=Classical.byContradiction fun hc=>hb fun k ok h1 h2=>Classical.byContradiction fun h3=>hc ⟨k,ok,h1,h2,h3⟩
    have hw:=(hf.rd k ok t hk hkt ht).resolve_left hnw
    refine .inr ⟨⟨k,ok,hk,hkt,hw,hnw⟩,hD.agr t (hf.lt t ht) fun j' oj' hj' _ hoj' e=>hia ?_⟩
    obtain ⟨o',g',d',hf',_⟩:=hD.pend j' hj'
    have ho':o' = oj':=by have:=hf'.ho;rw [hoj'] at this;injection this with this;exact this.symm
    subst ho'
    rcases hf'.ds k ok t hk hkt with h | h
    ·subst h
     exact hw.shut hD.ord.shut (fun o ho e he hb=>hD.ord.shut j' hj' o ho e he hb)
    ·exact absurd e h
  ·obtain ⟨o',g',d',hf',hp'⟩:=hD.pend j hj
   refine ⟨o',g',d',hf',fun hnd=>?_⟩
   have hji:j≠i:=fun e=>hia (e ▸ hj)
   have hw:¬ Waits ops j i:=fun h=>hia (h.shut hD.ord.shut (fun o ho e he hb=>hD.ord.shut j hj o ho e he hb))
   exact ((hp' hnd).put (v:=v) hn hf' hf.ho hf.hd hji hw (fun _ _ _ _ _ _ _=>rfl)).ext hx (fun x hx _=>hq x hx)
theorem reg_draw (ht:TbOk tb P):∀ (L:List (Bool × Nat)) (θ:Th) (a:Act) (h:H) (nx:Nat) (w:World) (en enM:Env) (qs:List (Nat × Nat × AO)) (A st π:List Nat) (D:Nat→Prop),
  Dr P fn.ntmps ops θ h qs L A st en enM a.tmps π D→Fx P θ f fn body kd rd df a td todo→HR P w0 (qs.map (·.2) ++ pd) θ h nx w→CsR P θ f0 f kd cs Fs pd→
  rgK tb (dR (trDr P fn.ntmps ops L)) en td (.mk f df kd rd) cs h nx κ=true→Goal P w0 cs0 f0 κ (lone ((bF f kd (rd.map θ.blk)).atR a (.inRegion ops π :: todo)) (Fs ++ cs0) w):=by
 intro L
 induction L with
 | nil=>
  intro θ a h nx w en enM qs A st π D hD hx hR hC e
  have hchk:=hD.chk
  simp only [okL,Bool.and_eq_true] at hchk
  have hst:st=[]:=by cases st with | nil=>rfl | cons x y=>cases hchk.1
  subst hst
  have hall:∀ i,i < ops.size→i ∈ A:=fun i hi=>(okL_cover hD.chk i hi).resolve_right (by simp)
  obtain ⟨θ',a',w',k1,k2,k3,k4,k5,k6⟩:=dr_end (b:=bF f kd (rd.map θ.blk)) (k:=todo) (cs:=Fs ++ cs0) hall hx.hf.nt π θ qs enM a D w hD hR hx.hs
  have:=((hx.mono k1).act k5 k6).goal (κ:=κ) (cs0:=cs0) k4 k3 (hC.mono k1) e
  rw [hx.rdm k1] at this
  exact this.of_steps k2
 | cons p L ih=>
  intro θ a h nx w en enM qs A st π D hD hx hR hC e
  obtain ⟨again,i⟩:=p
  cases again with
  | true=>
   have hchk:=hD.chk
   simp only [okL,Bool.and_eq_true] at hchk
   obtain ⟨⟨⟨hiA,hc1⟩,hfb⟩,hrest⟩:=hchk
   have hiA:=memb_iff.1 hiA
   have hc1:clsAt P ops i=1:=Nat.eq_of_beq_eq_true hc1
   obtain ⟨o,g,d,hf,hp⟩:=hD.pend i hiA
   obtain ⟨I,hI,hcI⟩:=cls_op (nt:=0) (by omega) hf.ho hc1
   have e:rgK tb (dR (match ops[i]? with
    | some o=>(match trG ops o,o.dst with
     | some g,some d=>if d < fn.ntmps then .rck g d (trI P true o.op) (trDr P fn.ntmps ops L) else .op .n .n .bad .nil
     | _,_=>.op .n .n .bad .nil)
    | none=>.op .n .n .bad .nil)) en td (.mk f df kd rd) cs h nx κ=true:=e
   rw [hf.ho] at e
   simp only [hf.hg] at e
   rcases trD_some hf.hd with ⟨h1,_⟩ | ⟨t,h1,h2,h3⟩
   ·rw [h1] at e
    simp only [] at e
    rw [rgK_op] at e;cases e
   ·rw [h1] at e
    simp only [h3,if_true] at e
    rw [rgK_rck,← trH_op hI] at e
    have hcls:=cls_of hI
    unfold Cls at hcls
    rw [hcI] at hcls
    have key:rgK tb (dR (trDr P fn.ntmps ops L)) en td (.mk f df kd rd) cs h nx κ=true∧(GSays g en true→∃ v,getL AV 3 t en=v∧∀ h',Ext h h'→∀ nx' κ',dI I en h' nx' κ' = κ' v h' nx'):=by
     rcases dG_split e with ⟨hg,e1⟩ | ⟨hg,e1⟩
     ·obtain ⟨v,k1,_⟩:=hcls en h nx _ e1
      rw [k1 h (Ext.refl h)] at e1
      obtain ⟨hb,e2⟩:=br_t e1
      exact ⟨e2,fun _=>⟨v,beqV_eq _ _ hb,k1⟩⟩
     ·refine ⟨e1,fun hg'=>?_⟩
      cases hg with
      | no h4=>cases hg' with | yes h5=>exact absurd ((h4 true false).symm.trans (h5 true false)) (by simp)
    refine ih θ a h nx w en enM qs A _ π D ⟨hrest,hD.lin,hD.shut,hD.sub,hD.ord,hD.act,hD.er,hD.agr,?_⟩ hx hR hC key.1
    intro j hj
    obtain ⟨oj,gj,dj,hfj,hpj⟩:=hD.pend j hj
    refine ⟨oj,gj,dj,hfj,fun hnd=>?_⟩
    obtain ⟨Ij,eni,hIj,hlt,hEi,hpj⟩:=hpj hnd
    refine ⟨Ij,eni,hIj,hlt,hEi,hpj.imp id fun ⟨p1,p2⟩=>⟨p1,?_⟩⟩
    rcases p2 with p2 | ⟨c,hs | p2⟩ | p2
    ·exact .inl p2
    ·refine .inr (.inl ⟨c,?_⟩)
     by_cases hji:j=i
     ·subst hji
      have e1:oj=o:=by have:=hfj.ho;rw [hf.ho] at this;injection this with this;exact this.symm
      subst e1
      have e2:gj=g:=by have:=hfj.hg;rw [hf.hg] at this;injection this with this;exact this.symm
      subst e2
      have e3:Ij=I:=by rw [hI] at hIj;injection hIj with hIj;exact hIj.symm
      subst e3
      have hagi:Agree (rdOf P ops oj) eni en:=fun t' ht'=>by
       rcases hEi t' ht' with ⟨_,h2⟩ | ⟨⟨k,ok,q1,q2,_,q4⟩,_⟩
       ·exact h2
       ·exact absurd (fitB_ok hfb hf.ho k ok t' q1 q2 ht') q4
      obtain ⟨b1,b2⟩:=rdOf_I hI hf.hg hagi
      obtain ⟨v,v1,v2⟩:=key.2 (p1.agree b2)
      refine .inr ⟨v,fun t' ht'=>?_,fun h' hx' nx' κ'=>by rw [dI_agree b1];exact v2 h' hx' nx' κ'⟩
      have e4:dj = .d t:=by have:=hfj.hd;rw [hf.hd] at this;injection this with this;rw [← this,h2]
      rw [e4] at ht';injection ht' with ht';subst ht';exact v1
     ·refine .inl (List.mem_filter.2 ⟨hs,?_⟩)
      cases hb:Nat.beq j i with
      | false=>rfl
      | true=>exact absurd (Nat.eq_of_beq_eq_true hb) hji
    ·exact .inr (.inl ⟨c,.inr p2⟩)
    ·exact .inr (.inr p2)
  | false=>
   have hchk:=hD.chk
   simp only [okL,Bool.and_eq_true] at hchk
   obtain ⟨hfit,hrest⟩:=hchk
   obtain ⟨⟨o,g,d,hf⟩,hia,hdepA⟩:=fitL_ok hfit
   have e:rgK tb (dR (match ops[i]? with | some o=>trO P fn.ntmps true ops o (trDr P fn.ntmps ops L) | none=>.op .n .n .bad .nil)) en td (.mk f df kd rd) cs h nx κ=true:=e
   rw [hf.ho] at e
   simp only [] at e
   rw [trO_eq hf.hg hf.hd] at e
   by_cases hcl:clsAt P ops i < 3
   ·obtain ⟨I,hI,hcI⟩:=cls_op (nt:=0) hcl hf.ho rfl
    rw [hI] at e
    have e:rgK tb (dR (.op g d I (trDr P fn.ntmps ops L))) en td (.mk f df kd rd) cs h nx κ=true:=e
    rw [rgK_op] at e
    have hlt:clsI I < 3:=by omega
    rcases dG_split e with ⟨hgs,e1⟩ | ⟨hgs,e1⟩
    ·have hcls:=cls_of hI
     unfold Cls at hcls
     match hcc:clsI I with
     | 0=>
      rw [hcc] at hcls
      obtain ⟨v,k1,k2⟩:=hcls en h nx _ e1
      rw [k1] at e1
      refine ih θ a h nx w _ enM qs (i :: A) st π D (dr_add hx.hf.nt hD hcl hf (Ext.refl h) (fun x hx=>hx) fun en' enM' hv hag=>?_) hx hR hC e1
      exact ⟨I,en,hI,hlt,hag,.inr ⟨hgs,.inl ⟨hcc,v,hv,fun h' nx' κ'=>k1 h' nx' κ'⟩⟩⟩
     | 1=>
      rw [hcc] at hcls
      obtain ⟨v,k1,k2⟩:=hcls en h nx _ e1
      rw [k1 h (Ext.refl h)] at e1
      refine ih θ a h nx w _ enM qs (i :: A) st π D (dr_add hx.hf.nt hD hcl hf (Ext.refl h) (fun x hx=>hx) fun en' enM' hv hag=>?_) hx hR hC e1
      exact ⟨I,en,hI,hlt,hag,.inr ⟨hgs,.inr (.inl ⟨hcc,.inr ⟨v,hv,fun h' hx' nx' κ'=>k1 h' hx' nx' κ'⟩⟩)⟩⟩
     | 2=>
      rw [hcc] at hcls
      obtain ⟨a0,v,k0,k1,k2,k3,k4⟩:=hcls en h nx _ e1
      have hxt:Ext h (setO h nx a0):=hR.ext_new k1 a0
      refine ih θ a _ _ w _ enM ((i,nx,a0) :: qs) (i :: A) st π D (dr_add hx.hf.nt hD hcl hf hxt (fun x hx=>List.mem_cons_of_mem _ hx) fun en' enM' hv hag=>?_) hx (hR.pended k1 a0) hC k2
      exact ⟨I,en,hI,hlt,hag,.inr ⟨hgs,.inr (.inr ⟨hcc,a0,v,nx,List.mem_cons_self ..,hv,fun h' nx' κ' hn'=>k3 h' nx' κ' hn'⟩)⟩⟩
     | n + 3=>omega
    ·refine ih θ a h nx w _ enM qs (i :: A) st π D (dr_add hx.hf.nt hD hcl hf (Ext.refl h) (fun x hx=>hx) fun en' enM' hv hag=>?_) hx hR hC e1
     exact ⟨I,en,hI,hlt,hag,.inl ⟨hgs,hv⟩⟩
   ·rw [if_neg hcl] at hrest
    simp only [Bool.and_eq_true] at hrest
    obtain ⟨⟨hst,hall⟩,hok⟩:=hrest
    have hst:st=[]:=by cases st with | nil=>rfl | cons x y=>cases hst
    subst hst
    have hisz:i < ops.size:=(Array.getElem?_eq_some_iff.1 hf.ho).1
    have hlater:∀ j,j < ops.size→j ∉ A→j=i∨Waits ops j i:=by
     intro j hj hjA
     rcases okL_cover hok j hj with hm | hm
     ·rcases List.mem_cons.1 hm with h1 | h1
      ·exact .inl h1
      ·exact absurd h1 hjA
     ·have:=List.all_eq_true.1 hall _ hm
      exact .inr (before_waits j i (by simpa using this))
    obtain ⟨π',θ1,qs1,enM1,a1,D1,w1,k1,k2,k3,k4,k5,k6⟩:=dr_catch (b:=bF f kd (rd.map θ.blk)) (k:=todo) (cs:=Fs ++ cs0) hisz hia hdepA hlater hx.hf.nt π θ qs enM a D w hD hR hx.hs
    have hx1:=(hx.mono k1).act k5 k6
    have hC1:=hC.mono k1
    have hag:=k4.agree hia hf
    have hact3:3≤clsAt P ops i:=by omega
    suffices Goal P w0 cs0 f0 κ (lone ((bF f kd (rd.map θ1.blk)).atR a1 (.inRegion ops (i :: π') :: todo)) (Fs ++ cs0) w1) by
     rw [hx.rdm k1] at this
     exact this.of_steps k2
    cases hH:trH P true o.op with
    | op I=>
     rw [hH] at e
     have e:rgK tb (dR (.op g d I (trDr P fn.ntmps ops L))) en td (.mk f df kd rd) cs h nx κ=true:=e
     rw [rgK_op] at e
     obtain ⟨a1',a2'⟩:=rdOf_I hH hf.hg hag
     rw [dG_agree a2',dI_agree a1'] at e
     rcases gd_ok hf.hg k4.er e with ⟨_,e1,hw⟩ | ⟨_,e1,hw⟩
     ·obtain ⟨v,u,θ2,h2,nx2,w2,n,m1,m2,m3,m4,m5,m6⟩:=(cls_of hH).op enM1 h nx _ w0 _ θ1 a1 w1 k4.er k3 e1
      obtain ⟨st',hD2⟩:=dr_act k4 hact3 hf hx1.hs hx.hf.nt m1 h2 m2
      have:=ih θ2 (a1.put o.dst u) h2 nx2 w2 _ _ qs1 _ st' π' _ hD2 ((hx1.mono m1).act put_size put_defers) m3 (hC1.mono m1) m4
      rw [hx1.rdm m1] at this
      exact this.of_steps (step_value hf.ho hw m5 m6)
     ·obtain ⟨st',hD2⟩:=dr_act k4 hact3 hf hx1.hs hx.hf.nt (.refl θ1) h (vr_undef θ1)
      exact (ih θ1 (a1.put o.dst Go.undef) h nx w1 _ _ qs1 _ st' π' _ hD2 (hx1.act put_size put_defers) k3 hC1 e1).of_steps (step_unwanted hf.ho hw)
    | _=>
     have hagr:Agree (rdH (trH P true o.op) ++ rdG (some g)) en enM1:=by
      have:=hag
      unfold rdOf at this
      rw [hf.hg] at this
      exact this
     refine act_ok (q:=qs1.map (·.2)) (d:=d) (r:=trDr P fn.ntmps ops L) ht hx1 k3 hC1 k4.er hf.ho hf.hg hf.hd rfl (fun I hI=>by rw [hH] at hI;cases hI) hagr e ?_
     intro θ' h' v u df' a' hle hv ha hx'
     obtain ⟨st',hD2⟩:=dr_act k4 hact3 hf hx1.hs hx.hf.nt hle h' hv
     exact .draw hx'.hf hx'.hr hx'.hd hx'.hs hx'.ht (by rw [ha];exact hD2)
end
end Go.AM

namespace Go.AM
open Go
section
variable {P:Program} {θ θ':Th} {f:Nat} {fn:Func} {body:Code} {kd:Bool} {rd:Option Nat} {df:List AD} {a a':Act} {td:List T} {todo:List Item}
variable {w0 w:World} {cs0:List Frame} {f0:F0} {κ:ASt→R} {tb:Tb} {h:H} {nx:Nat} {cs:List AFr} {Fs:List Frame} {q pd:List (Nat × AO)} {en:Env}
variable {b:Frame} {k:List Item} {csM:List Frame}
theorem stepR_inScope {c:Code}:step P (lone (b.atR a (.inScope c :: k)) csM w) = .next (lone (b.atR a k) csM w):=
 step_lone_go (by simp [stepG,stepG.exec,Frame.atR])
theorem stepR_scope {c:Code}:step P (lone (b.atR a (.code (.scope c) :: k)) csM w) = .next (lone (b.atR a (.code c :: .inScope c :: k)) csM w):=
 step_lone_go (by simp [stepG,stepG.exec,Frame.atR])
theorem stepR_rangeFunc_to {g:Operand} {ps:Array Tmp} {assign body:Code} {l:Nat} {mark:List Deferred} {w₁:World} {d:Deferred} {n:Next}
  (he:(Instr.enterLoop b.fn a.tmps ps assign body b.roundOf).run P w = .ok (l,mark) w₁)
  (hres:(Deferred.ofValue (a.eval g) #[.func (.yield l) #[] #[]]).run P w₁ = .ok d w₁) (hinv:(invoke d.target d.args).run P w₁ = .ok n w₁) :
  (∀ f args,n = .enter f args→step P (lone (b.atR a (.code (.rangeFunc g ps assign body) :: k)) csM w) = .next (lone (Frame.enter P f args .normal) (b.atR { a with defers:=mark ++ a.defers } (.inRangeFunc l :: k) :: csM) w₁))∧
  (∀ l2 f tmps x y,n = .round l2 f tmps x y→step P (lone (b.atR a (.code (.rangeFunc g ps assign body) :: k)) csM w) = .next (lone (Frame.round l2 f tmps x y .normal) (b.atR { a with defers:=mark ++ a.defers } (.inRangeFunc l :: k) :: csM) w₁)):=by
 have hev:=Frame.eval_atR b { a with defers:=mark ++ a.defers } (.inRangeFunc l :: k)
 simp only [Frame.atR] at hev
 have hres':Sem.run P (resolve ({ tmps:=a.tmps,defers:=mark ++ a.defers }:Act).eval { callee:=.value g,args:=#[.const (.func (.yield l) #[] #[])],argTypes:=#[] } 0) w₁ = .ok d w₁:=by
  have hev2:({ tmps:=a.tmps,defers:=mark ++ a.defers }:Act).eval g=a.eval g:=by cases g<;>rfl
  have hev3:(#[.const (.func (.yield l) #[] #[])]:Array Operand).map ({ tmps:=a.tmps,defers:=mark ++ a.defers }:Act).eval = #[.func (.yield l) #[] #[]]:=by simp [Act.eval]
  simp only [resolve,hev2,hev3]
  exact hres
 constructor
 ·rintro f args rfl
  exact step_lone_go (by simp [stepG,stepG.exec,Frame.atR,Sem.runT_eq,he,GStep.bare_after,stepG.apply,hev,Sem.run_bind,hres',hinv,Result.andThen])
 ·rintro l2 f tmps x y rfl
  exact step_lone_go (by simp [stepG,stepG.exec,Frame.atR,Sem.runT_eq,he,GStep.bare_after,stepG.apply,hev,Sem.run_bind,hres',hinv,Result.andThen])
theorem run_enterLoop_inner {l:Nat} {r:Loop} (hl:w.heap[l]? = some (.loop r)) (fn:FuncId) (tmps:Array Value) (ps:Array Tmp) (assign body:Code) :
  (Instr.enterLoop fn tmps ps assign body (some l)).run P w = .ok (w.heap.size,[]) (w.alloc (.loop { state:=.ready,pending:=none,fn,tmps,params:=ps,assign,body,defers:=r.defers })):=by
 unfold Instr.enterLoop
 simp only [Sem.run_bind,run_getLoop hl,run_newObj_alloc,Result.andThen,Sem.run_pure]
theorem step_collected {fr:Frame} {bk:Nat} {ags:Array Value} {ds calls:List Deferred} {w':World} (hm:fr.mode = .returning) (hd:fr.defers = { target:=.collected bk,args:=ags } :: ds) (hr:(Instr.takeDeferred bk).run P w = .ok calls w') :
  step P (lone fr csM w) = .next (lone { fr with defers:=calls ++ ds } csM w'):=
 step_lone_go (by simp [stepG,unwind,hm,hd,Sem.runT_eq,hr,GStep.bare_after])
theorem lp_upd (hR:HR P w0 pd θ h nx w) {o:Nat} (ho:θ.has o) {st:LoopState} {j:J} {fnn li:Nat} {en':Env} {ds:Nat} (hb:obj h o=some (.lp st j fnn li en' ds)) :
  ∃ r:Loop,w.heap[θ.blk o]? = some (.loop r)∧r.state=st∧r.pending=jCode j∧∀ st' j',HR P w0 pd θ (setO h o (.lp st' j' fnn li en' ds)) nx (w.putObj (θ.blk o) (.loop { r with state:=st',pending:=jCode j' })):=by
 obtain ⟨fu,code,ps,x,y,tmps,h1,h2,h3,h4,h5,h6,h7,h8⟩:=hR.obj_ ho hb
 refine ⟨_,h5,rfl,rfl,fun st' j'=>?_⟩
 exact map_upd hR ho hb rfl rfl rfl h5 ⟨fu,code,ps,x,y,tmps,h1,h2,h3,h4,heap_set h5,h6,h7,h8⟩
theorem endK_ok {o:Nat} {j:J} (e:endK o j false cs h nx κ=true) (hR:HR P w0 pd θ h nx w) (ho:θ.has o) (hC:CsR P θ f0 f false cs Fs pd) {m:Machine}
  (hs:∀ c rest v w',(Instr.endRound (θ.blk o) (jCode j)).run P w = .ok v w'→Fs ++ cs0=c :: rest→Steps P m (lone (c.finish v) rest w')):Goal P w0 cs0 f0 κ m:=by
 obtain ⟨ao,g1,g2⟩:=get_true e
 cases ao<;>first | (cases g2;done) | skip
 rename_i st j0 fnn li en' ds
 obtain ⟨r,h1,h2,h3,h4⟩:=lp_upd hR ho g1
 have hrun:=run_endRound (P:=P) (jCode j) h1
 have go:∀ (st':LoopState) (v:AV) (u:Value),VR θ v u→(Instr.endRound (θ.blk o) (jCode j)).run P w = .ok u (w.putObj (θ.blk o) (.loop { r with state:=st',pending:=jCode j }))→
   backR false v cs (setO h o (.lp st' j fnn li en' ds)) nx κ=true→Goal P w0 cs0 f0 κ m:=by
  intro st' v u hv hr e'
  cases cs with
  | nil=>cases e'
  | cons c cs=>
   have e':backK false v (c :: cs) (setO h o (.lp st' j fnn li en' ds)) nx κ=true:=e'
   refine back_ok e' (h4 st' j) hv hC (fun _ c' rest=>?_) (fun h=>absurd h (by simp)) (fun hn=>?_)
   ·by_cases hF:Fs=c' :: rest
    ·exact .inl (hs c' (rest ++ cs0) u _ hr (by rw [hF];rfl))
    ·exact .inr hF
   ·obtain ⟨en,td,fr⟩:=c
    obtain ⟨F,Fs',q,pd',rfl,_⟩:=hC
    cases hn
 cases j with
 | no=>
  have g2:put o (.lp .ready .no fnn li en' ds) h (fun h=>backR false (.b true) cs h nx κ)=true:=g2
  rw [put_eq] at g2
  exact go .ready (.b true) (.bool true) ⟨trivial,rfl⟩ hrun g2
 | ret=>
  have g2:put o (.lp .done .ret fnn li en' ds) h (fun h=>backR false (.b false) cs h nx κ)=true:=g2
  rw [put_eq] at g2
  exact go .done (.b false) (.bool false) ⟨trivial,rfl⟩ hrun g2
 | exit id=>
  have g2:put o (.lp .done (.exit id) fnn li en' ds) h (fun h=>backR false (.b false) cs h nx κ)=true:=g2
  rw [put_eq] at g2
  exact go .done (.b false) (.bool false) ⟨trivial,rfl⟩ hrun g2
theorem leave_ok {j:J} (e:leaveK j en td (.mk f df kd rd) cs h nx κ=true) (hx:Fx P θ f fn body kd rd df a td todo) (hE:ER θ en a.tmps) (hR:HR P w0 pd θ h nx w) (hC:CsR P θ f0 f kd cs Fs pd) {k:List Item}
  (h1:rd=none→Steps P (lone ((bF f kd (rd.map θ.blk)).atR a k) (Fs ++ cs0) w) (lone { (bF f kd (rd.map θ.blk)).atR a k with mode:=.returning } (Fs ++ cs0) w))
  (h2:∀ o,rd=some o→∀ c rest v w',(Instr.endRound (θ.blk o) (jCode j)).run P w = .ok v w'→Fs ++ cs0=c :: rest→Steps P (lone ((bF f kd (rd.map θ.blk)).atR a k) (c :: rest) w) (lone (c.finish v) rest w')) :
  Goal P w0 cs0 f0 κ (lone ((bF f kd (rd.map θ.blk)).atR a k) (Fs ++ cs0) w):=by
 cases rd with
 | none=>
  have e:κ (.mk en [.rt] (.mk f df kd none) cs h nx)=true:=e
  exact ⟨_,_,h1 rfl,.mk (q:=[]) hR (.ret hx.hf hx.hd hE) hC,e⟩
 | some o=>
  obtain ⟨ho,hk⟩:=hx.hr o rfl
  subst hk
  have e:endK o j false cs h nx κ=true:=e
  refine endK_ok e hR ho hC (fun c rest v w' hr hF=>?_)
  rw [hF]
  exact h2 o rfl c rest v w' hr hF
theorem ret_ok (ht:TbOk tb P) (e:retK tb en [] (.mk f df kd none) cs h nx κ=true) (hf:FnC P f fn body) (hd:DsR θ df a.defers) (hE:ER θ en a.tmps) (hR:HR P w0 pd θ h nx w) (hC:CsR P θ f0 f kd cs Fs pd) {todo:List Item} :
  Goal P w0 cs0 f0 κ (lone { (bF f kd none).atR a todo with mode:=.returning } (Fs ++ cs0) w):=by
 cases df with
 | nil=>
  have e:fnOf tb f (fun _ rs=>rs en h fun v=>backK kd v cs h nx κ)=true:=e
  obtain ⟨c0,c,rs,h1,_,e1⟩:=ht.fn e
  obtain ⟨fn',body',hf',hu⟩:=trF_some h1
  injection hu with hu1 hu2
  subst hu2
  obtain ⟨v,u,e2,hv,hrun⟩:=res_ok hR hf' hE e1
  have hd:a.defers=[]:=hd
  have hkind:∀ {kd:Bool},({ (bF f kd none).atR a todo with mode:=FrameMode.returning }:Frame).kind=if kd then .deferred else .normal:=rfl
  refine back_ok e2 hR hv hC (fun hk c' rest=>?_) (fun hk c' rest hm=>?_) (fun hn=>?_)
  ·subst hk
   by_cases hF:Fs=c' :: rest
   ·refine .inl ?_
    rw [hF]
    exact .one (step_leave_returned ⟨rfl,hd,rfl,fn',hf'.hfn,hrun⟩)
   ·exact .inr hF
  ·subst hk
   by_cases hF:Fs=c' :: rest
   ·refine .inl ?_
    rw [hF]
    have hst:step P (lone { (bF f true none).atR a todo with mode:=.returning } (c' :: (rest ++ cs0)) w) = .next (lone { c' with mode:=settle c'.mode } (rest ++ cs0) w):=
     step_going_returned rfl ⟨rfl,hd,fn',hf'.hfn,hrun⟩
    have hc:({ c' with mode:=settle c'.mode }:Frame)=c':=by
     obtain ⟨x1,x2,x3,x4,x5,x6,x7⟩:=c'
     have hm:x5 = .returning:=hm
     subst hm
     rfl
    rw [hc] at hst
    exact .one hst
   ·exact .inr hF
  ·subst hn
   cases cs with
   | nil=>
    obtain ⟨hf0,hk,_,hp,hle0⟩:=hC
    subst hk hp
    exact .fin hR hv ⟨rfl,hd,rfl,fn',hf'.hfn,hrun⟩ hf0 hle0
   | cons c cs=>
    obtain ⟨en,td,fr⟩:=c
    obtain ⟨F,Fs',q,pd',hF,_⟩:=hC
    cases hF
 | cons d df=>
  cases d with
  | fn f2 vs=>
   obtain ⟨d,cap,ds',h1,h2,h3,h4,h5⟩:=hd
   have e:enterK tb f2 vs true (.mk en [.rt] (.mk f df kd none) :: cs) h nx κ=true:=e
   have hw:WaitR P θ [] en [.rt] (.mk f df kd none) { (bF f kd none).atR { a with defers:=ds' } todo with mode:=.returning } true:=
    ⟨rfl,fun θ' h' hle=>.ret hf (h5.mono hle) (hE.mono hle)⟩
   obtain ⟨fn',body',hf',hg⟩:=enter_ok ht e h4 hR (Fs:={ (bF f kd none).atR { a with defers:=ds' } todo with mode:=.returning } :: Fs) ⟨_,_,[],pd,rfl,rfl,hw,hC⟩
   refine hg.of_steps (.one ?_)
   refine step_defer (fr:={ (bF f kd none).atR a todo with mode:=.returning }) (by simp) h1 h2 ?_
   rw [h2]
   show (callFunc f2 (d.args ++ cap)).run P w=_
   rw [h3]
   exact run_callFunc hf' _
  | col o=>
   obtain ⟨ds',h1,h2,h3⟩:=hd
   obtain ⟨ao,g1,g2⟩:=get_true (show get o h (fun x=>(match x with
    | .df true=>put o (.df false) h fun h=>κ (.mk en [.rt] (.mk f df kd none) cs h nx)
    | _=>false))=true from e)
   cases ao<;>first | (cases g2;done) | skip
   rename_i c
   cases c<;>first | (cases g2;done) | skip
   have g2:put o (.df false) h (fun h=>κ (.mk en [.rt] (.mk f df kd none) cs h nx))=true:=g2
   rw [put_eq] at g2
   have hob:w.heap[θ.blk o]? = some (.deferred (some [])):=hR.obj_ h2 g1
   have hR':=map_upd (ob:=.deferred none) hR h2 g1 (a':=.df false) rfl rfl rfl hob (heap_set hob)
   refine ⟨_,_,.one (step_collected (fr:={ (bF f kd none).atR a todo with mode:=.returning }) rfl h1 (run_takeDeferred hob)),.mk (q:=[]) hR' (FR.ret (a:={ a with defers:=ds' }) hf h3 hE) hC,g2⟩
end
end Go.AM

namespace Go.AM
open Go
section
variable {P:Program} {θ θ':Th} {f:Nat} {fn:Func} {body:Code} {kd:Bool} {rd:Option Nat} {df:List AD} {a a':Act} {td:List T} {todo:List Item}
variable {w0 w:World} {cs0:List Frame} {f0:F0} {κ:ASt→R} {tb:Tb} {h:H} {nx:Nat} {cs:List AFr} {Fs:List Frame} {q pd:List (Nat × AO)} {en:Env}
theorem rf_ok (ht:TbOk tb P) {g:Operand} {x:X} {li:Nat} {ps:Array Nat} {ca cb:Code} (hg:trX g=some x) (e:rfK tb (dX x) li en td (.mk f df kd rd) cs h nx κ=true) (hx:Fx P θ f fn body kd rd df a td todo) (hS:Sub f body li (.rangeFunc g ps ca cb))
  (hE:ER θ en a.tmps) (hR:HR P w0 pd θ h nx w) (hC:CsR P θ f0 f kd cs Fs pd):Goal P w0 cs0 f0 κ (lone ((bF f kd (rd.map θ.blk)).atR a (.code (.rangeFunc g ps ca cb) :: todo)) (Fs ++ cs0) w):=by
 have hmem:(li,ps,ca,cb) ∈ rfs (liOf f) body:=hS _ (by simp [rfs])
 have rest:∀ {θ2:Th} {h2:H} {nx2 l:Nat} {w2:World} {df2:List AD} {mark:List Deferred} {v:AV},θ.le θ2→VR θ v (a.eval g)→HR P w0 pd θ2 h2 nx2 w2→θ2.has l→DsR θ2 df2 (mark ++ a.defers)→
   (Instr.enterLoop f a.tmps ps ca cb (rd.map θ.blk)).run P w = .ok (θ2.blk l,mark) w2→callvK tb v [.yl l] (.mk en (.irf l :: td) (.mk f df2 kd rd) :: cs) h2 nx2 κ=true→
   Goal P w0 cs0 f0 κ (lone ((bF f kd (rd.map θ.blk)).atR a (.code (.rangeFunc g ps ca cb) :: todo)) (Fs ++ cs0) w):=by
  intro θ2 h2 nx2 l w2 df2 mark v hle hv hR2 hl hd2 hrun e2
  have hx2:Fx P θ2 f fn body kd rd df2 { a with defers:=mark ++ a.defers } td todo:=⟨hx.hf,(hx.mono hle).hr,hd2,hx.hs,hx.ht.mono hle⟩
  have hw:WaitR P θ2 [] en (.irf l :: td) (.mk f df2 kd rd) ((bF f kd (rd.map θ.blk)).atR { a with defers:=mark ++ a.defers } (.inRangeFunc (θ2.blk l) :: todo)) false:=by
   intro θ' h' v u hle' hv
   show FR P θ' h' [] en (.erf l :: td) (.mk f df2 kd rd) _
   rw [finish_atR_inRangeFunc]
   have h3:=(((hx2.mono hle').more (t:=.erf l) (i:=.endRangeFunc (θ'.blk l)) (.erf (hle'.has l hl)))).run h' ((hE.mono hle).mono hle')
   rw [hx2.rdm hle',hx.rdm hle,hle'.blk l hl] at h3
   exact h3
  obtain ⟨d,n,k1,k2,k3⟩:=callv_ok ht e2 (hv.mono hle) (vs:=[.yl l]) ⟨hl,trivial⟩ hR2 (fun _=>⟨_,Fs,[],pd,rfl,rfl,hw,hC.mono hle⟩)
  have k1:(Deferred.ofValue (a.eval g) #[.func (.yield (θ2.blk l)) #[] #[]]).run P w2 = .ok d w2:=k1
  obtain ⟨s1,s2⟩:=stepR_rangeFunc_to (b:=bF f kd (rd.map θ.blk)) (k:=todo) (csM:=Fs ++ cs0) (g:=g) hrun k1 k2
  rcases k3 with ⟨g2,args,hn,hgo⟩ | ⟨l2,g2,tmps,x2,y2,hn,hgo⟩
  ·exact hgo.of_steps (.one (s1 _ _ hn))
  ·exact hgo.of_steps (.one (s2 _ _ _ _ _ hn))
 have hsize:=hR.size
 cases rd with
 | none=>
  have e:dX x en (fun v=>newK (.df true) h nx fun r h nx=>newK (.lp .ready .no f li en r) h nx fun l h nx=>callvK tb v [.yl l] (.mk en (.irf l :: td) (.mk f (.col r :: df) kd none) :: cs) h nx κ)=true:=e
  obtain ⟨v,e1,hv⟩:=arg_ok hg e hE
  obtain ⟨n1,e2⟩:=newK_true e1
  obtain ⟨n2,e3⟩:=newK_true e2
  obtain ⟨hR1,hl1⟩:=hR.new (w':=w.alloc (.deferred (some []))) (ob:=.deferred (some [])) rfl ⟨rfl,rfl,rfl⟩ n1 (a:=.df true) (bs:=0) (sz:=0) (es:=0) (by show _=_;rw [Th.put_blk];exact World.alloc_heap_new w _) (fun x hx=>by cases hx)
  have hr1:(θ.put nx w.heap.size 0 0 0).has nx:=Th.put_has ..
  obtain ⟨hR2,hl2⟩:=hR1.new (w':=(w.alloc (.deferred (some []))).alloc (.loop { state:=.ready,pending:=none,fn:=f,tmps:=a.tmps,params:=ps,assign:=ca,body:=cb,defers:=w.heap.size })) rfl ⟨rfl,rfl,rfl⟩ n2
   (a:=.lp .ready .no f li en nx) (bs:=0) (sz:=0) (es:=0) ⟨fn,body,ps,ca,cb,a.tmps,hx.hf.hfn,hx.hf.hbody,hx.hf.nrf,hmem,by
     rw [Th.put_blk,(Th.le_put (θ:=θ.put nx w.heap.size 0 0 0) (fun hh=>Nat.lt_irrefl _ (hR1.own _ hh).1) _ 0 0 0).blk nx hr1,Th.put_blk]
     exact World.alloc_heap_new _ _,(hE.mono hl1).mono (Th.le_put (fun hh=>Nat.lt_irrefl _ (hR1.own _ hh).1) _ 0 0 0),hx.hs,.inr hr1⟩ (fun x hx=>by cases hx)
  refine rest (hl1.trans hl2) hv hR2 (Th.put_has ..) (mark:=[{ target:=.collected w.heap.size,args:=#[] }]) ?_ ?_ e3
  ·refine ⟨a.defers,?_,hl2.has nx hr1,hx.hd.mono (hl1.trans hl2)⟩
   rw [hl2.blk nx hr1,Th.put_blk];rfl
  ·have:=run_enterLoop_outer (P:=P) (w:=w) f a.tmps ps ca cb
   rw [Th.put_blk]
   simp only [World.size_alloc]
   exact this
 | some l0=>
  obtain ⟨hl0,hk⟩:=hx.hr l0 rfl
  have e:dX x en (fun v=>get l0 h (asLp fun _ _ _ _ _ ds=>newK (.lp .ready .no f li en ds) h nx fun l h nx=>callvK tb v [.yl l] (.mk en (.irf l :: td) (.mk f df kd (some l0)) :: cs) h nx κ))=true:=e
  obtain ⟨v,e1,hv⟩:=arg_ok hg e hE
  obtain ⟨ao,g1,g2⟩:=get_true e1
  cases ao<;>first | (cases g2;done) | skip
  rename_i st j0 fnn li0 en' ds
  have g2:newK (.lp .ready .no f li en ds) h nx (fun l h nx=>callvK tb v [.yl l] (.mk en (.irf l :: td) (.mk f df kd (some l0)) :: cs) h nx κ)=true:=g2
  obtain ⟨n1,e2⟩:=newK_true g2
  obtain ⟨fu,code,ps',x',y',tmps,h1,h2,h3,h4,h5,h6,h7,h8⟩:=hR.obj_ hl0 g1
  have hnx:¬ θ.has nx:=fun hh=>Nat.lt_irrefl _ (hR.own _ hh).1
  obtain ⟨hR1,hl1⟩:=hR.new (w':=w.alloc (.loop { state:=.ready,pending:=none,fn:=f,tmps:=a.tmps,params:=ps,assign:=ca,body:=cb,defers:=θ.blk ds })) rfl ⟨rfl,rfl,rfl⟩ n1
   (a:=.lp .ready .no f li en ds) (bs:=0) (sz:=0) (es:=0) ⟨fn,body,ps,ca,cb,a.tmps,hx.hf.hfn,hx.hf.hbody,hx.hf.nrf,hmem,by
     rw [Th.put_blk,(Th.le_put hnx _ 0 0 0).blk ds h8]
     exact World.alloc_heap_new _ _,hE.mono (Th.le_put hnx _ 0 0 0),hx.hs,.inr h8⟩ (fun x hx=>by cases hx)
  refine rest hl1 hv hR1 (Th.put_has ..) (mark:=[]) (hx.hd.mono hl1) ?_ e2
  rw [Th.put_blk]
  exact run_enterLoop_inner h5 ..
theorem erf_ok {o:Nat} (e:erfK o en td (.mk f df kd rd) cs h nx κ=true) (hx:Fx P θ f fn body kd rd df a td todo) (ho:θ.has o) (hE:ER θ en a.tmps) (hR:HR P w0 pd θ h nx w) (hC:CsR P θ f0 f kd cs Fs pd) :
  Goal P w0 cs0 f0 κ (lone ((bF f kd (rd.map θ.blk)).atR a (.endRangeFunc (θ.blk o) :: todo)) (Fs ++ cs0) w):=by
 obtain ⟨ao,g1,g2⟩:=get_true e
 cases ao<;>first | (cases g2;done) | skip
 rename_i st j fnn li en' ds
 obtain ⟨r,h1,h2,h3,h4⟩:=lp_upd hR ho g1
 have g3:st≠.busy∧put o (.lp .exhausted j fnn li en' ds) h (fun h=>κ (.mk en (match j with | .no=>td | .ret=>.c .ret :: td | .exit id=>.c (.exit id) :: td) (.mk f df kd rd) cs h nx))=true:=by
  cases st<;>first | (cases g2;done) | skip
  all_goals (refine ⟨by simp,?_⟩;cases j<;>exact g2)
 obtain ⟨hb,g4⟩:=g3
 rw [put_eq] at g4
 have hrun:=run_endLoop (P:=P) h1 (by rw [h2];exact hb)
 rw [h3] at hrun
 refine Goal.of_steps (.one (stepR_endRangeFunc hrun)) (Fx.goal (cs0:=cs0) (hx.tdm ?_) hE ?_ hC g4)
 ·cases j with
  | no=>exact hx.ht
  | ret=>exact .cons (.code (k:=0) (c:=.ret) (fun e he=>by simp [rfs] at he) (.refl _)) hx.ht
  | exit id=>exact .cons (.code (k:=0) (c:=.exit id) (fun e he=>by simp [rfs] at he) (.refl _)) hx.ht
 ·exact h4 .exhausted j
theorem br_ok (e:brK en td (.mk f df kd rd) cs h nx κ=true) (hx:Fx P θ f fn body kd rd df a td todo) (hE:ER θ en a.tmps) (hR:HR P w0 pd θ h nx w) (hC:CsR P θ f0 f kd cs Fs pd) :
  Goal P w0 cs0 f0 κ (lone ((bF f kd (rd.map θ.blk)).atR a (.beginRound :: todo)) (Fs ++ cs0) w):=by
 cases rd with
 | none=>cases e
 | some o=>
  obtain ⟨ho,_⟩:=hx.hr o rfl
  obtain ⟨ao,g1,g2⟩:=get_true (show get o h (asLp fun st j fn li en' ds=>match st with
   | .ready=>put o (.lp .busy j fn li en' ds) h fun h=>κ (.mk en td (.mk f df kd (some o)) cs h nx)
   | _=>false)=true from e)
  cases ao<;>first | (cases g2;done) | skip
  rename_i st j fnn li en' ds
  cases st<;>first | (cases g2;done) | skip
  have g2:put o (.lp .busy j fnn li en' ds) h (fun h=>κ (.mk en td (.mk f df kd (some o)) cs h nx))=true:=g2
  rw [put_eq] at g2
  obtain ⟨r,h1,h2,h3,h4⟩:=lp_upd hR ho g1
  have h5:=h4 .busy j
  rw [← h3] at h5
  exact (hx.goal hE h5 hC g2).of_steps (.one (stepR_beginRound (b:=bF f kd ((some o).map θ.blk)) rfl (run_beginRound h1 h2)))
theorem exitTo_ok {id:Nat}:∀ {td:List T} {todo:List Item},TdR P θ f fn.ntmps body td todo→(∀ k,exitTo' id td=some k→∃ k',exitTo id todo=some k'∧TdR P θ f fn.ntmps body k k')∧(exitTo' id td=none→exitTo id todo=none):=by
 intro td todo h
 induction h with
 | nil=>exact ⟨(fun k hk=>by cases hk),fun _=>rfl⟩
 | @cons t i td todo h r ih=>
  cases h with
  | blk id'=>
   have e1:exitTo' id (T.blk id' :: td) = @Bool.rec (fun _=>Option (List T)) (exitTo' id td) (some td) (Nat.beq id' id):=rfl
   have e2:exitTo id (Item.inBlock id' :: todo)=if id' == id then some todo else exitTo id todo:=rfl
   rw [e1,e2]
   cases hb:Nat.beq id' id with
   | true=>
    have:(id' == id)=true:=beq_iff_eq.2 (Nat.eq_of_beq_eq_true hb)
    rw [this]
    exact ⟨(fun k hk=>⟨todo,rfl,by injection hk with hk;subst hk;exact r⟩),(fun hk=>by cases hk)⟩
   | false=>
    have:(id' == id)=false:=beq_eq_false_iff_ne.2 (fun e=>by rw [e,Nat.beq_refl] at hb;cases hb)
    rw [this]
    exact ih
  | _=>exact ih
theorem range_get (ops:Array Oper):(List.range ops.size).filterMap (ops[·]?)=ops.toList:=by
 have:∀ (l:List Oper) (p:List Oper),(List.range' p.length l.length).filterMap ((p ++ l)[·]?)=l:=by
  intro l
  induction l with
  | nil=>intro p;rfl
  | cons o l ih=>
   intro p
   rw [List.length_cons,List.range'_succ,List.filterMap_cons]
   have e1:(p ++ o :: l)[p.length]? = some o:=by simp
   rw [e1]
   have e2:=ih (p ++ [o])
   simp only [List.length_append,List.length_singleton,List.append_assoc,List.singleton_append] at e2
   rw [e2]
 have h:=this ops.toList []
 simp only [List.length_nil,List.nil_append,Array.length_toList] at h
 rw [List.range_eq_range']
 simpa using h
def Tb.lv:Tb→Bool
 | .mk _ _ lv=>lv
def Tb.lo:Tb→Tb
 | .mk f l _=>.mk f l false
theorem TbOk.low (ht:TbOk tb P):TbOk tb.lo P:=by
 obtain ⟨f,l,lv⟩:=tb
 exact ⟨fun e=>ht.fn e,fun e=>ht.lp e,fun e=>ht.en e⟩
def LoOk (P:Program) (w0:World) (cs0:List Frame) (f0:F0) (tb:Tb):Prop:=tb.lv=true→∀ (n:Nat) (s:ASt) (m:Machine) (κ:ASt→R),StR P w0 cs0 f0 s m→run tb.lo n s κ=true→Goal P w0 cs0 f0 κ m
theorem spl_case (hlo:LoOk P w0 cs0 f0 tb) {c:Code} {k:Nat} {td:List T} {todo:List Item} {a:Act} {en:Env} {w:World} {C':C} (hS:Sub f body k c) (hx:Fx P θ f fn body kd rd df a td todo) (hE:ER θ en a.tmps) (hR:HR P w0 pd θ h nx w) (hC:CsR P θ f0 f kd cs Fs pd)
  (hcr:CR C' (dC (trC P fn.ntmps k c))) (e:codeK tb C' en td (.mk f df kd rd) cs h nx κ=true) :
  (∃ C2,CRs C2 (dC (trC P fn.ntmps k c))∧codeK tb C2 en td (.mk f df kd rd) cs h nx κ=true)∨Goal P w0 cs0 f0 κ (lone ((bF f kd (rd.map θ.blk)).atR a (.code c :: todo)) (Fs ++ cs0) w):=by
 rcases hcr.inv with ⟨s,rfl,hs⟩ | rfl | hc
 ·have e:splK tb s (codeK tb (dC (trC P fn.ntmps k c))) en td (.mk f df kd rd) cs h nx κ=true:=e
  obtain ⟨F,Lp,lv⟩:=tb
  cases lv with
  | false=>exact .inl ⟨_,.refl _,e⟩
  | true=>
   obtain ⟨n,hn⟩:=hs F Lp en td (.mk f df kd rd) cs h nx κ e
   exact .inr (hlo rfl n _ _ κ (.mk (q:=[]) hR ((hx.more (.code hS (.refl _))).run h hE) hC) hn)
 ·have e:false=true:=e
  cases e
 ·exact .inl ⟨_,hc,e⟩
theorem code_ok (ht:TbOk tb P) (hm:P.follows .mixedOrders=true) (hlo:LoOk P w0 cs0 f0 tb):∀ (c:Code) (k:Nat) (td:List T) (todo:List Item) (a:Act) (en:Env) (w:World) (C':C),Sub f body k c→Fx P θ f fn body kd rd df a td todo→ER θ en a.tmps→HR P w0 pd θ h nx w→CsR P θ f0 f kd cs Fs pd→
  CR C' (dC (trC P fn.ntmps k c))→codeK tb C' en td (.mk f df kd rd) cs h nx κ=true→Goal P w0 cs0 f0 κ (lone ((bF f kd (rd.map θ.blk)).atR a (.code c :: todo)) (Fs ++ cs0) w):=by
 intro c
 induction c with
 | skip=>
  intro k td todo a en w C' hS hx hE hR hC hcr e
  rcases spl_case hlo hS hx hE hR hC hcr e with ⟨C2,hc,e⟩ | hg
  rotate_left;exact hg
  have hc:C2=dC (trC P fn.ntmps k .skip):=hc
  subst hc
  exact (hx.goal hE hR hC e).of_steps (.one stepR_skip)
 | label l=>
  intro k td todo a en w C' hS hx hE hR hC hcr e
  rcases spl_case hlo hS hx hE hR hC hcr e with ⟨C2,hc,e⟩ | hg
  rotate_left;exact hg
  have hc:C2=dC (trC P fn.ntmps k (.label l)):=hc
  subst hc
  exact (hx.goal hE hR hC e).of_steps (.one stepR_label)
 | goto l=>
  intro k td todo a en w C' hS hx hE hR hC hcr e
  rcases spl_case hlo hS hx hE hR hC hcr e with ⟨C2,hc,e⟩ | hg
  rotate_left;exact hg
  have hc:C2=C.bad:=hc
  subst hc;cases e
 | refuse s=>
  intro k td todo a en w C' hS hx hE hR hC hcr e
  rcases spl_case hlo hS hx hE hR hC hcr e with ⟨C2,hc,e⟩ | hg
  rotate_left;exact hg
  have hc:C2=C.bad:=hc
  subst hc;cases e
 | region id ops draw=>
  intro k td todo a en w C' hS hx hE hR hC hcr e
  rcases spl_case hlo hS hx hE hR hC hcr e with ⟨C2,hc,e⟩ | hg
  rotate_left;exact hg
  have hc:C2=C.rg (dR (trR P fn.ntmps ops draw)):=hc
  subst hc
  have e:rgK tb (dR (trR P fn.ntmps ops draw)) en td (.mk f df kd rd) cs h nx κ=true:=e
  unfold trR at e
  cases draw with
  | false=>
   simp only [Bool.false_eq_true,if_false] at e
   rw [← range_get ops] at e
   exact (reg_plain ht _ θ a h nx w en (fun i hi=>List.mem_range.1 hi) hx hR hC hE e).of_steps (.one stepR_region)
  | true=>
   simp only [if_true] at e
   split at e
   ·rename_i l hl
    rw [frcL_eq] at e
    split at e
    ·rename_i hok
     have hR':HR P w0 (([]:List (Nat × Nat × AO)).map (·.2) ++ pd) θ h nx { w with drawn:=w.drawn + 1 }:=hR.same rfl ⟨rfl,rfl,rfl⟩
     refine (reg_draw (qs:=[]) ht l θ a h nx _ en en [] [] _ (fun _=>False) ⟨hok,lin_schedule hm _,fun i hi=>hi.elim,fun i hi=>hi.elim,trivial,(fun i hi=>by cases hi),hE,fun t _ _=>rfl,(fun i hi=>by cases hi)⟩ hx hR' hC e).of_steps (.one stepR_region_draw)
    ·rw [rgK_op] at e;cases e
   ·rw [rgK_op] at e;cases e
 | seq x y ihx ihy=>
  intro k td todo a en w C' hS hx hE hR hC hcr e
  rcases spl_case hlo hS hx hE hR hC hcr e with ⟨C2,hc,e⟩ | hg
  rotate_left;exact hg
  obtain ⟨c1,c2,rfl,h1,h2⟩:∃ a b,C2 = .seq a b∧CR a (dC (trC P fn.ntmps k x))∧CR b (dC (trC P fn.ntmps (k + nrf x) y)):=hc
  exact (ihx k _ _ a en w c1 (fun e he=>hS e (by simp only [rfs,List.mem_append];exact .inl he)) (hx.more (.code (k:=k + nrf x) (c:=y) (fun e he=>hS e (by simp only [rfs,List.mem_append];exact .inr he)) h2)) hE hR hC h1 e).of_steps (.one stepR_seq)
 | cond g x y ihx ihy=>
  intro k td todo a en w C' hS hx hE hR hC hcr e
  rcases spl_case hlo hS hx hE hR hC hcr e with ⟨C2,hc,e⟩ | hg
  rotate_left;exact hg
  have hc:CRs C2 (dC (match trX g with | some z=>.cond z (trC P fn.ntmps k x) (trC P fn.ntmps (k + nrf x) y) | none=>.bad)):=hc
  split at hc
  ·rename_i z hz
   obtain ⟨c1,c2,rfl,h1,h2⟩:∃ a b,C2 = .cond (dX z) a b∧CR a (dC (trC P fn.ntmps k x))∧CR b (dC (trC P fn.ntmps (k + nrf x) y)):=hc
   have e:dX z en (asB fun c=>br c (codeK tb c1 en td (.mk f df kd rd) cs h nx κ) (codeK tb c2 en td (.mk f df kd rd) cs h nx κ))=true:=e
   obtain ⟨v,e1,hv⟩:=arg_ok hz e hE
   obtain ⟨c,rfl,e2⟩:=asB_true e1
   have hc:a.eval g = .bool c:=hv.2
   cases c with
   | true=>exact (ihx k td todo a en w c1 (fun e he=>hS e (by simp only [rfs,List.mem_append];exact .inl he)) hx hE hR hC h1 e2).of_steps (.one (stepR_cond hc))
   | false=>exact (ihy _ td todo a en w c2 (fun e he=>hS e (by simp only [rfs,List.mem_append];exact .inr he)) hx hE hR hC h2 e2).of_steps (.one (stepR_cond hc))
  ·have hc:C2=C.bad:=hc
   subst hc;cases e
 | block id x ih=>
  intro k td todo a en w C' hS hx hE hR hC hcr e
  rcases spl_case hlo hS hx hE hR hC hcr e with ⟨C2,hc,e⟩ | hg
  rotate_left;exact hg
  obtain ⟨c1,rfl,h1⟩:∃ a,C2 = .blk id a∧CR a (dC (trC P fn.ntmps k x)):=hc
  exact (ih k _ _ a en w c1 hS (hx.more (.blk id)) hE hR hC h1 e).of_steps (.one stepR_block)
 | loop x ih=>
  intro k td todo a en w C' hS hx hE hR hC hcr e
  rcases spl_case hlo hS hx hE hR hC hcr e with ⟨C2,hc,e⟩ | hg
  rotate_left;exact hg
  obtain ⟨c1,rfl,h1⟩:∃ a,C2 = .loop a∧CR a (dC (trC P fn.ntmps k x)):=hc
  exact (ih k _ _ a en w c1 hS (hx.more (IR.lp (c:=x) hS h1)) hE hR hC h1 e).of_steps (.one stepR_loop)
 | scope x ih=>
  intro k td todo a en w C' hS hx hE hR hC hcr e
  rcases spl_case hlo hS hx hE hR hC hcr e with ⟨C2,hc,e⟩ | hg
  rotate_left;exact hg
  obtain ⟨c1,rfl,h1⟩:∃ a,C2 = .sc a∧CR a (dC (trC P fn.ntmps k x)):=hc
  exact (ih k _ _ a en w c1 hS (hx.more (.sc x)) hE hR hC h1 e).of_steps (.one stepR_scope)
 | rangeFunc g ps x y=>
  intro k td todo a en w C' hS hx hE hR hC hcr e
  rcases spl_case hlo hS hx hE hR hC hcr e with ⟨C2,hc,e⟩ | hg
  rotate_left;exact hg
  have hc:CRs C2 (dC (match trX g with | some z=>.rf z k | none=>.bad)):=hc
  split at hc
  ·rename_i z hz
   have hc:C2=C.rf (dX z) k:=hc
   subst hc
   exact rf_ok ht hz e hx hS hE hR hC
  ·have hc:C2=C.bad:=hc
   subst hc;cases e
 | exit id=>
  intro k td todo a en w C' hS hx hE hR hC hcr e
  rcases spl_case hlo hS hx hE hR hC hcr e with ⟨C2,hc,e⟩ | hg
  rotate_left;exact hg
  have hc:C2=C.exit id:=hc
  subst hc
  have e:exitK id en td (.mk f df kd rd) cs h nx κ=true:=e
  obtain ⟨x1,x2⟩:=exitTo_ok (id:=id) hx.ht
  unfold exitK at e
  cases hex:exitTo' id td with
  | some k2=>
   rw [hex] at e
   obtain ⟨k',y1,y2⟩:=x1 k2 hex
   exact ((hx.tdm y2).goal hE hR hC e).of_steps (.one (stepR_exit y1))
  | none=>
   rw [hex] at e
   have y1:=x2 hex
   cases rd with
   | none=>cases e
   | some o=>
    obtain ⟨ho,hk⟩:=hx.hr o rfl
    subst hk
    have e:endK o (.exit id) false cs h nx κ=true:=e
    refine endK_ok e hR ho hC (fun c rest v w' hr hF=>?_)
    rw [hF]
    exact .one (stepR_round_exit (b:=bF f false ((some o).map θ.blk)) rfl rfl y1 hr)
 | ret=>
  intro k td todo a en w C' hS hx hE hR hC hcr e
  rcases spl_case hlo hS hx hE hR hC hcr e with ⟨C2,hc,e⟩ | hg
  rotate_left;exact hg
  have hc:C2=C.ret:=hc
  subst hc
  have e:leaveK .ret en td (.mk f df kd rd) cs h nx κ=true:=e
  refine leave_ok e hx hE hR hC (fun hr=>?_) (fun o ho c rest v w' hr=>fun hF=>?_)
  ·subst hr;exact .one (stepR_ret (b:=bF f kd ((none:Option Nat).map θ.blk)) rfl)
  ·subst ho
   have hk:=(hx.hr o rfl).2
   subst hk
   exact .one (stepR_round_ret (b:=bF f false ((some o).map θ.blk)) rfl rfl hr)
theorem step_ok (ht:TbOk tb P) (hm:P.follows .mixedOrders=true) (hlo:LoOk P w0 cs0 f0 tb) {s:ASt} {m:Machine} (hs:StR P w0 cs0 f0 s m) (e:stepK tb s κ=true):Goal P w0 cs0 f0 κ m:=by
 cases hs with
 | fin hR hv hl hfn=>cases e
 | @mk en td fr cs h nx θ q pd F Fs w hR hF hC=>
  have e:todoK tb td en fr cs h nx κ=true:=e
  cases hF with
  | @run _ _ f df kd rd a todo fn body hf hr hd hs hE htd=>
   have hR:HR P w0 pd θ h nx w:=hR
   cases htd with
   | nil=>
    have e:leaveK .no en [] (.mk f df kd rd) cs h nx κ=true:=e
    have hx:Fx P θ f fn body kd rd df a [] []:=⟨hf,hr,hd,hs,.nil⟩
    refine leave_ok e hx hE hR hC (fun hn=>?_) (fun o ho c rest v w' hrun=>fun hF=>?_)
    ·subst hn;exact .one (stepR_end (b:=bF f kd ((none:Option Nat).map θ.blk)) rfl)
    ·subst ho
     have hk:=(hx.hr o rfl).2
     subst hk
     exact .one (stepR_round_end (b:=bF f false ((some o).map θ.blk)) rfl rfl hrun)
   | @cons t i td todo hi htd=>
    have hx:Fx P θ f fn body kd rd df a td todo:=⟨hf,hr,hd,hs,htd⟩
    cases hi with
    | code hS hcr=>exact code_ok ht hm hlo _ _ td todo a en w _ hS hx hE hR hC hcr e
    | reg hi=>exact reg_plain ht _ θ a h nx w en hi hx hR hC hE e
    | blk id=>exact (hx.goal hE hR hC e).of_steps (.one stepR_inBlock)
    | lp hS hcr=>exact (code_ok ht hm hlo _ _ _ _ a en w _ hS (hx.more (IR.lp hS hcr)) hE hR hC hcr e).of_steps (.one stepR_inLoop)
    | sc c=>exact (hx.goal hE hR hC e).of_steps (.one stepR_inScope)
    | irf ho=>cases e
    | erf ho=>exact erf_ok e hx ho hE hR hC
    | br=>exact br_ok e hx hE hR hC
  | draw hf hr hd hs htd hD=>exact reg_draw ht _ θ _ h nx w en _ _ _ _ _ _ hD ⟨hf,hr,hd,hs,htd⟩ hR hC e
  | ret hf hd hE=>exact ret_ok ht e hf hd hE hR hC
theorem run_ok0 (ht:TbOk tb P) (hm:P.follows .mixedOrders=true) (hlo:LoOk P w0 cs0 f0 tb):∀ (n:Nat) (s:ASt) (m:Machine),StR P w0 cs0 f0 s m→run tb n s κ=true→Goal P w0 cs0 f0 κ m
 | 0,s,m,hs,e=>⟨s,m,.refl P m,hs,e⟩
 | n + 1,s,m,hs,e=>by
  obtain ⟨s',m',h1,h2,h3⟩:=step_ok ht hm hlo (κ:=fun s=>run tb n s κ) hs e
  exact (run_ok0 ht hm hlo n s' m' h2 h3).of_steps h1
theorem lo_ok (ht:TbOk tb P) (hm:P.follows .mixedOrders=true):LoOk P w0 cs0 f0 tb:=by
 intro _ n s m κ hs e
 exact run_ok0 ht.low hm (by obtain ⟨f,l,lv⟩:=tb;intro h;cases h) n s m hs e
theorem runF_ok (ht:TbOk tb P) (hm:P.follows .mixedOrders=true) {κ:AV→H→Nat→R}:∀ (n:Nat) (s:ASt) (m:Machine),StR P w0 cs0 f0 s m→runF tb n s κ=true→
  ∃ v h nx m',Steps P m m'∧StR P w0 cs0 f0 (.fin v h nx) m'∧κ v h nx=true
 | 0,s,m,hs,e=>by cases e
 | n + 1,s,m,hs,e=>by
  cases s with
  | mk en td fr cs h nx=>
   have e:stepK tb (.mk en td fr cs h nx) (fun s=>runF tb n s κ)=true:=e
   obtain ⟨s',m',h1,h2,h3⟩:=step_ok ht hm (lo_ok ht hm) hs e
   obtain ⟨v,h,nx,m2,k1,k2,k3⟩:=runF_ok ht hm n s' m' h2 h3
   exact ⟨v,h,nx,m2,h1.trans k1,k2,k3⟩
  | fin v h nx=>exact ⟨v,h,nx,m,.refl P m,hs,e⟩
end
end Go.AM

namespace Go.AM
open Go
def mkT {α:Type} (n:Nat):List (Nat × α)→L (Option α) n
 | []=>repL (Option α) none n
 | (i,x) :: l=>setL (Option α) (some x) n i (mkT n l)
theorem mkT_get {α:Type} {n:Nat} {i:Nat} {x:α} (hi:i < 8 ^ n):∀ {l:List (Nat × α)},(∀ p ∈ l,p.1 < 8 ^ n)→getL (Option α) n i (mkT n l)=some x→(i,x) ∈ l
 | [],_,h=>by
  have:getL (Option α) n i (repL (Option α) none n)=some x:=h
  rw [getL_repL] at this
  cases this
 | (j,y) :: l,hl,h=>by
  have h:getL (Option α) n i (setL (Option α) (some y) n j (mkT n l))=some x:=h
  by_cases e:i=j
  ·subst e
   rw [getL_setL] at h
   injection h with h;subst h
   exact List.mem_cons_self ..
  ·rw [getL_setL_ne (some y) n _ (hl _ (List.mem_cons_self ..)) hi e] at h
   exact List.mem_cons_of_mem _ (mkT_get hi (fun p hp=>hl p (List.mem_cons_of_mem _ hp)) h)
theorem getL_clip {α:Type} (n:Nat) (t:L α (n + 1)) {i:Nat} (hi:8 ^ (n + 1)≤i):getL α (n + 1) i t=getL α (n + 1) (7 * 8 ^ n + i % 8 ^ n) t:=by
 have hp:0 < 8 ^ n:=Nat.pow_pos (by omega)
 show getL α n (i % 8 ^ n) (ch (i / 8 ^ n) (t:N8 (L α n)))=getL α n ((7 * 8 ^ n + i % 8 ^ n) % 8 ^ n) (ch ((7 * 8 ^ n + i % 8 ^ n) / 8 ^ n) (t:N8 (L α n)))
 have hlt:=Nat.mod_lt i hp
 have e1:(7 * 8 ^ n + i % 8 ^ n) % 8 ^ n=i % 8 ^ n:=by
  rw [Nat.mul_comm,Nat.mul_add_mod,Nat.mod_mod]
 have e2:(7 * 8 ^ n + i % 8 ^ n) / 8 ^ n=7:=by
  rw [Nat.mul_comm,Nat.mul_add_div hp,Nat.div_eq_of_lt hlt]
 obtain ⟨k,e3⟩:∃ k,i / 8 ^ n=k + 7:=by
  have:8≤i / 8 ^ n:=(Nat.le_div_iff_mul_le hp).2 (by rw [Nat.pow_succ] at hi;omega)
  exact ⟨i / 8 ^ n - 7,by omega⟩
 rw [e1,e2,e3]
 have:∀ t:N8 (L α n),ch (k + 7) t=ch 7 t:=by intro t;cases t;rfl
 exact congrArg _ (this _)
theorem mkT_at {α:Type} {n:Nat} {i:Nat} {x:α} {l:List (Nat × α)} (hl:∀ p ∈ l,p.1 < 7 * 8 ^ n) (h:getL (Option α) (n + 1) i (mkT (n + 1) l)=some x):(i,x) ∈ l:=by
 have hp:0 < 8 ^ n:=Nat.pow_pos (by omega)
 have hl':∀ p ∈ l,p.1 < 8 ^ (n + 1):=fun p hp=>by have:=hl p hp;rw [Nat.pow_succ];omega
 by_cases hi:i < 8 ^ (n + 1)
 ·exact mkT_get hi hl' h
 ·rw [getL_clip n _ (Nat.le_of_not_lt hi)] at h
  have hm:=mkT_get (by have:=Nat.mod_lt i hp;rw [Nat.pow_succ];omega) hl' h
  have:=hl _ hm
  simp only at this
  omega
def All {α:Type} (p:α→Prop):List α→Prop
 | []=>True
 | x :: l=>p x∧All p l
theorem All.mem {α:Type} {p:α→Prop}:∀ {l:List α},All p l→∀ x ∈ l,p x
 | [],_,x,hx=>by cases hx
 | y :: l,h,x,hx=>by
  rcases List.mem_cons.1 hx with rfl | hx
  ·exact h.1
  ·exact h.2.mem x hx
theorem All.app {α:Type} {p:α→Prop}:∀ {l r:List α},All p l→All p r→All p (l ++ r)
 | [],_,_,h=>h
 | _ :: _,_,h,h'=>⟨h.1,h.2.app h'⟩
def FOk (P:Program):Nat × AFn→Prop
 | (f,.mk c r)=>f < 3584∧∃ c0,trF P f=some (.mk c0 r)∧CR c c0
 | (f,.sp s)=>f < 3584∧(∃ fn body,FnC P f fn body)∧SpOk P f s
def LOk (P:Program) (p:Nat × ALp):Prop:=p.1 < 28672∧trL P p.1=some p.2
theorem fOk {P:Program} {f:Nat} {c:C} {r:ResF} (h1:f < 3584) (h2:trF P f=some (.mk c r)):FOk P (f,.mk c r):=⟨h1,c,h2,.refl _⟩
inductive PM where
 | all
 | cut
 | two (a b:PM)
 | one (a:PM)
noncomputable def prune (m:PM):C→C:=
 @PM.rec (fun _=>C→C) (fun c=>c) (fun _=>.bad)
  (fun _ _ ia ib c=>@C.rec (fun _=>C) c (fun _=>c) (fun a b _ _=>.seq (ia a) (ib b)) (fun x a b _ _=>.cond x (ia a) (ib b)) (fun _ _ _=>c) (fun _ _=>c) (fun _ _=>c) (fun _=>c) (fun _ _=>c) c c (fun _ _ _=>c) c)
  (fun _ ia c=>@C.rec (fun _=>C) c (fun _=>c) (fun _ _ _ _=>c) (fun _ _ _ _ _=>c) (fun id a _=>.blk id (ia a)) (fun a _=>.loop (ia a)) (fun _ _=>c) (fun _=>c) (fun a _=>.sc (ia a)) c c (fun _ _ _=>c) c) m
theorem prune_cr:∀ (m:PM) (c:C),CR (prune m c) c
 | .all,c=>.refl c
 | .cut,c=>.bad c
 | .two m n,c=>by
  cases c with
  | seq a b=>exact .seq (prune_cr m a) (prune_cr n b)
  | cond x a b=>exact .cond (prune_cr m a) (prune_cr n b)
  | _=>exact .refl _
 | .one m,c=>by
  cases c with
  | blk id a=>exact .blk (prune_cr m a)
  | loop a=>exact .loop (prune_cr m a)
  | sc a=>exact .sc (prune_cr m a)
  | _=>exact .refl _
noncomputable def pruneF (m:PM) (o:Option AFn):Option AFn:=@Option.rec AFn (fun _=>Option AFn) none (fun u=>@AFn.rec (fun _=>Option AFn) (fun c r=>some (.mk (prune m c) r)) (fun _=>none) u) o
theorem fOkP {P:Program} {f:Nat} {m:PM} {c:C} {r:ResF} (h1:f < 3584) (h2:pruneF m (trF P f)=some (.mk c r)):FOk P (f,.mk c r):=by
 refine ⟨h1,?_⟩
 cases ht:trF P f with
 | none=>rw [ht] at h2;cases h2
 | some u=>
  rw [ht] at h2
  cases u with
  | sp s=>cases h2
  | mk c0 r0=>
   have h2:some (AFn.mk (prune m c0) r0)=some (.mk c r):=h2
   injection h2 with h2
   injection h2 with h3 h4
   subst h3 h4
   exact ⟨c0,rfl,prune_cr m c0⟩
theorem tbOk {P:Program} {lv:Bool} {fl:List (Nat × AFn)} {ll:List (Nat × ALp)} (hf:All (FOk P) fl) (hl:All (LOk P) ll):TbOk (.mk (mkT 4 fl) (mkT 5 ll) lv) P where
 fn:=by
  intro f κ e
  have e:getK (Option AFn) (opt AFn fun u=>match u with | .mk c r=>κ c r | .sp _=>false) 4 f (mkT 4 fl)=true:=e
  rw [getK_eq] at e
  cases hg:getL (Option AFn) 4 f (mkT 4 fl) with
  | none=>rw [hg] at e;cases e
  | some u=>
   rw [hg] at e
   have hm:=mkT_at (n:=3) (l:=fl) (fun p hp=>by have:=hf.mem p hp;obtain ⟨g,u⟩:=p;cases u<;>exact this.1) hg
   have:=hf.mem _ hm
   cases u with
   | mk c r=>obtain ⟨c0,k1,k2⟩:=this.2;exact ⟨c0,c,r,k1,k2,e⟩
   | sp s=>cases e
 en:=by
  intro f κ σ e
  have e:getK (Option AFn) (opt AFn fun u=>match u with | .mk c _=>κ c | .sp s=>σ s) 4 f (mkT 4 fl)=true:=e
  rw [getK_eq] at e
  cases hg:getL (Option AFn) 4 f (mkT 4 fl) with
  | none=>rw [hg] at e;cases e
  | some u=>
   rw [hg] at e
   have hm:=mkT_at (n:=3) (l:=fl) (fun p hp=>by have:=hf.mem p hp;obtain ⟨g,u⟩:=p;cases u<;>exact this.1) hg
   have:=hf.mem _ hm
   cases u with
   | mk c r=>obtain ⟨c0,k1,k2⟩:=this.2;exact .inl ⟨c0,c,r,k1,k2,e⟩
   | sp s=>obtain ⟨fn,body,hfc⟩:=this.2.1;exact .inr ⟨s,fn,body,hfc,this.2.2,e⟩
 lp:=by
  intro l κ e
  have e:getK (Option ALp) (opt ALp fun u=>match u with | .mk p a b=>κ p a b) 5 l (mkT 5 ll)=true:=e
  rw [getK_eq] at e
  cases hg:getL (Option ALp) 5 l (mkT 5 ll) with
  | none=>rw [hg] at e;cases e
  | some u=>
   rw [hg] at e
   have hm:=mkT_at (n:=4) (l:=ll) (fun p hp=>(hl.mem p hp).1) hg
   have:=hl.mem _ hm
   cases u with
   | mk p a b=>exact ⟨p,a,b,this.2,e⟩
def h0:H:=repL (Option AO) none 5
def θ0 (X:Nat→Value) (hX:∀ n,(X n).oneCell' = true):Th:={ has:=fun _=>False,blk:=fun _=>0,bas:=fun _=>0,siz:=fun _=>0,esz:=fun _=>0,ini:=fun _=>False,ext:=X,ext1:=hX }
theorem hr0 (P:Program) (w:World) {X:Nat→Value} (hX:∀ n,(X n).oneCell' = true):HR P w [] (θ0 X hX) h0 0 w where
 lim:=by omega
 own o ho:=ho.elim
 apart o o' a a' _ ho:=ho.elim
 size:=Nat.le_refl _
 kept b hb _:=rfl
 plain:=⟨rfl,rfl,rfl⟩
 pend o a h:=by cases h
 nodup:=List.nodup_nil
 fresh o a _ h:=by
  have:obj h0 o=none:=getL_repL _ 5 o
  rw [this] at h;cases h
noncomputable def goF (tb:Tb) (n f:Nat) (vs:List AV) (κ:AV→H→Nat→R):R:=enterK tb f vs false [] h0 0 fun s=>runF tb n s κ
theorem go_calls {P:Program} {tb:Tb} (ht:TbOk tb P) (hm:P.follows .mixedOrders=true) {n f:Nat} {vs:List AV} {κ:AV→H→Nat→R} {X:Nat→Value} (hX:∀ n,(X n).oneCell' = true) (hv:Oks (θ0 X hX) vs) (e:goF tb n f vs κ=true) (w:World) :
  Calls P f (toVs (θ0 X hX) vs).toArray w fun r w'=>∃ v h nx θ u,r = .returned u∧VR θ v u∧HR P w [] θ h nx w'∧κ v h nx=true∧(θ0 X hX).le θ:=by
 intro cs0
 obtain ⟨_,_,_,s,m1,h1,h2,h3⟩:=enter_ok (f0:=⟨f,[],θ0 X hX⟩) (cs0:=cs0) (κ:=fun s=>runF tb n s κ) ht e hv (hr0 P w hX) (Fs:=[]) ⟨rfl,rfl,rfl,rfl,.refl _⟩
 obtain ⟨v,h,nx,m2,k1,k2,k3⟩:=runF_ok ht hm n s m1 h2 h3
 cases k2 with
 | @fin _ u _ _ θ F w' hR hv' hl hfn hle=>
  exact ⟨.returned u,w',F,⟨v,h,nx,θ,u,rfl,hv',hR,k3,hle⟩,h1.trans k1,hfn,hl⟩
theorem go_true {P:Program} {tb:Tb} (ht:TbOk tb P) (hm:P.follows .mixedOrders=true) {n f:Nat} {vs:List AV} {X:Nat→Value} (hX:∀ n,(X n).oneCell' = true) (hv:Oks (θ0 X hX) vs)
  (e:goF tb n f vs (fun v _ _=>match v with | .b c=>c | _=>false)=true) (w:World) :
  Calls P f (toVs (θ0 X hX) vs).toArray w fun r w'=>r = .returned (.bool true)∧w'.os=w.os∧w'.tape=w.tape∧w'.output=w.output∧w.heap.size≤w'.heap.size∧∀ b,b < w.heap.size→w'.heap[b]? = w.heap[b]?:=by
 intro cs0
 obtain ⟨r,w',fr,⟨v,h,nx,θ,u,rfl,hv,hR,hk,hle⟩,hc,hfn,hl⟩:=go_calls ht hm hX hv e w cs0
 refine ⟨_,w',fr,⟨?_,hR.plain.1,hR.plain.2.1,hR.plain.2.2,hR.size,fun b hb=>hR.kept b hb (by rw [hle.ini];exact id)⟩,hc,hfn,hl⟩
 cases v<;>first | (cases hk;done) | skip
 rename_i c
 have hk:c=true:=hk
 subst hk
 rw [hv.b]
end Go.AM

namespace Go.AM
open Go
theorem ext_L {α:Type}:∀ (n:Nat) (t u:L α n),(∀ i,i < 8 ^ n→getL α n i t=getL α n i u)→t=u
 | 0,t,u,h=>h 0 (by simp)
 | n + 1,t,u,h=>by
  have key:∀ t u:N8 (L α n),(∀ c,c < 8→ch c t=ch c u)→t=u:=by
   intro t u hc
   cases t
   cases u
   have h0:=hc 0 (by omega)
   have h1:=hc 1 (by omega)
   have h2:=hc 2 (by omega)
   have h3:=hc 3 (by omega)
   have h4:=hc 4 (by omega)
   have h5:=hc 5 (by omega)
   have h6:=hc 6 (by omega)
   have h7:=hc 7 (by omega)
   simp only [ch] at h0 h1 h2 h3 h4 h5 h6 h7
   subst h0 h1 h2 h3 h4 h5 h6 h7
   rfl
  refine key t u fun c hc=>ext_L n _ _ fun i hi=>?_
  have hp:0 < 8 ^ n:=Nat.pow_pos (by omega)
  have hlt:c * 8 ^ n + i < 8 ^ (n + 1):=by
   have:(c + 1) * 8 ^ n≤8 * 8 ^ n:=Nat.mul_le_mul_right _ (by omega)
   rw [Nat.pow_succ]
   rw [Nat.add_mul] at this
   omega
  have:=h _ hlt
  have e1:(c * 8 ^ n + i) / 8 ^ n=c:=by
   rw [Nat.mul_comm,Nat.mul_add_div hp,Nat.div_eq_of_lt hi];rfl
  have e2:(c * 8 ^ n + i) % 8 ^ n=i:=by
   rw [Nat.mul_comm,Nat.mul_add_mod,Nat.mod_eq_of_lt hi]
  have this:getL α n ((c * 8 ^ n + i) % 8 ^ n) (ch ((c * 8 ^ n + i) / 8 ^ n) (t:N8 (L α n)))=getL α n ((c * 8 ^ n + i) % 8 ^ n) (ch ((c * 8 ^ n + i) / 8 ^ n) (u:N8 (L α n))):=this
  rw [e1,e2] at this
  exact this
abbrev eg (t:Nat) (en:Env):AV:=getL AV 3 t en
abbrev es (t:Nat) (v:AV) (en:Env):Env:=setL AV v 3 t en
theorem xT_eq (t:Nat) (en:Env) (κ:AV→R):xT t en κ=κ (eg t en):=getK_eq κ 3 t en
theorem dT_eq (t:Nat) (v:AV) (en:Env) (κ:Env→R):dT t v en κ=κ (es t v en):=setK_eq v 3 t en κ
theorem eg_es {t u:Nat} (v:AV) (en:Env) (ht:t < 512) (hu:u < 512):eg t (es u v en)=if t=u then v else eg t en:=by
 by_cases h:t=u
 ·subst h;rw [if_pos rfl];exact getL_setL v 3 t en
 ·rw [if_neg h];exact getL_setL_ne v 3 en hu ht h
def esL:List (Nat × AV)→Env→Env
 | [],en=>en
 | (t,v) :: l,en=>esL l (es t v en)
noncomputable def setsK (l:List (Nat × AV)):Env→(Env→R)→R:=
 @List.rec (Nat × AV) (fun _=>Env→(Env→R)→R) (fun en κ=>κ en) (fun p _ ih en κ=>match p with | (t,v)=>setK AV v 3 t en fun en=>ih en κ) l
theorem setsK_eq:∀ (l:List (Nat × AV)) (en:Env) (κ:Env→R),setsK l en κ=κ (esL l en)
 | [],_,_=>rfl
 | (t,v) :: l,en,κ=>by
  show setK AV v 3 t en (fun en=>setsK l en κ)=_
  rw [setK_eq,setsK_eq l];rfl
def lk (t:Nat):List (Nat × AV)→AV→AV
 | [],d=>d
 | (u,v) :: l,d=>lk t l (if t=u then v else d)
theorem eg_esL {t:Nat} (ht:t < 512):∀ (l:List (Nat × AV)) (en:Env),(∀ p ∈ l,p.1 < 512)→eg t (esL l en)=lk t l (eg t en)
 | [],_,_=>rfl
 | (u,v) :: l,en,h=>by
  show eg t (esL l (es u v en))=lk t l (if t=u then v else eg t en)
  rw [eg_esL ht l _ (fun p hp=>h p (List.mem_cons_of_mem _ hp)),eg_es v en ht (h _ (List.mem_cons_self ..))]
theorem lk_same {t:Nat}:∀ (l:List (Nat × AV)) (d d':AV),(∃ p ∈ l,p.1=t)→lk t l d=lk t l d'
 | [],_,_,⟨p,hp,_⟩=>by cases hp
 | (u,v) :: l,d,d',⟨p,hp,hpt⟩=>by
  show lk t l (if t=u then v else d)=lk t l (if t=u then v else d')
  by_cases h:t=u
  ·rw [if_pos h,if_pos h]
  ·rw [if_neg h,if_neg h]
   rcases List.mem_cons.1 hp with rfl | hp
   ·exact absurd hpt.symm h
   ·exact lk_same l d d' ⟨p,hp,hpt⟩
theorem lk_none {t:Nat}:∀ (l:List (Nat × AV)) (d:AV),(¬ ∃ p ∈ l,p.1=t)→lk t l d=d
 | [],_,_=>rfl
 | (u,v) :: l,d,h=>by
  show lk t l (if t=u then v else d)=d
  rw [if_neg (fun e=>h ⟨_,List.mem_cons_self ..,e.symm⟩)]
  exact lk_none l d fun ⟨p,hp,e⟩=>h ⟨p,List.mem_cons_of_mem _ hp,e⟩
theorem esL_over {l1 l2:List (Nat × AV)} (h1:∀ p ∈ l1,p.1 < 512) (h2:∀ p ∈ l2,p.1 < 512) (hs:∀ p ∈ l1,∃ q ∈ l2,q.1=p.1) (en:Env):esL l2 (esL l1 en)=esL l2 en:=by
 refine ext_L 3 _ _ fun t ht=>?_
 have ht:t < 512:=ht
 show eg t _=eg t _
 rw [eg_esL ht l2 _ h2,eg_esL ht l1 _ h1,eg_esL ht l2 _ h2]
 by_cases h:∃ p ∈ l2,p.1=t
 ·exact lk_same l2 _ _ h
 ·rw [lk_none l1 _ fun ⟨p,hp,e⟩=>h (let ⟨q,hq,e'⟩:=hs p hp;⟨q,hq,e'.trans e⟩)]
theorem run_add (tb:Tb):∀ (n m:Nat) (s:ASt) (κ:ASt→R),run tb (n + m) s κ=run tb n s fun s=>run tb m s κ
 | 0,m,s,κ=>by rw [Nat.zero_add];rfl
 | n + 1,m,s,κ=>by
  rw [show n + 1 + m=(n + m) + 1 by omega]
  show stepK tb s (fun s=>run tb (n + m) s κ)=stepK tb s (fun s=>run tb n s fun s=>run tb m s κ)
  congr 1
  funext s
  exact run_add tb n m s κ
theorem asN_i (k n:Nat) (κ:Nat→R):asN κ (.i k (.ofNat n))=κ n:=rfl
theorem asB_b (c:Bool) (κ:Bool→R):asB κ (.b c)=κ c:=rfl
theorem asP_p (o i:Nat) (κ:Nat→Nat→R):asP κ (.p o i)=κ o i:=rfl
theorem asSl_sl (o i l:Nat) (c:Option Nat) (κ:Nat→Nat→Nat→Option Nat→R):asSl κ (.sl o i l c)=κ o i l c:=rfl
theorem cmLt_nat (a b:Nat) (κ:Bool→R):cmLt (.ofNat a) (.ofNat b) κ=κ (Nat.blt a b):=rfl
def objC (h:H) (o off:Nat):Option AV:=match obj h o with
 | some (.sm l)=>l[off]?
 | some (.ce N _ z zl d t _ _)=>if off < N then cellO z zl d t off else none
 | _=>none
theorem rd1_eq {o off:Nat} {h:H} {v:AV} (hv:objC h o off=some v) (κ:AV→R):rd1 o off h κ=κ v:=by
 unfold objC at hv
 cases ho:obj h o with
 | none=>rw [ho] at hv;cases hv
 | some a=>
  rw [ho] at hv
  unfold rd1
  rw [get_is ho]
  cases a with
  | sm l=>
   show nthK AV κ l off=κ v
   rw [nthK_eq]
   rw [show l[off]? = some v from hv]
  | ce N es z zl d t top sh=>
   have hv:(if off < N then cellO z zl d t off else none)=some v:=hv
   split at hv
   ·rename_i hlt
    show br (Nat.blt off N) (cellK z zl d t κ off) false=_
    rw [show Nat.blt off N=true by simpa [Nat.blt_eq] using hlt,brT,cellK_eq,hv]
   ·cases hv
  | _=>cases hv
theorem rdK_cells {o off n:Nat} {h:H} {κ:List AV→R} (e:rdK o off n h κ=true):∃ l,l.length=n∧κ l=true∧∀ j v,l[j]? = some v→objC h o (off + j)=some v:=by
 obtain ⟨a,ha,e1⟩:=get_true e
 unfold objC
 rw [ha]
 cases a with
 | sm l=>
  simp only [dropL_eq,takeK_eq,List.length_drop] at e1
  split at e1
  ·rename_i hn
   refine ⟨(l.drop off).take n,by simp;omega,e1,fun j v hj=>?_⟩
   rw [List.getElem?_take] at hj
   split at hj
   ·rw [List.getElem?_drop] at hj;exact hj
   ·cases hj
  ·cases e1
 | ce N es z zl d t top sh=>
  obtain ⟨hle,e2⟩:=br_t e1
  have hle:off + n≤N:=Nat.le_of_ble_eq_true hle
  obtain ⟨vs,k1,k2,k3⟩:=cellsT_true e2
  rw [k3] at e2
  refine ⟨vs,k1,e2,fun j v hj=>?_⟩
  have hjn:j < n:=by rw [← k1];exact (List.getElem?_eq_some_iff.1 hj).1
  show (if off + j < N then cellO z zl d t (off + j) else none)=_
  rw [if_pos (by omega)]
  exact k2 j v hj
 | _=>cases e1
noncomputable def walk (z0:AV) (d:Nat):L (Option AV) d→List AV→(List AV→R)→R:=
 @Nat.rec (fun d=>L (Option AV) d→List AV→(List AV→R)→R) (fun x acc κ=>@Option.rec AV (fun _=>R) (κ (z0 :: acc)) (fun v=>κ (v :: acc)) x)
  (fun n ih t acc κ=>@N8.rec (L (Option AV) n) (fun _=>R) (fun a b c d e f g h=>ih h acc fun acc=>ih g acc fun acc=>ih f acc fun acc=>ih e acc fun acc=>ih d acc fun acc=>ih c acc fun acc=>ih b acc fun acc=>ih a acc κ) t) d
noncomputable def walkL (z0:AV) (d:Nat) (l:List (L (Option AV) d)):List AV→(List AV→R)→R:=
 @List.rec (L (Option AV) d) (fun _=>List AV→(List AV→R)→R) (fun acc κ=>κ acc) (fun x _ ih acc κ=>ih acc fun acc=>walk z0 d x acc κ) l
def kids {α:Type}:N8 α→List α
 | .mk a b c d e f g h=>[a,b,c,d,e,f,g,h]
def cellsL (z0:AV):(d:Nat)→L (Option AV) d→List AV
 | 0,x=>[Option.getD (α:=AV) x z0]
 | n + 1,t=>(kids (t:N8 (L (Option AV) n))).flatMap (cellsL z0 n)
theorem walk_eq (z0:AV):∀ (d:Nat) (t:L (Option AV) d) (acc:List AV) (κ:List AV→R),walk z0 d t acc κ=κ (cellsL z0 d t ++ acc)
 | 0,x,acc,κ=>by
  have key:∀ x:Option AV,@Option.rec AV (fun _=>R) (κ (z0 :: acc)) (fun v=>κ (v :: acc)) x=κ ([x.getD z0] ++ acc):=by intro x;cases x<;>rfl
  exact key x
 | n + 1,t,acc,κ=>by
  have ih:=walk_eq z0 n
  have key:∀ t:N8 (L (Option AV) n),@N8.rec (L (Option AV) n) (fun _=>R) (fun a b c d e f g h=>walk z0 n h acc fun acc=>walk z0 n g acc fun acc=>walk z0 n f acc fun acc=>walk z0 n e acc fun acc=>walk z0 n d acc fun acc=>walk z0 n c acc fun acc=>walk z0 n b acc fun acc=>walk z0 n a acc κ) t
    = κ ((kids t).flatMap (cellsL z0 n) ++ acc):=by
   intro t
   cases t
   simp only [ih,kids,List.flatMap_cons,List.flatMap_nil,List.append_assoc,List.append_nil,List.nil_append]
  exact key t
theorem walkL_eq (z0:AV) (d:Nat):∀ (l:List (L (Option AV) d)) (acc:List AV) (κ:List AV→R),walkL z0 d l acc κ=κ (l.flatMap (cellsL z0 d) ++ acc)
 | [],_,_=>rfl
 | x :: l,acc,κ=>by
  show walkL z0 d l acc (fun acc=>walk z0 d x acc κ)=_
  rw [walkL_eq z0 d l,walk_eq,List.flatMap_cons,List.append_assoc]
theorem flat_get {α β:Type} {f:α→List β} {m:Nat} (hm:0 < m) (hf:∀ x,(f x).length=m):∀ (l:List α) (i:Nat),(l.flatMap f)[i]? = (l[i / m]?).bind fun x=>(f x)[i % m]?
 | [],i=>by simp
 | x :: l,i=>by
  rw [List.flatMap_cons]
  by_cases h:i < m
  ·rw [List.getElem?_append_left (by rw [hf];exact h),Nat.div_eq_of_lt h,Nat.mod_eq_of_lt h]
   rfl
  ·obtain ⟨j,rfl⟩:∃ j,i=j + m:=⟨i - m,by omega⟩
   rw [List.getElem?_append_right (by rw [hf];omega),hf,Nat.add_sub_cancel,flat_get hm hf l j,Nat.add_div_right _ hm,Nat.add_mod_right]
   rfl
theorem cellsL_len (z0:AV):∀ (d:Nat) (t:L (Option AV) d),(cellsL z0 d t).length=8 ^ d
 | 0,_=>rfl
 | n + 1,t=>by
  have key:∀ t:N8 (L (Option AV) n),((kids t).flatMap (cellsL z0 n)).length=8 ^ (n + 1):=by
   intro t
   cases t
   simp only [kids,List.flatMap_cons,List.flatMap_nil,List.length_append,cellsL_len z0 n,List.length_nil,Nat.pow_succ]
   omega
  exact key t
theorem kids_get {α:Type} (t:N8 α) (i:Nat) (h:i < 8):(kids t)[i]? = some (ch i t):=by
 cases t
 rcases i with _ | _ | _ | _ | _ | _ | _ | _ | i<;>first | rfl | omega
theorem cellsL_get (z0:AV):∀ (d:Nat) (t:L (Option AV) d) (i:Nat),i < 8 ^ d→(cellsL z0 d t)[i]? = some ((getL (Option AV) d i t).getD z0)
 | 0,_,i,h=>by
  have:i=0:=by simp at h;omega
  subst this;rfl
 | n + 1,t,i,h=>by
  have hp:0 < 8 ^ n:=Nat.pow_pos (by omega)
  have hd:i / 8 ^ n < 8:=Nat.div_lt_of_lt_mul (by rw [Nat.pow_succ] at h;exact h)
  have key:∀ t:N8 (L (Option AV) n),((kids t).flatMap (cellsL z0 n))[i]? = some ((getL (Option AV) n (i % 8 ^ n) (ch (i / 8 ^ n) t)).getD z0):=by
   intro t
   rw [flat_get hp (cellsL_len z0 n),kids_get t _ hd]
   exact cellsL_get z0 n _ _ (Nat.mod_lt _ hp)
  exact key t
noncomputable def walkN (z0:AV) (N:Nat) (κ:List AV→R) (fb:R) (d:Nat):L (Option AV) d→R:=
 @Nat.rec (fun d=>L (Option AV) d→R) (fun _=>fb) (fun n ih t=>@N8.rec (L (Option AV) n) (fun _=>R) (fun a b c e f g i j=>br (Nat.ble N (Nat.pow 8 n)) (ih a)
  (fnat (Nat.div N (Nat.pow 8 n)) fun q=>br (Nat.ble q 8) (br (Nat.beq (Nat.mul q (Nat.pow 8 n)) N) (takeK (L (Option AV) n) q [a,b,c,e,f,g,i,j] fun l=>walkL z0 n l [] κ) fb) fb)) t) d
theorem walkN_true {z0:AV} {N:Nat} {κ:List AV→R} {fb:R}:∀ (d:Nat) (t:L (Option AV) d),walkN z0 N κ fb d t=true→fb=true∨∃ l,l.length=N∧κ l=true∧∀ j,j < N→l[j]? = some ((getL (Option AV) d j t).getD z0)
 | 0,_,e=>.inl e
 | d + 1,t,e=>by
  have ih:=walkN_true (z0:=z0) (N:=N) (κ:=κ) (fb:=fb) d
  have hp:0 < 8 ^ d:=Nat.pow_pos (by omega)
  have key:∀ t:N8 (L (Option AV) d),@N8.rec (L (Option AV) d) (fun _=>R) (fun a b c e f g i j=>br (Nat.ble N (Nat.pow 8 d)) (walkN z0 N κ fb d a)
    (fnat (Nat.div N (Nat.pow 8 d)) fun q=>br (Nat.ble q 8) (br (Nat.beq (Nat.mul q (Nat.pow 8 d)) N) (takeK (L (Option AV) d) q [a,b,c,e,f,g,i,j] fun l=>walkL z0 d l [] κ) fb) fb)) t=true→
    fb=true∨∃ l,l.length=N∧κ l=true∧∀ j,j < N→l[j]? = some ((getL (Option AV) d (j % 8 ^ d) (ch (j / 8 ^ d) t)).getD z0):=by
   intro t e
   have e:br (Nat.ble N (8 ^ d)) (walkN z0 N κ fb d (ch 0 t)) (fnat (N / 8 ^ d) fun q=>br (Nat.ble q 8) (br (Nat.beq (q * 8 ^ d) N) (takeK (L (Option AV) d) q (kids t) fun l=>walkL z0 d l [] κ) fb) fb)=true:=by
    cases t;exact e
   rcases br_true e with ⟨b1,e1⟩ | ⟨_,e1⟩
   ·have b1:N≤8 ^ d:=Nat.le_of_ble_eq_true b1
    rcases ih _ e1 with h | ⟨l,h1,h2,h3⟩
    ·exact .inl h
    ·refine .inr ⟨l,h1,h2,fun j hj=>?_⟩
     rw [Nat.div_eq_of_lt (by omega),Nat.mod_eq_of_lt (by omega)]
     exact h3 j hj
   ·rw [fnat_eq] at e1
    rcases br_true e1 with ⟨b3,e2⟩ | ⟨_,e2⟩
    rotate_left
    ·exact .inl e2
    rcases br_true e2 with ⟨b4,e3⟩ | ⟨_,e3⟩
    rotate_left
    ·exact .inl e3
    have b3:N / 8 ^ d≤8:=Nat.le_of_ble_eq_true b3
    have b4:N / 8 ^ d * 8 ^ d=N:=Nat.eq_of_beq_eq_true b4
    have hk8:(kids t).length=8:=by cases t;rfl
    rw [takeK_eq,if_pos (by rw [hk8];exact b3),walkL_eq,List.append_nil] at e3
    have hlen:(((kids t).take (N / 8 ^ d)).flatMap (cellsL z0 d)).length=N:=by
     have:∀ l:List (L (Option AV) d),(l.flatMap (cellsL z0 d)).length=l.length * 8 ^ d:=by
      intro l
      induction l with
      | nil=>simp
      | cons x l ih=>rw [List.flatMap_cons,List.length_append,ih,cellsL_len,List.length_cons,Nat.add_mul];omega
     rw [this,List.length_take,hk8,Nat.min_eq_left b3,b4]
    refine .inr ⟨_,hlen,e3,fun j hj=>?_⟩
    have hq:j / 8 ^ d < N / 8 ^ d:=by
     rw [Nat.div_lt_iff_lt_mul hp,b4];exact hj
    rw [flat_get hp (cellsL_len z0 d),List.getElem?_take_of_lt hq,kids_get _ _ (by omega)]
    exact cellsL_get z0 d _ _ (Nat.mod_lt _ hp)
  exact key t e
noncomputable def rdQ (o n:Nat) (h:H) (κ:List AV→R):R:=get o h fun a=>match a with
 | .ce N _ z zl d t _ _=>(match z with
   | [z0]=>br (Nat.beq zl 1) (br (Nat.ble n N) (walkN z0 n κ (rdK o 0 n h κ) d t) (rdK o 0 n h κ)) (rdK o 0 n h κ)
   | _=>rdK o 0 n h κ)
 | _=>rdK o 0 n h κ
theorem rdQ_cells {o n:Nat} {h:H} {κ:List AV→R} (e:rdQ o n h κ=true):∃ l,l.length=n∧κ l=true∧∀ j v,l[j]? = some v→objC h o j=some v:=by
 have slow:rdK o 0 n h κ=true→∃ l,l.length=n∧κ l=true∧∀ j v,l[j]? = some v→objC h o j=some v:=fun e=>by
  obtain ⟨l,h1,h2,h3⟩:=rdK_cells e
  exact ⟨l,h1,h2,fun j v hj=>by have:=h3 j v hj;rwa [Nat.zero_add] at this⟩
 obtain ⟨a,ha,e1⟩:=get_true e
 cases a<;>first | exact slow e1 | skip
 rename_i N es z zl d t top sh
 match z,e1,ha with
 | [],e1,_=>exact slow e1
 | _ :: _ :: _,e1,_=>exact slow e1
 | [z0],e1,ha=>
  have e1:br (Nat.beq zl 1) (br (Nat.ble n N) (walkN z0 n κ (rdK o 0 n h κ) d t) (rdK o 0 n h κ)) (rdK o 0 n h κ)=true:=e1
  rcases br_true e1 with ⟨b1,e2⟩ | ⟨_,e2⟩
  rotate_left
  ·exact slow e2
  rcases br_true e2 with ⟨b2,e3⟩ | ⟨_,e3⟩
  rotate_left
  ·exact slow e3
  have b1:=Nat.eq_of_beq_eq_true b1
  have b2:n≤N:=Nat.le_of_ble_eq_true b2
  subst b1
  rcases walkN_true d t e3 with h | ⟨l,h1,h2,h3⟩
  ·exact slow h
  refine ⟨l,h1,h2,fun j v hj=>?_⟩
  have hjn:j < n:=by rw [← h1];exact (List.getElem?_eq_some_iff.1 hj).1
  rw [h3 j hjn] at hj
  injection hj with hj
  unfold objC
  rw [ha]
  show (if j < N then cellO [z0] 1 d t j else none)=some v
  rw [if_pos (by omega)]
  unfold cellO
  rw [← hj]
  cases hg:getL (Option AV) d j t with
  | none=>simp [Nat.mod_one]
  | some u=>rfl
noncomputable def rdP (o off n:Nat) (h:H) (κ:List AV→R):R:=@Nat.rec (fun _=>R) (rdQ o n h κ) (fun _ _=>rdK o off n h κ) off
theorem rdP_cells {o off n:Nat} {h:H} {κ:List AV→R} (e:rdP o off n h κ=true):∃ l,l.length=n∧κ l=true∧∀ j v,l[j]? = some v→objC h o (off + j)=some v:=by
 cases off with
 | zero=>
  obtain ⟨l,h1,h2,h3⟩:=rdQ_cells (show rdQ o n h κ=true from e)
  exact ⟨l,h1,h2,fun j v hj=>by rw [Nat.zero_add];exact h3 j v hj⟩
 | succ k=>exact rdK_cells (show rdK o (k + 1) n h κ=true from e)
end Go.AM

namespace Go.AM
open Go
noncomputable def kS1:SegF:=sOp (dT 93) (oLt 3 (xT 92) (xT 91)) sNil
noncomputable def kS2:SegF:=sOp (dT 94) (oMv (xT 92)) <| sOp (dT 95) (oIas (xT 90) (xT 92) 1) <| sOp (dT 96) (oLd1 (xT 95)) <| sOp (dT 22) (oMv (xT 94)) <| sOp (dT 23) (oMv (xT 96)) <| sNil
noncomputable def kS3:SegF:=sOp (dT 97) (oMv (xT 22)) <| sOp (dT 98) (oMv (xT 21)) <| sOp (dT 99) (oLenl (xT 98)) <| sOp (dT 100) (oLt 3 (xT 97) (xT 99)) <| sOp (dT 101) (oMv (xT 100)) <| sOpG (gG (xT 101) true) (dT 102) (oMv (xT 23)) <|
 sOpG (gG (xT 101) true) (dT 103) (oEq true 3 (xT 102) (xC (.i 3 (.ofNat 0)))) <| sOp (dT 104) (oPick (xT 101) (xT 103) (xC (.b false))) <| sNil
noncomputable def kS4:SegF:=sOp (dT 105) (oMv (xT 21)) <| sOp (dT 106) (oMv (xT 22)) <| sOp (dT 107) (oIas (xT 105) (xT 106) 1) <| sOp (dT 108) (oLd1 (xT 107)) <| sOp (dT 109) (oAr arAdd 3 (xT 108) (xC (.i 3 (.ofNat 1)))) <|
 sOp (dT 110) (oIas (xT 105) (xT 106) 1) <| sOp dN (oSt (xT 110) (xT 109) 1) <| sNil
noncomputable def kS5:SegF:=sOp (dT 111) (oAr arAdd 3 (xT 92) (xC (.i 3 (.ofNat 1)))) <| sOp (dT 92) (oMv (xT 111)) <| sNil
noncomputable def kpB:C:=.seq (.rg (.fin kS1)) (.seq (.cond (xT 93) .skip (.exit 2)) (.seq (.blk 3 (.seq (.rg (.fin kS2)) (.seq (.rg (.fin kS3)) (.cond (xT 104) (.rg (.fin kS4)) .skip)))) (.rg (.fin kS5))))
noncomputable def keptC:C:=.blk 2 (.loop kpB)
noncomputable def kRound (en:Env) (h:H) (nx:Nat) (κ κx:Env→H→Nat→R):R:=
 kS1 en h nx fun en h nx=>xT 93 en (asB fun c=>br c (kS2 en h nx fun en h nx=>kS3 en h nx fun en h nx=>xT 104 en (asB fun c=>br c (kS4 en h nx fun en h nx=>kS5 en h nx κ) (kS5 en h nx κ))) (κx en h nx))
theorem kept_run (F:L (Option AFn) 4) (Lp:L (Option ALp) 5) (en:Env) (k:List T) (fr:Fr) (cs:List AFr) (h:H) (nx:Nat) (κ:ASt→R) :
  run (.mk F Lp false) 7 (.mk en (.lp kpB :: .blk 2 :: k) fr cs h nx) κ =
   kRound en h nx (fun en h nx=>κ (.mk en (.lp kpB :: .blk 2 :: k) fr cs h nx)) (fun en h nx=>run (.mk F Lp false) 5 (.mk en k fr cs h nx) κ):=rfl
theorem kept_run1 (F:L (Option AFn) 4) (Lp:L (Option ALp) 5) (n:Nat) (en:Env) (k:List T) (fr:Fr) (cs:List AFr) (h:H) (nx:Nat) (κ:ASt→R) :
  run (.mk F Lp false) (n + 1) (.mk en (.c keptC :: k) fr cs h nx) κ=run (.mk F Lp false) (n + 1) (.mk en (.lp kpB :: .blk 2 :: k) fr cs h nx) κ:=rfl
theorem kept_run2 (F:L (Option AFn) 4) (Lp:L (Option ALp) 5) (en:Env) (k:List T) (fr:Fr) (cs:List AFr) (h:H) (nx:Nat) (κ:ASt→R) :
  run (.mk F Lp false) 2 (.mk en (.lp kpB :: .blk 2 :: k) fr cs h nx) κ =
   kS1 en h nx fun en h nx=>xT 93 en (asB fun c=>br c (κ (.mk en (.c (.seq (.blk 3 (.seq (.rg (.fin kS2)) (.seq (.rg (.fin kS3)) (.cond (xT 104) (.rg (.fin kS4)) .skip)))) (.rg (.fin kS5))) :: .lp kpB :: .blk 2 :: k) fr cs h nx)) (κ (.mk en k fr cs h nx))):=rfl
noncomputable def kSel (c:Bool) (v:AV):AV:=match c with | true=>v | false=>undef
noncomputable def kQ (U:AV) (ok m i p j x:Nat):List (Nat × AV):=
 [(93,.b true),(94,.i 3 (.ofNat i)),(95,.p ok p),(96,.i 3 (.ofNat x)),(22,.i 3 (.ofNat i)),(23,.i 3 (.ofNat x)),(97,.i 3 (.ofNat i)),(98,U),(99,.i 3 (.ofNat m)),(100,.b (Nat.blt i m)),(101,.b (Nat.blt i m)),
  (102,kSel (Nat.blt i m) (.i 3 (.ofNat x))),(103,kSel (Nat.blt i m) (.b (not' (Nat.beq x 0)))),(104,.b false),(111,.i 3 (.ofNat j)),(92,.i 3 (.ofNat j))]
noncomputable def kA (U:AV) (ok m i p j x ou q:Nat) (y z:Int):List (Nat × AV):=
 [(93,.b true),(94,.i 3 (.ofNat i)),(95,.p ok p),(96,.i 3 (.ofNat x)),(22,.i 3 (.ofNat i)),(23,.i 3 (.ofNat x)),(97,.i 3 (.ofNat i)),(98,U),(99,.i 3 (.ofNat m)),(100,.b true),(101,.b true),
  (102,.i 3 (.ofNat x)),(103,.b true),(104,.b true),(105,U),(106,.i 3 (.ofNat i)),(107,.p ou q),(108,.i 3 y),(109,.i 3 z),(110,.p ou q),(111,.i 3 (.ofNat j)),(92,.i 3 (.ofNat j))]
section
variable {en:Env} {h:H} {nx ok fk n ou fu m i x:Nat} {ck cu:Option Nat} {κ κx:Env→H→Nat→R}
structure KIn (en:Env) (ok fk n ou fu m i:Nat) (ck cu:Option Nat):Prop where
 h90:eg 90 en = .sl ok fk n ck
 h91:eg 91 en = .i 3 (.ofNat n)
 h92:eg 92 en = .i 3 (.ofNat i)
 h21:eg 21 en = .sl ou fu m cu
theorem cmEq_nat (a b:Nat) (κ:Bool→R):cmEq (.ofNat a) (.ofNat b) κ=κ (Nat.beq a b):=rfl
theorem arAdd_nat {a b:Nat} (h:Nat.blt (a + b) 9223372036854775808=true) (κ:Int→R):arAdd 3 (.ofNat a) (.ofNat b) κ=κ (.ofNat (a + b)):=by
 show wrN 3 (a + b) κ=_
 unfold wrN
 rw [fnat_eq]
 show br (Nat.blt (a + b) 9223372036854775808) _ _=_
 rw [h];rfl
theorem k_quiet (hk:KIn en ok fk n ou fu m i ck cu) (hi:i < n) (hn:n < 9223372036854775808) (hc:objC h ok (fk + i * 1)=some (.i 3 (.ofNat x))) (hq:Nat.blt i m=false∨x=0) :
  kRound en h nx κ κx=κ (esL (kQ (.sl ou fu m cu) ok m i (fk + i * 1) (i + 1) x) en) h nx:=by
 have h1:Nat.blt i n=true:=by simpa [Nat.blt_eq] using hi
 have h2:Nat.blt (i + 1) 9223372036854775808=true:=by simp [Nat.blt_eq];omega
 have h90:eg 90 en=_:=hk.h90
 have h91:eg 91 en=_:=hk.h91
 have h92:eg 92 en=_:=hk.h92
 have h21:eg 21 en=_:=hk.h21
 have hr:∀ κ,rd1 ok (fk.add (i.mul 1)) h κ=κ (.i 3 (.ofNat x)):=rd1_eq hc
 simp only [kRound,kS1,kS2,kS3,kS5,sOp,sOpG,sNil,oLt,oMv,oIas,oLd1,oLenl,oEq,oPick,oAr,gG,xT_eq,dT_eq,xC,eg_es,Nat.reduceLT,Nat.reduceEqDiff,if_true,if_false,reduceIte,
  h90,h91,h92,h21,asK_i,asN_i,asB_b,asP_p,asSl_sl,cmLt_nat,cmEq_nat,kB_eq,h1,brT,fnat_eq,hr,arAdd_nat h2]
 have b1:eqB false true=false:=rfl
 have b2:eqB true true=true:=rfl
 rcases hq with hm | rfl
 ·simp only [hm,b1,brF,kQ,esL,kSel]
  rfl
 ·have b3:Nat.beq 0 0=true:=rfl
  have b4:eqB true (not' true)=false:=rfl
  have b5:not' true=false:=rfl
  cases hm:Nat.blt i m with
  | false=>
   simp only [b1,brF,kQ,esL,kSel,hm]
   rfl
  | true=>
   simp only [b2,brT,b3,b4,brF,kQ,esL,kSel,hm]
   rfl
theorem k_add {y z:Int} {h':H} (hk:KIn en ok fk n ou fu m i ck cu) (hi:i < n) (hn:n < 9223372036854775808) (hc:objC h ok (fk + i * 1)=some (.i 3 (.ofNat x))) (hm:Nat.blt i m=true) (hx:Nat.beq x 0=false)
  (hy:∀ κ,rd1 ou (fu.add (i.mul 1)) h κ=κ (.i 3 y)) (hz:∀ κ,arAdd 3 y (.ofNat 1) κ=κ z) (hw:∀ κ,wrK ou (fu.add (i.mul 1)) [.i 3 z] h κ=κ h') :
  kRound en h nx κ κx=κ (esL (kA (.sl ou fu m cu) ok m i (fk + i * 1) (i + 1) x ou (fu + i * 1) y z) en) h' nx:=by
 have h1:Nat.blt i n=true:=by simpa [Nat.blt_eq] using hi
 have h2:Nat.blt (i + 1) 9223372036854775808=true:=by simp [Nat.blt_eq];omega
 have h90:eg 90 en=_:=hk.h90
 have h91:eg 91 en=_:=hk.h91
 have h92:eg 92 en=_:=hk.h92
 have h21:eg 21 en=_:=hk.h21
 have hr:∀ κ,rd1 ok (fk.add (i.mul 1)) h κ=κ (.i 3 (.ofNat x)):=rd1_eq hc
 have b2:eqB true true=true:=rfl
 have b4:eqB true (not' false)=true:=rfl
 have b6:∀ (v:AV) (κ:List AV→R),(∃ k n,v = .i k n)→cellsK κ v=κ [v]:=by rintro v κ ⟨k,n,rfl⟩;rfl
 have b7:∀ v:AV,Nat.beq (lenN AV [v]) 1=true:=fun _=>rfl
 simp only [kRound,kS1,kS2,kS3,sOp,sOpG,sNil,oLt,oMv,oIas,oLd1,oLenl,oEq,oPick,gG,xT_eq,dT_eq,xC,eg_es,Nat.reduceLT,Nat.reduceEqDiff,if_true,if_false,reduceIte,
  h90,h91,h92,h21,asK_i,asN_i,asB_b,asP_p,asSl_sl,cmLt_nat,cmEq_nat,kB_eq,h1,brT,fnat_eq,hr,hm,b2,hx,b4]
 simp (config:={ maxSteps:=2000000 }) only [kS4,kS5,sOp,sNil,oMv,oIas,oLd1,oAr,oSt,dN,xT_eq,dT_eq,xC,eg_es,Nat.reduceLT,Nat.reduceEqDiff,if_true,if_false,reduceIte,
  h90,h91,h92,h21,asK_i,asN_i,asP_p,asSl_sl,brT,fnat_eq,arAdd_nat h2,hm,hy,hz,b6 (.i 3 z) _ ⟨_,_,rfl⟩,b7,hw,kA,esL]
 rfl
end
end Go.AM

namespace Go.AM
open Go
noncomputable def asU (κ:Nat→R) (v:AV):R:=asK 3 (fun n=>@Int.rec (fun _=>R) κ (fun _=>false) n) v
theorem asU_true {κ:Nat→R} {v:AV} (e:asU κ v=true):∃ n,v = .i 3 (.ofNat n)∧κ n=true:=by
 obtain ⟨n,rfl,e1⟩:=asK_true e
 cases n with
 | ofNat n=>exact ⟨n,rfl,e1⟩
 | negSucc n=>cases e1
noncomputable def noSh (o:Nat) (h:H) (κ:R):R:=get o h fun a=>match a with
 | .sm _=>κ
 | .ce _ _ _ _ _ _ _ sh=>(match sh with | []=>κ | _=>false)
 | _=>false
noncomputable def kUp (U:AV) (ok fk m i:Nat) (p:Bool) (x:Nat) (en:Env) (κ:Env→R):R:=
 br p (fnat (Nat.pred i) fun i0=>fnat (Nat.add fk (Nat.mul i0 1)) fun q=>setsK (kQ U ok m i0 q i x) en κ) (κ en)
noncomputable def kGo (U:AV) (ok fk m ou fu:Nat) (l:List AV):Nat→Bool→Nat→Env→H→Nat→(Env→H→Nat→R)→R:=
 @List.rec AV (fun _=>Nat→Bool→Nat→Env→H→Nat→(Env→H→Nat→R)→R)
  (fun i p xl en h nx κ=>kUp U ok fk m i p xl en fun en=>setK AV (.b false) 3 93 en fun en=>κ en h nx)
  (fun v _ ih i p xl en h nx κ=>asU (fun x=>br (or' (Nat.beq x 0) (not' (Nat.blt i m))) (fnat (Nat.succ i) fun j=>ih j true x en h nx κ)
    (kUp U ok fk m i p xl en fun en=>noSh ou h (rd1 ou (Nat.add fu (Nat.mul i 1)) h (asK 3 fun y=>arAdd 3 y (.ofNat 1) fun z=>wrK ou (Nat.add fu (Nat.mul i 1)) [.i 3 z] h fun h=>
      fnat (Nat.succ i) fun j=>fnat (Nat.add fk (Nat.mul i 1)) fun q=>fnat (Nat.add fu (Nat.mul i 1)) fun q'=>setsK (kA U ok m i q j x ou q' y z) en fun en=>ih j false 0 en h nx κ)))) v) l
noncomputable def keptS:SegF:=fun en h nx κ=>xT 91 en (asU fun n'=>xT 92 en (asU fun i0=>br (Nat.beq i0 0) (br (Nat.beq n' 0) (setK AV (.b false) 3 93 en fun en=>κ en h nx)
 (xT 90 en (asSl fun ok fk n _=>xT 21 en fun U=>asSl (fun ou fu m _=>br (Nat.beq n' n) (br (Nat.blt n 9223372036854775808) (br (Nat.blt ok 32768) (br (Nat.blt ou 32768) (br (Nat.beq ok ou) false
   (rdP ok fk n h fun l=>kGo U ok fk m ou fu l 0 false 0 en h nx κ)) false) false) false) false) U))) false))
theorem wrK_true {o off:Nat} {vs:List AV} {h:H} {κ:H→R} (e:wrK o off vs h κ=true) {e2:noSh o h true=true}:∃ h',κ h' = true∧(∀ κ',wrK o off vs h κ' = κ' h')∧∀ o',o < 32768→o' < 32768→o'≠o→obj h' o' = obj h o':=by
 obtain ⟨a,ha,e1⟩:=get_true e
 obtain ⟨b,hb,e3⟩:=get_true e2
 have:b=a:=by rw [ha] at hb;injection hb with hb;exact hb.symm
 subst this
 have other:∀ (x:AO) o',o < 32768→o' < 32768→o'≠o→obj (setO h o x) o' = obj h o':=fun x o' h1 h2 h3=>getL_setL_ne (some x) 5 h h1 h2 h3
 cases b with
 | sm l=>
  simp only [putLK_eq,put_eq] at e1
  split at e1
  ·rename_i hn
   refine ⟨_,e1,fun κ'=>?_,other _⟩
   unfold wrK
   rw [get_is ha]
   simp only [putLK_eq,put_eq]
   rw [if_pos hn]
  ·cases e1
 | ce N es z zl d t top sh=>
  obtain ⟨htop,e4⟩:=br_t e1
  obtain ⟨hle,e5⟩:=br_t e4
  cases sh with
  | cons x r=>cases e3
  | nil=>
   rw [setsT_eq,put_eq,killK_eq] at e5
   refine ⟨_,e5,fun κ'=>?_,other _⟩
   unfold wrK
   rw [get_is ha]
   show br top (br _ _ _) _=_
   rw [htop,brT]
   rw [show Nat.ble (Nat.add off (lenN AV vs)) N=true from hle,brT,setsT_eq,put_eq,killK_eq]
 | _=>cases e1
theorem rd1_true {o off:Nat} {h:H} {κ:AV→R} (e:rd1 o off h κ=true):∃ v,(∀ κ',rd1 o off h κ' = κ' v)∧κ v=true:=by
 obtain ⟨a,ha,e1⟩:=get_true e
 cases a with
 | sm l=>
  have e1:nthK AV κ l off=true:=e1
  rw [nthK_eq] at e1
  cases hl:l[off]? with
  | none=>rw [hl] at e1;cases e1
  | some v=>
   rw [hl] at e1
   refine ⟨v,fun κ'=>?_,e1⟩
   unfold rd1
   rw [get_is ha]
   show nthK AV κ' l off=_
   rw [nthK_eq,hl]
 | ce N es z zl d t top sh=>
  obtain ⟨hlt,e2⟩:=br_t e1
  rw [cellK_eq] at e2
  cases hl:cellO z zl d t off with
  | none=>rw [hl] at e2;cases e2
  | some v=>
   rw [hl] at e2
   refine ⟨v,fun κ'=>?_,e2⟩
   unfold rd1
   rw [get_is ha]
   show br (Nat.blt off N) (cellK z zl d t κ' off) false=_
   rw [hlt,brT,cellK_eq,hl]
 | _=>cases e1
theorem arAdd_true {a b:Int} {κ:Int→R} (e:arAdd 3 a b κ=true):∃ z,(∀ κ',arAdd 3 a b κ' = κ' z)∧κ z=true:=by
 rw [arAdd_eq] at e
 exact ⟨_,fun κ'=>arAdd_eq 3 a b κ',e⟩
theorem noSh_true {o:Nat} {h:H} {κ:R} (e:noSh o h κ=true):κ=true∧noSh o h true=true:=by
 obtain ⟨a,ha,e1⟩:=get_true e
 unfold noSh
 rw [get_is ha]
 cases a with
 | sm l=>exact ⟨e1,rfl⟩
 | ce N es z zl d t top sh=>
  cases sh with
  | nil=>exact ⟨e1,rfl⟩
  | cons x r=>cases e1
 | _=>cases e1
section
variable {en:Env} {ok fk n ou fu m i x:Nat} {ck cu:Option Nat}
theorem KIn.quiet {p:Nat} (hk:KIn en ok fk n ou fu m i ck cu) {U:AV} {j:Nat}:KIn (esL (kQ U ok m i p j x) en) ok fk n ou fu m j ck cu:=by
 have h90:eg 90 en=_:=hk.h90
 have h91:eg 91 en=_:=hk.h91
 have h21:eg 21 en=_:=hk.h21
 constructor<;>simp only [kQ,esL,eg_es,Nat.reduceLT,Nat.reduceEqDiff,if_true,if_false,reduceIte,h90,h91,h21]
theorem KIn.add {p q:Nat} {y z:Int} (hk:KIn en ok fk n ou fu m i ck cu) {U:AV} {j:Nat}:KIn (esL (kA U ok m i p j x ou q y z) en) ok fk n ou fu m j ck cu:=by
 have h90:eg 90 en=_:=hk.h90
 have h91:eg 91 en=_:=hk.h91
 have h21:eg 21 en=_:=hk.h21
 constructor<;>simp only [kA,esL,eg_es,Nat.reduceLT,Nat.reduceEqDiff,if_true,if_false,reduceIte,h90,h91,h21]
theorem kQ_lt {U:AV} {p j:Nat}:∀ r ∈ kQ U ok m i p j x,r.1 < 512:=by
 intro r hr
 simp only [kQ,List.mem_cons,List.not_mem_nil,or_false] at hr
 rcases hr with rfl | rfl | rfl | rfl | rfl | rfl | rfl | rfl | rfl | rfl | rfl | rfl | rfl | rfl | rfl | rfl<;>simp
theorem kQ_over {U:AV} {p j i' p' j' x':Nat}:esL (kQ U ok m i' p' j' x') (esL (kQ U ok m i p j x) en)=esL (kQ U ok m i' p' j' x') en:=by
 refine esL_over kQ_lt kQ_lt (fun r hr=>?_) en
 simp only [kQ,List.mem_cons,List.not_mem_nil,or_false] at hr
 rcases hr with rfl | rfl | rfl | rfl | rfl | rfl | rfl | rfl | rfl | rfl | rfl | rfl | rfl | rfl | rfl | rfl<;>simp [kQ]
noncomputable def kEn (U:AV) (ok fk m i:Nat) (p:Bool) (x:Nat) (en:Env):Env:=match p with
 | true=>esL (kQ U ok m (Nat.pred i) (fk + Nat.pred i * 1) i x) en
 | false=>en
theorem kUp_eq (U:AV) (p:Bool) (κ:Env→R):kUp U ok fk m i p x en κ=κ (kEn U ok fk m i p x en):=by
 unfold kUp
 cases p with
 | false=>rfl
 | true=>rw [brT,fnat_eq,fnat_eq,setsK_eq];rfl
theorem kGo_ok (F:L (Option AFn) 4) (Lp:L (Option ALp) 5) (k:List T) (fr:Fr) (cs:List AFr) (κ:ASt→R) (h1:ok < 32768) (h2:ou < 32768) (h3:ok≠ou) (hn:n < 9223372036854775808) :
  ∀ (l:List AV) (i:Nat) (p:Bool) (x:Nat) (en:Env) (h:H) (nx:Nat),KIn (kEn (.sl ou fu m cu) ok fk m i p x en) ok fk n ou fu m i ck cu→i + l.length=n→(∀ j v,l[j]? = some v→objC h ok (fk + (i + j) * 1)=some v)→
   kGo (.sl ou fu m cu) ok fk m ou fu l i p x en h nx (fun en h nx=>κ (.mk en k fr cs h nx))=true→∃ N,run (.mk F Lp false) (N + 1) (.mk (kEn (.sl ou fu m cu) ok fk m i p x en) (.lp kpB :: .blk 2 :: k) fr cs h nx) κ=true:=by
 intro l
 induction l with
 | nil=>
  intro i p x en h nx hk hl hc e
  have hin:i=n:=by simpa using hl
  have e:kUp (.sl ou fu m cu) ok fk m i p x en (fun en=>setK AV (.b false) 3 93 en fun en=>κ (.mk en k fr cs h nx))=true:=e
  rw [kUp_eq,setK_eq] at e
  refine ⟨1,?_⟩
  rw [kept_run2]
  have h4:Nat.blt i n=false:=by
   cases hb:Nat.blt i n with
   | false=>rfl
   | true=>simp [Nat.blt_eq] at hb;omega
  have h91:eg 91 (kEn (.sl ou fu m cu) ok fk m i p x en)=_:=hk.h91
  have h92:eg 92 (kEn (.sl ou fu m cu) ok fk m i p x en)=_:=hk.h92
  simp only [kS1,sOp,sNil,oLt,xT_eq,dT_eq,eg_es,Nat.reduceLT,if_true,reduceIte,h91,h92,asK_i,asB_b,cmLt_nat,kB_eq,h4,brF]
  exact e
 | cons v l ih=>
  intro i p x en h nx hk hl hc e
  simp only [List.length_cons] at hl
  have hi:i < n:=by omega
  have hv:=hc 0 v rfl
  rw [Nat.add_zero] at hv
  have hc':∀ j v',l[j]? = some v'→objC h ok (fk + (i + 1 + j) * 1)=some v':=fun j v' hj=>by
   have:=hc (j + 1) v' (by simpa using hj)
   rw [show i + 1 + j=i + (j + 1) by omega];exact this
  have e:asU (fun y=>br (or' (Nat.beq y 0) (not' (Nat.blt i m))) (fnat (Nat.succ i) fun j=>kGo (.sl ou fu m cu) ok fk m ou fu l j true y en h nx (fun en h nx=>κ (.mk en k fr cs h nx)))
   (kUp (.sl ou fu m cu) ok fk m i p x en fun en=>noSh ou h (rd1 ou (Nat.add fu (Nat.mul i 1)) h (asK 3 fun w=>arAdd 3 w (.ofNat 1) fun z=>wrK ou (Nat.add fu (Nat.mul i 1)) [.i 3 z] h fun h=>
     fnat (Nat.succ i) fun j=>fnat (Nat.add fk (Nat.mul i 1)) fun q=>fnat (Nat.add fu (Nat.mul i 1)) fun q'=>setsK (kA (.sl ou fu m cu) ok m i q j y ou q' w z) en fun en=>kGo (.sl ou fu m cu) ok fk m ou fu l j false 0 en h nx (fun en h nx=>κ (.mk en k fr cs h nx)))))) v=true:=e
  obtain ⟨y,rfl,e1⟩:=asU_true e
  rcases br_true e1 with ⟨g1,g2⟩ | ⟨g1,g2⟩
  ·rw [fnat_eq] at g2
   have hq:Nat.blt i m=false∨y=0:=by
    cases hb:Nat.blt i m with
    | false=>exact .inl rfl
    | true=>
     rw [hb] at g1
     cases hy:Nat.beq y 0 with
     | true=>exact .inr (Nat.eq_of_beq_eq_true hy)
     | false=>rw [hy] at g1;cases g1
   have henv:esL (kQ (.sl ou fu m cu) ok m i (fk + i * 1) (i + 1) y) (kEn (.sl ou fu m cu) ok fk m i p x en)=kEn (.sl ou fu m cu) ok fk m (i + 1) true y en:=by
    cases p with
    | false=>rfl
    | true=>exact kQ_over
   have hk':=hk.quiet (U:=.sl ou fu m cu) (p:=fk + i * 1) (j:=i + 1) (x:=y)
   rw [henv] at hk'
   obtain ⟨N,hN⟩:=ih (i + 1) true y en h nx hk' (by omega) hc' g2
   refine ⟨6 + (N + 1),?_⟩
   rw [show 6 + (N + 1) + 1=7 + (N + 1) by omega,run_add,kept_run,k_quiet hk hi hn hv hq,henv]
   exact hN
  ·rw [kUp_eq] at g2
   obtain ⟨g3,g4⟩:=noSh_true g2
   have hm:Nat.blt i m=true:=by
    cases hb:Nat.blt i m with
    | true=>rfl
    | false=>
     rw [hb] at g1
     cases hy:Nat.beq y 0<;>rw [hy] at g1<;>cases g1
   have hy:Nat.beq y 0=false:=by
    cases hy:Nat.beq y 0 with
    | false=>rfl
    | true=>rw [hy] at g1;cases g1
   obtain ⟨w,hw,g5⟩:=rd1_true g3
   obtain ⟨w',rfl,g6⟩:=asK_true g5
   obtain ⟨z,hz,g7⟩:=arAdd_true g6
   obtain ⟨h',g8,g9,g10⟩:=wrK_true (e2:=g4) g7
   rw [fnat_eq,fnat_eq,fnat_eq,setsK_eq] at g8
   have hk':KIn (kEn (.sl ou fu m cu) ok fk m (i + 1) false 0 (esL (kA (.sl ou fu m cu) ok m i (fk + i * 1) (i + 1) y ou (fu + i * 1) w' z) (kEn (.sl ou fu m cu) ok fk m i p x en))) ok fk n ou fu m (i + 1) ck cu:=hk.add
   obtain ⟨N,hN⟩:=ih (i + 1) false 0 _ h' nx hk' (by omega) (fun j v' hj=>by
    have:=hc' j v' hj
    unfold objC at this ⊢
    rw [g10 ok h2 h1 h3];exact this) g8
   refine ⟨6 + (N + 1),?_⟩
   rw [show 6 + (N + 1) + 1=7 + (N + 1) by omega,run_add,kept_run,k_add hk hi hn hv hm hy hw hz g9]
   exact hN
end
theorem kept_ok:SplOk keptS keptC:=by
 intro F Lp en k fr cs h nx κ e
 have e:xT 91 en (asU fun n'=>xT 92 en (asU fun i0=>br (Nat.beq i0 0) (br (Nat.beq n' 0) (setK AV (.b false) 3 93 en fun en=>κ (.mk en k fr cs h nx))
  (xT 90 en (asSl fun ok fk n _=>xT 21 en fun U=>asSl (fun ou fu m _=>br (Nat.beq n' n) (br (Nat.blt n 9223372036854775808) (br (Nat.blt ok 32768) (br (Nat.blt ou 32768) (br (Nat.beq ok ou) false
  (rdP ok fk n h fun l=>kGo U ok fk m ou fu l 0 false 0 en h nx (fun en h nx=>κ (.mk en k fr cs h nx)))) false) false) false) false) U))) false))=true:=e
 rw [xT_eq] at e
 obtain ⟨n',h91,e1⟩:=asU_true e
 rw [xT_eq] at e1
 obtain ⟨i0,h92,e2⟩:=asU_true e1
 obtain ⟨b1,e3⟩:=br_t e2
 have b1:=Nat.eq_of_beq_eq_true b1
 subst b1
 rcases br_true e3 with ⟨b2,e4⟩ | ⟨b2,e4⟩
 ·have b2:=Nat.eq_of_beq_eq_true b2
  subst b2
  rw [setK_eq] at e4
  refine ⟨2,?_⟩
  rw [kept_run1,kept_run2]
  have h91:eg 91 en=_:=h91
  have h92:eg 92 en=_:=h92
  have h4:Nat.blt 0 0=false:=rfl
  simp only [kS1,sOp,sNil,oLt,xT_eq,dT_eq,eg_es,Nat.reduceLT,if_true,reduceIte,h91,h92,asK_i,asB_b,cmLt_nat,kB_eq,h4,brF]
  exact e4
 ·rw [xT_eq] at e4
  obtain ⟨ok,fk,n,ck,h90,e5⟩:=asSl_true e4
  rw [xT_eq] at e5
  obtain ⟨ou,fu,m,cu,h21,e6⟩:=asSl_true e5
  obtain ⟨b3,e7⟩:=br_t e6
  obtain ⟨b4,e8⟩:=br_t e7
  obtain ⟨b5,e9⟩:=br_t e8
  obtain ⟨b6,e10⟩:=br_t e9
  obtain ⟨b7,e11⟩:=br_f e10
  have b3:=Nat.eq_of_beq_eq_true b3
  subst b3
  have b7:ok≠ou:=fun h=>by subst h;rw [Nat.beq_refl] at b7;cases b7
  obtain ⟨l,k1,k2,k3⟩:=rdP_cells e11
  rw [h21] at k2
  obtain ⟨N,hN⟩:=kGo_ok (ck:=ck) (cu:=cu) (n:=n') F Lp k fr cs κ (by simpa [Nat.blt_eq] using b5) (by simpa [Nat.blt_eq] using b6) b7 (by simpa [Nat.blt_eq] using b4) l 0 false 0 en h nx ⟨h90,h91,h92,h21⟩ (by omega)
   (fun j v hj=>by rw [Nat.zero_add,Nat.mul_one];exact k3 j v hj) k2
  exact ⟨N + 1,by rw [kept_run1];exact hN⟩
end Go.AM

namespace Go.AM
open Go
noncomputable def fS1:SegF:=sOp (dT 6) (oMv (xT 1)) <| sOp (dT 7) (oMv (xT 5)) <| sOp (dT 8) (oAr arAdd 3 (xT 6) (xT 7)) <| sOp (dT 9) (oLt 3 (xT 8) (xC (.i 3 (.ofNat 65536)))) <| sOp (dT 10) (oMv (xT 9)) <|
 sOpG (gG (xT 10) true) (dT 11) (oMv (xT 1)) <| sOpG (gG (xT 10) true) (dT 12) (oMv (xT 5)) <| sOpG (gG (xT 10) true) (dT 13) (oAr arAdd 3 (xT 11) (xT 12)) <| sOpG (gG (xT 10) true) (dT 14) (oMv (xT 0)) <|
 sOpG (gG (xT 10) true) (dT 15) (oNc (xT 14)) <| sOpG (gG (xT 10) true) (dT 16) (oFa (xT 15) 8) <| sOpG (gG (xT 10) true) (dT 17) (oLd1 (xT 16)) <| sOpG (gG (xT 10) true) (dT 18) (oLenl (xT 17)) <|
 sOpG (gG (xT 10) true) (dT 19) (oGe 3 (xT 13) (xT 18)) <| sOpG (gG (xT 10) true) (dT 20) (oMv (xT 19)) <| sOpG (gG (xT 20) false) (dT 21) (oMv (xT 0)) <| sOpG (gG (xT 20) false) (dT 22) (oNc (xT 21)) <|
 sOpG (gG (xT 20) false) (dT 23) (oFa (xT 22) 8) <| sOpG (gG (xT 20) false) (dT 24) (oLd1 (xT 23)) <| sOpG (gG (xT 20) false) (dT 25) (oMv (xT 1)) <| sOpG (gG (xT 20) false) (dT 26) (oMv (xT 5)) <|
 sOpG (gG (xT 20) false) (dT 27) (oAr arAdd 3 (xT 25) (xT 26)) <| sOpG (gG (xT 20) false) (dT 28) (oIas (xT 24) (xT 27) 1) <| sOpG (gG (xT 20) false) (dT 29) (oLd1 (xT 28)) <|
 sOpG (gG (xT 20) false) (dT 30) (oEq false 3 (xT 29) (xC (.i 3 (.ofNat 0)))) <| sOpG (gG (xT 10) true) (dT 31) (oPick (xT 20) (xC (.b true)) (xT 30)) <| sOp (dT 32) (oPick (xT 10) (xT 31) (xC (.b false))) <| sNil
noncomputable def fS2:SegF:=sOp (dT 33) (oMv (xT 5)) <| sOp (dT 34) (oAr arAdd 3 (xT 33) (xC (.i 3 (.ofNat 1)))) <| sOp (dT 5) (oMv (xT 34)) <| sNil
noncomputable def fpB:C:=.seq (.seq (.rg (.fin fS1)) (.cond (xT 32) .skip (.exit 0))) (.blk 1 (.rg (.fin fS2)))
noncomputable def freeC:C:=.blk 0 (.loop fpB)
section
variable (F:L (Option AFn) 4) (Lp:L (Option ALp) 5) (en:Env) (k:List T) (fr:Fr) (cs:List AFr) (h:H) (nx:Nat) (κ:ASt→R)
noncomputable def fRound (en:Env) (h:H) (nx:Nat) (κ κx:Env→H→Nat→R):R:=fS1 en h nx fun en h nx=>xT 32 en (asB fun c=>br c (fS2 en h nx κ) (κx en h nx))
theorem free_run:run (.mk F Lp false) 4 (.mk en (.lp fpB :: .blk 0 :: k) fr cs h nx) κ =
  fRound en h nx (fun en h nx=>κ (.mk en (.lp fpB :: .blk 0 :: k) fr cs h nx)) (fun en h nx=>run (.mk F Lp false) 2 (.mk en k fr cs h nx) κ):=rfl
theorem free_run1 (n:Nat):run (.mk F Lp false) (n + 1) (.mk en (.c freeC :: k) fr cs h nx) κ=run (.mk F Lp false) (n + 1) (.mk en (.lp fpB :: .blk 0 :: k) fr cs h nx) κ:=rfl
theorem free_run2:run (.mk F Lp false) 2 (.mk en (.lp fpB :: .blk 0 :: k) fr cs h nx) κ =
  fS1 en h nx fun en h nx=>xT 32 en (asB fun c=>br c (κ (.mk en (.c (.blk 1 (.rg (.fin fS2))) :: .lp fpB :: .blk 0 :: k) fr cs h nx)) (κ (.mk en k fr cs h nx))):=rfl
end
noncomputable def fQ (U:AV) (o off off8 pl m ou n s q j:Nat) (ge:Bool):List (Nat × AV):=
 [(6,.i 3 (.ofNat pl)),(7,.i 3 (.ofNat n)),(8,.i 3 (.ofNat s)),(9,.b true),(10,.b true),(11,.i 3 (.ofNat pl)),(12,.i 3 (.ofNat n)),(13,.i 3 (.ofNat s)),(14,.p o off),(15,.p o off),(16,.p o off8),(17,U),(18,.i 3 (.ofNat m)),
  (19,.b ge),(20,.b ge),(21,kSel (not' ge) (.p o off)),(22,kSel (not' ge) (.p o off)),(23,kSel (not' ge) (.p o off8)),(24,kSel (not' ge) U),(25,kSel (not' ge) (.i 3 (.ofNat pl))),(26,kSel (not' ge) (.i 3 (.ofNat n))),
  (27,kSel (not' ge) (.i 3 (.ofNat s))),(28,kSel (not' ge) (.p ou q)),(29,kSel (not' ge) (.i 3 (.ofNat 0))),(30,kSel (not' ge) (.b true)),(31,.b true),(32,.b true),(33,.i 3 (.ofNat n)),(34,.i 3 (.ofNat j)),(5,.i 3 (.ofNat j))]
noncomputable def fXa (U:AV) (o off off8 pl m ou n s q x:Nat):List (Nat × AV):=
 [(6,.i 3 (.ofNat pl)),(7,.i 3 (.ofNat n)),(8,.i 3 (.ofNat s)),(9,.b true),(10,.b true),(11,.i 3 (.ofNat pl)),(12,.i 3 (.ofNat n)),(13,.i 3 (.ofNat s)),(14,.p o off),(15,.p o off),(16,.p o off8),(17,U),(18,.i 3 (.ofNat m)),
  (19,.b false),(20,.b false),(21,.p o off),(22,.p o off),(23,.p o off8),(24,U),(25,.i 3 (.ofNat pl)),(26,.i 3 (.ofNat n)),
  (27,.i 3 (.ofNat s)),(28,.p ou q),(29,.i 3 (.ofNat x)),(30,.b false),(31,.b false),(32,.b false)]
noncomputable def fXb (pl n s:Nat):List (Nat × AV):=
 [(6,.i 3 (.ofNat pl)),(7,.i 3 (.ofNat n)),(8,.i 3 (.ofNat s)),(9,.b false),(10,.b false),(11,undef),(12,undef),(13,undef),(14,undef),(15,undef),(16,undef),(17,undef),(18,undef),(19,undef),(20,undef),
  (21,undef),(22,undef),(23,undef),(24,undef),(25,undef),(26,undef),(27,undef),(28,undef),(29,undef),(30,undef),(31,undef),(32,.b false)]
section
variable {en:Env} {h:H} {nx o off pl ou fu m n:Nat} {cu:Option Nat} {κ κx:Env→H→Nat→R}
structure FIn (en:Env) (o off pl n:Nat):Prop where
 h0:eg 0 en = .p o off
 h1:eg 1 en = .i 3 (.ofNat pl)
 h5:eg 5 en = .i 3 (.ofNat n)
noncomputable def fQ27 (U:AV) (o off off8 pl m ou n s q:Nat) (ge:Bool):List (Nat × AV):=
 [(6,.i 3 (.ofNat pl)),(7,.i 3 (.ofNat n)),(8,.i 3 (.ofNat s)),(9,.b true),(10,.b true),(11,.i 3 (.ofNat pl)),(12,.i 3 (.ofNat n)),(13,.i 3 (.ofNat s)),(14,.p o off),(15,.p o off),(16,.p o off8),(17,U),(18,.i 3 (.ofNat m)),
  (19,.b ge),(20,.b ge),(21,kSel (not' ge) (.p o off)),(22,kSel (not' ge) (.p o off)),(23,kSel (not' ge) (.p o off8)),(24,kSel (not' ge) U),(25,kSel (not' ge) (.i 3 (.ofNat pl))),(26,kSel (not' ge) (.i 3 (.ofNat n))),
  (27,kSel (not' ge) (.i 3 (.ofNat s))),(28,kSel (not' ge) (.p ou q)),(29,kSel (not' ge) (.i 3 (.ofNat 0))),(30,kSel (not' ge) (.b true)),(31,.b true),(32,.b true)]
theorem cmLe_nat (a b:Nat) (κ:Bool→R):cmLe (.ofNat a) (.ofNat b) κ=κ (Nat.ble a b):=rfl
def SegTo (h:H) (nx:Nat) (s:SegF) (en en':Env):Prop:=∀ κ:Env→H→Nat→R,s en h nx κ=κ en' h nx
theorem SegTo.nil {h:H} {nx:Nat} {en:Env}:SegTo h nx sNil en en:=fun _=>rfl
theorem SegTo.op {h:H} {nx t:Nat} {en en':Env} {f:OpF} {r:SegF} {v:AV} (_:t < 512) (hf:∀ κ:K,f en h nx κ=κ v h nx) (hr:SegTo h nx r (es t v en) en'):SegTo h nx (sOp (dT t) f r) en en':=by
 intro κ
 show f en h nx (fun v h nx=>dT t v en fun en=>r en h nx κ)=_
 rw [hf,dT_eq];exact hr κ
theorem gG_b {g:Nat} {want c:Bool} {en:Env} (hg:eg g en = .b c) (A B:R):gG (xT g) want en A B=br (eqB c want) A B:=by
 show xT g en (fun v=>match v with | .b c=>br (eqB c want) A B | .tu _=>B | _=>false)=_
 rw [xT_eq,hg]
theorem SegTo.yes {h:H} {nx t g:Nat} {want c:Bool} {en en':Env} {f:OpF} {r:SegF} {v:AV} (_:t < 512) (hg:eg g en = .b c) (hc:eqB c want=true) (hf:∀ κ:K,f en h nx κ=κ v h nx) (hr:SegTo h nx r (es t v en) en') :
  SegTo h nx (sOpG (gG (xT g) want) (dT t) f r) en en':=by
 intro κ
 show gG (xT g) want en (f en h nx fun v h nx=>dT t v en fun en=>r en h nx κ) (dT t undef en fun en=>r en h nx κ)=_
 rw [gG_b hg,hc,brT,hf,dT_eq];exact hr κ
theorem SegTo.no {h:H} {nx t g:Nat} {want c:Bool} {en en':Env} {f:OpF} {r:SegF} (_:t < 512) (hg:eg g en = .b c) (hc:eqB c want=false) (hr:SegTo h nx r (es t undef en) en'):SegTo h nx (sOpG (gG (xT g) want) (dT t) f r) en en':=by
 intro κ
 show gG (xT g) want en (f en h nx fun v h nx=>dT t v en fun en=>r en h nx κ) (dT t undef en fun en=>r en h nx κ)=_
 rw [gG_b hg,hc,brF,dT_eq];exact hr κ
theorem SegTo.un {h:H} {nx t g:Nat} {want:Bool} {en en':Env} {f:OpF} {r:SegF} (_:t < 512) (hg:eg g en=undef) (hr:SegTo h nx r (es t undef en) en'):SegTo h nx (sOpG (gG (xT g) want) (dT t) f r) en en':=by
 intro κ
 show xT g en (fun v=>match v with | .b c=>br (eqB c want) (f en h nx fun v h nx=>dT t v en fun en=>r en h nx κ) (dT t undef en fun en=>r en h nx κ) | .tu _=>(dT t undef en fun en=>r en h nx κ) | _=>false)=_
 rw [xT_eq,hg]
 show dT t undef en (fun en=>r en h nx κ)=_
 rw [dT_eq];exact hr κ
theorem f_q1 (hf:FIn en o off pl n) (hu:∀ κ,rd1 o (off.add 8) h κ=κ (.sl ou fu m cu)) (hs:pl + n < 65536) (hge:Nat.ble m (pl + n)=true) :
  SegTo h nx fS1 en (esL (fQ27 (.sl ou fu m cu) o off (off + 8) pl m ou n (pl + n) (fu + (pl + n) * 1) true) en):=by
 have h0:eg 0 en=_:=hf.h0
 have h1:eg 1 en=_:=hf.h1
 have h5:eg 5 en=_:=hf.h5
 have a0:Nat.blt (pl + n) 9223372036854775808=true:=by simp [Nat.blt_eq];omega
 have a1:True:=trivial
 have a2:True:=trivial
 have a3:Nat.blt (pl + n) 65536=true:=by simp [Nat.blt_eq];omega
 have c1:Nat.ble m (pl + n)=true:=hge
 have c2:True:=trivial
 have c3:True:=trivial
 have b4:True:=trivial
 refine .op (v:=(.i 3 (.ofNat pl))) (by decide) (fun κ=>by simp only [oMv,xT_eq,xC,eg_es,Nat.reduceLT,Nat.reduceEqDiff,if_true,if_false,reduceIte,h0,h1,h5,asK_i,asN_i,asB_b,asP_p,asSl_sl,cmLt_nat,cmLe_nat,cmEq_nat,kB_eq,brT,brF,fnat_eq,hu,a1,a2,a3,c1,c2,c3,b4]) ?_
 refine .op (v:=(.i 3 (.ofNat n))) (by decide) (fun κ=>by simp only [oMv,xT_eq,xC,eg_es,Nat.reduceLT,Nat.reduceEqDiff,if_true,if_false,reduceIte,h0,h1,h5,asK_i,asN_i,asB_b,asP_p,asSl_sl,cmLt_nat,cmLe_nat,cmEq_nat,kB_eq,brT,brF,fnat_eq,hu,a1,a2,a3,c1,c2,c3,b4]) ?_
 refine .op (v:=(.i 3 (.ofNat (pl + n)))) (by decide) (fun κ=>by simp only [oAr,arAdd_nat a0,xT_eq,xC,eg_es,Nat.reduceLT,Nat.reduceEqDiff,if_true,if_false,reduceIte,h0,h1,h5,asK_i,asN_i,asB_b,asP_p,asSl_sl,cmLt_nat,cmLe_nat,cmEq_nat,kB_eq,brT,brF,fnat_eq,hu,a1,a2,a3,c1,c2,c3,b4]) ?_
 refine .op (v:=(.b true)) (by decide) (fun κ=>by simp only [oLt,xT_eq,xC,eg_es,Nat.reduceLT,Nat.reduceEqDiff,if_true,if_false,reduceIte,h0,h1,h5,asK_i,asN_i,asB_b,asP_p,asSl_sl,cmLt_nat,cmLe_nat,cmEq_nat,kB_eq,brT,brF,fnat_eq,hu,a1,a2,a3,c1,c2,c3,b4]) ?_
 refine .op (v:=(.b true)) (by decide) (fun κ=>by simp only [oMv,xT_eq,xC,eg_es,Nat.reduceLT,Nat.reduceEqDiff,if_true,if_false,reduceIte,h0,h1,h5,asK_i,asN_i,asB_b,asP_p,asSl_sl,cmLt_nat,cmLe_nat,cmEq_nat,kB_eq,brT,brF,fnat_eq,hu,a1,a2,a3,c1,c2,c3,b4]) ?_
 refine .yes (v:=(.i 3 (.ofNat pl))) (c:=true) (by decide) (by simp only [eg_es,Nat.reduceLT,Nat.reduceEqDiff,if_true,if_false,reduceIte]) rfl (fun κ=>by simp only [oMv,xT_eq,xC,eg_es,Nat.reduceLT,Nat.reduceEqDiff,if_true,if_false,reduceIte,h0,h1,h5,asK_i,asN_i,asB_b,asP_p,asSl_sl,cmLt_nat,cmLe_nat,cmEq_nat,kB_eq,brT,brF,fnat_eq,hu,a1,a2,a3,c1,c2,c3,b4]) ?_
 refine .yes (v:=(.i 3 (.ofNat n))) (c:=true) (by decide) (by simp only [eg_es,Nat.reduceLT,Nat.reduceEqDiff,if_true,if_false,reduceIte]) rfl (fun κ=>by simp only [oMv,xT_eq,xC,eg_es,Nat.reduceLT,Nat.reduceEqDiff,if_true,if_false,reduceIte,h0,h1,h5,asK_i,asN_i,asB_b,asP_p,asSl_sl,cmLt_nat,cmLe_nat,cmEq_nat,kB_eq,brT,brF,fnat_eq,hu,a1,a2,a3,c1,c2,c3,b4]) ?_
 refine .yes (v:=(.i 3 (.ofNat (pl + n)))) (c:=true) (by decide) (by simp only [eg_es,Nat.reduceLT,Nat.reduceEqDiff,if_true,if_false,reduceIte]) rfl (fun κ=>by simp only [oAr,arAdd_nat a0,xT_eq,xC,eg_es,Nat.reduceLT,Nat.reduceEqDiff,if_true,if_false,reduceIte,h0,h1,h5,asK_i,asN_i,asB_b,asP_p,asSl_sl,cmLt_nat,cmLe_nat,cmEq_nat,kB_eq,brT,brF,fnat_eq,hu,a1,a2,a3,c1,c2,c3,b4]) ?_
 refine .yes (v:=(.p o off)) (c:=true) (by decide) (by simp only [eg_es,Nat.reduceLT,Nat.reduceEqDiff,if_true,if_false,reduceIte]) rfl (fun κ=>by simp only [oMv,xT_eq,xC,eg_es,Nat.reduceLT,Nat.reduceEqDiff,if_true,if_false,reduceIte,h0,h1,h5,asK_i,asN_i,asB_b,asP_p,asSl_sl,cmLt_nat,cmLe_nat,cmEq_nat,kB_eq,brT,brF,fnat_eq,hu,a1,a2,a3,c1,c2,c3,b4]) ?_
 refine .yes (v:=(.p o off)) (c:=true) (by decide) (by simp only [eg_es,Nat.reduceLT,Nat.reduceEqDiff,if_true,if_false,reduceIte]) rfl (fun κ=>by simp only [oNc,xT_eq,xC,eg_es,Nat.reduceLT,Nat.reduceEqDiff,if_true,if_false,reduceIte,h0,h1,h5,asK_i,asN_i,asB_b,asP_p,asSl_sl,cmLt_nat,cmLe_nat,cmEq_nat,kB_eq,brT,brF,fnat_eq,hu,a1,a2,a3,c1,c2,c3,b4]) ?_
 refine .yes (v:=(.p o (off + 8))) (c:=true) (by decide) (by simp only [eg_es,Nat.reduceLT,Nat.reduceEqDiff,if_true,if_false,reduceIte]) rfl (fun κ=>by simp only [oFa,xT_eq,xC,eg_es,Nat.reduceLT,Nat.reduceEqDiff,if_true,if_false,reduceIte,h0,h1,h5,asK_i,asN_i,asB_b,asP_p,asSl_sl,cmLt_nat,cmLe_nat,cmEq_nat,kB_eq,brT,brF,fnat_eq,hu,a1,a2,a3,c1,c2,c3,b4]) ?_
 refine .yes (v:=(.sl ou fu m cu)) (c:=true) (by decide) (by simp only [eg_es,Nat.reduceLT,Nat.reduceEqDiff,if_true,if_false,reduceIte]) rfl (fun κ=>by simp only [oLd1,xT_eq,xC,eg_es,Nat.reduceLT,Nat.reduceEqDiff,if_true,if_false,reduceIte,h0,h1,h5,asK_i,asN_i,asB_b,asP_p,asSl_sl,cmLt_nat,cmLe_nat,cmEq_nat,kB_eq,brT,brF,fnat_eq,hu,a1,a2,a3,c1,c2,c3,b4]) ?_
 refine .yes (v:=(.i 3 (.ofNat m))) (c:=true) (by decide) (by simp only [eg_es,Nat.reduceLT,Nat.reduceEqDiff,if_true,if_false,reduceIte]) rfl (fun κ=>by simp only [oLenl,xT_eq,xC,eg_es,Nat.reduceLT,Nat.reduceEqDiff,if_true,if_false,reduceIte,h0,h1,h5,asK_i,asN_i,asB_b,asP_p,asSl_sl,cmLt_nat,cmLe_nat,cmEq_nat,kB_eq,brT,brF,fnat_eq,hu,a1,a2,a3,c1,c2,c3,b4]) ?_
 refine .yes (v:=(.b true)) (c:=true) (by decide) (by simp only [eg_es,Nat.reduceLT,Nat.reduceEqDiff,if_true,if_false,reduceIte]) rfl (fun κ=>by simp only [oGe,xT_eq,xC,eg_es,Nat.reduceLT,Nat.reduceEqDiff,if_true,if_false,reduceIte,h0,h1,h5,asK_i,asN_i,asB_b,asP_p,asSl_sl,cmLt_nat,cmLe_nat,cmEq_nat,kB_eq,brT,brF,fnat_eq,hu,a1,a2,a3,c1,c2,c3,b4]) ?_
 refine .yes (v:=(.b true)) (c:=true) (by decide) (by simp only [eg_es,Nat.reduceLT,Nat.reduceEqDiff,if_true,if_false,reduceIte]) rfl (fun κ=>by simp only [oMv,xT_eq,xC,eg_es,Nat.reduceLT,Nat.reduceEqDiff,if_true,if_false,reduceIte,h0,h1,h5,asK_i,asN_i,asB_b,asP_p,asSl_sl,cmLt_nat,cmLe_nat,cmEq_nat,kB_eq,brT,brF,fnat_eq,hu,a1,a2,a3,c1,c2,c3,b4]) ?_
 refine .no (c:=true) (by decide) (by simp only [eg_es,Nat.reduceLT,Nat.reduceEqDiff,if_true,if_false,reduceIte]) rfl ?_
 refine .no (c:=true) (by decide) (by simp only [eg_es,Nat.reduceLT,Nat.reduceEqDiff,if_true,if_false,reduceIte]) rfl ?_
 refine .no (c:=true) (by decide) (by simp only [eg_es,Nat.reduceLT,Nat.reduceEqDiff,if_true,if_false,reduceIte]) rfl ?_
 refine .no (c:=true) (by decide) (by simp only [eg_es,Nat.reduceLT,Nat.reduceEqDiff,if_true,if_false,reduceIte]) rfl ?_
 refine .no (c:=true) (by decide) (by simp only [eg_es,Nat.reduceLT,Nat.reduceEqDiff,if_true,if_false,reduceIte]) rfl ?_
 refine .no (c:=true) (by decide) (by simp only [eg_es,Nat.reduceLT,Nat.reduceEqDiff,if_true,if_false,reduceIte]) rfl ?_
 refine .no (c:=true) (by decide) (by simp only [eg_es,Nat.reduceLT,Nat.reduceEqDiff,if_true,if_false,reduceIte]) rfl ?_
 refine .no (c:=true) (by decide) (by simp only [eg_es,Nat.reduceLT,Nat.reduceEqDiff,if_true,if_false,reduceIte]) rfl ?_
 refine .no (c:=true) (by decide) (by simp only [eg_es,Nat.reduceLT,Nat.reduceEqDiff,if_true,if_false,reduceIte]) rfl ?_
 refine .no (c:=true) (by decide) (by simp only [eg_es,Nat.reduceLT,Nat.reduceEqDiff,if_true,if_false,reduceIte]) rfl ?_
 refine .yes (v:=(.b true)) (c:=true) (by decide) (by simp only [eg_es,Nat.reduceLT,Nat.reduceEqDiff,if_true,if_false,reduceIte]) rfl (fun κ=>by simp only [oPick,xT_eq,xC,eg_es,Nat.reduceLT,Nat.reduceEqDiff,if_true,if_false,reduceIte,h0,h1,h5,asK_i,asN_i,asB_b,asP_p,asSl_sl,cmLt_nat,cmLe_nat,cmEq_nat,kB_eq,brT,brF,fnat_eq,hu,a1,a2,a3,c1,c2,c3,b4]) ?_
 refine .op (v:=(.b true)) (by decide) (fun κ=>by simp only [oPick,xT_eq,xC,eg_es,Nat.reduceLT,Nat.reduceEqDiff,if_true,if_false,reduceIte,h0,h1,h5,asK_i,asN_i,asB_b,asP_p,asSl_sl,cmLt_nat,cmLe_nat,cmEq_nat,kB_eq,brT,brF,fnat_eq,hu,a1,a2,a3,c1,c2,c3,b4]) ?_
 exact .nil
theorem f_q2 (hf:FIn en o off pl n) (hu:∀ κ,rd1 o (off.add 8) h κ=κ (.sl ou fu m cu)) (hs:pl + n < 65536) (hge:Nat.ble m (pl + n)=false) (hc:objC h ou (fu + (pl + n) * 1)=some (.i 3 (.ofNat 0))) :
  SegTo h nx fS1 en (esL (fQ27 (.sl ou fu m cu) o off (off + 8) pl m ou n (pl + n) (fu + (pl + n) * 1) false) en):=by
 have h0:eg 0 en=_:=hf.h0
 have h1:eg 1 en=_:=hf.h1
 have h5:eg 5 en=_:=hf.h5
 have a0:Nat.blt (pl + n) 9223372036854775808=true:=by simp [Nat.blt_eq];omega
 have a1:True:=trivial
 have a2:True:=trivial
 have a3:Nat.blt (pl + n) 65536=true:=by simp [Nat.blt_eq];omega
 have c1:Nat.ble m (pl + n)=false:=hge
 have c2:Nat.blt (pl + n) m=true:=by
  have:¬ (m≤pl + n):=fun h=>by rw [Nat.ble_eq_true_of_le h] at hge;cases hge
  simp [Nat.blt_eq];omega
 have c3:eqB false (not' (Nat.beq 0 0))=true:=rfl
 have b4:True:=trivial
 have hr:∀ κ,rd1 ou (fu.add ((pl + n).mul 1)) h κ=κ (.i 3 (.ofNat 0)):=rd1_eq hc
 refine .op (v:=(.i 3 (.ofNat pl))) (by decide) (fun κ=>by simp only [oMv,xT_eq,xC,eg_es,Nat.reduceLT,Nat.reduceEqDiff,if_true,if_false,reduceIte,h0,h1,h5,asK_i,asN_i,asB_b,asP_p,asSl_sl,cmLt_nat,cmLe_nat,cmEq_nat,kB_eq,brT,brF,fnat_eq,hu,a1,a2,a3,c1,c2,c3,b4]) ?_
 refine .op (v:=(.i 3 (.ofNat n))) (by decide) (fun κ=>by simp only [oMv,xT_eq,xC,eg_es,Nat.reduceLT,Nat.reduceEqDiff,if_true,if_false,reduceIte,h0,h1,h5,asK_i,asN_i,asB_b,asP_p,asSl_sl,cmLt_nat,cmLe_nat,cmEq_nat,kB_eq,brT,brF,fnat_eq,hu,a1,a2,a3,c1,c2,c3,b4]) ?_
 refine .op (v:=(.i 3 (.ofNat (pl + n)))) (by decide) (fun κ=>by simp only [oAr,arAdd_nat a0,xT_eq,xC,eg_es,Nat.reduceLT,Nat.reduceEqDiff,if_true,if_false,reduceIte,h0,h1,h5,asK_i,asN_i,asB_b,asP_p,asSl_sl,cmLt_nat,cmLe_nat,cmEq_nat,kB_eq,brT,brF,fnat_eq,hu,a1,a2,a3,c1,c2,c3,b4]) ?_
 refine .op (v:=(.b true)) (by decide) (fun κ=>by simp only [oLt,xT_eq,xC,eg_es,Nat.reduceLT,Nat.reduceEqDiff,if_true,if_false,reduceIte,h0,h1,h5,asK_i,asN_i,asB_b,asP_p,asSl_sl,cmLt_nat,cmLe_nat,cmEq_nat,kB_eq,brT,brF,fnat_eq,hu,a1,a2,a3,c1,c2,c3,b4]) ?_
 refine .op (v:=(.b true)) (by decide) (fun κ=>by simp only [oMv,xT_eq,xC,eg_es,Nat.reduceLT,Nat.reduceEqDiff,if_true,if_false,reduceIte,h0,h1,h5,asK_i,asN_i,asB_b,asP_p,asSl_sl,cmLt_nat,cmLe_nat,cmEq_nat,kB_eq,brT,brF,fnat_eq,hu,a1,a2,a3,c1,c2,c3,b4]) ?_
 refine .yes (v:=(.i 3 (.ofNat pl))) (c:=true) (by decide) (by simp only [eg_es,Nat.reduceLT,Nat.reduceEqDiff,if_true,if_false,reduceIte]) rfl (fun κ=>by simp only [oMv,xT_eq,xC,eg_es,Nat.reduceLT,Nat.reduceEqDiff,if_true,if_false,reduceIte,h0,h1,h5,asK_i,asN_i,asB_b,asP_p,asSl_sl,cmLt_nat,cmLe_nat,cmEq_nat,kB_eq,brT,brF,fnat_eq,hu,a1,a2,a3,c1,c2,c3,b4]) ?_
 refine .yes (v:=(.i 3 (.ofNat n))) (c:=true) (by decide) (by simp only [eg_es,Nat.reduceLT,Nat.reduceEqDiff,if_true,if_false,reduceIte]) rfl (fun κ=>by simp only [oMv,xT_eq,xC,eg_es,Nat.reduceLT,Nat.reduceEqDiff,if_true,if_false,reduceIte,h0,h1,h5,asK_i,asN_i,asB_b,asP_p,asSl_sl,cmLt_nat,cmLe_nat,cmEq_nat,kB_eq,brT,brF,fnat_eq,hu,a1,a2,a3,c1,c2,c3,b4]) ?_
 refine .yes (v:=(.i 3 (.ofNat (pl + n)))) (c:=true) (by decide) (by simp only [eg_es,Nat.reduceLT,Nat.reduceEqDiff,if_true,if_false,reduceIte]) rfl (fun κ=>by simp only [oAr,arAdd_nat a0,xT_eq,xC,eg_es,Nat.reduceLT,Nat.reduceEqDiff,if_true,if_false,reduceIte,h0,h1,h5,asK_i,asN_i,asB_b,asP_p,asSl_sl,cmLt_nat,cmLe_nat,cmEq_nat,kB_eq,brT,brF,fnat_eq,hu,a1,a2,a3,c1,c2,c3,b4]) ?_
 refine .yes (v:=(.p o off)) (c:=true) (by decide) (by simp only [eg_es,Nat.reduceLT,Nat.reduceEqDiff,if_true,if_false,reduceIte]) rfl (fun κ=>by simp only [oMv,xT_eq,xC,eg_es,Nat.reduceLT,Nat.reduceEqDiff,if_true,if_false,reduceIte,h0,h1,h5,asK_i,asN_i,asB_b,asP_p,asSl_sl,cmLt_nat,cmLe_nat,cmEq_nat,kB_eq,brT,brF,fnat_eq,hu,a1,a2,a3,c1,c2,c3,b4]) ?_
 refine .yes (v:=(.p o off)) (c:=true) (by decide) (by simp only [eg_es,Nat.reduceLT,Nat.reduceEqDiff,if_true,if_false,reduceIte]) rfl (fun κ=>by simp only [oNc,xT_eq,xC,eg_es,Nat.reduceLT,Nat.reduceEqDiff,if_true,if_false,reduceIte,h0,h1,h5,asK_i,asN_i,asB_b,asP_p,asSl_sl,cmLt_nat,cmLe_nat,cmEq_nat,kB_eq,brT,brF,fnat_eq,hu,a1,a2,a3,c1,c2,c3,b4]) ?_
 refine .yes (v:=(.p o (off + 8))) (c:=true) (by decide) (by simp only [eg_es,Nat.reduceLT,Nat.reduceEqDiff,if_true,if_false,reduceIte]) rfl (fun κ=>by simp only [oFa,xT_eq,xC,eg_es,Nat.reduceLT,Nat.reduceEqDiff,if_true,if_false,reduceIte,h0,h1,h5,asK_i,asN_i,asB_b,asP_p,asSl_sl,cmLt_nat,cmLe_nat,cmEq_nat,kB_eq,brT,brF,fnat_eq,hu,a1,a2,a3,c1,c2,c3,b4]) ?_
 refine .yes (v:=(.sl ou fu m cu)) (c:=true) (by decide) (by simp only [eg_es,Nat.reduceLT,Nat.reduceEqDiff,if_true,if_false,reduceIte]) rfl (fun κ=>by simp only [oLd1,xT_eq,xC,eg_es,Nat.reduceLT,Nat.reduceEqDiff,if_true,if_false,reduceIte,h0,h1,h5,asK_i,asN_i,asB_b,asP_p,asSl_sl,cmLt_nat,cmLe_nat,cmEq_nat,kB_eq,brT,brF,fnat_eq,hu,a1,a2,a3,c1,c2,c3,b4]) ?_
 refine .yes (v:=(.i 3 (.ofNat m))) (c:=true) (by decide) (by simp only [eg_es,Nat.reduceLT,Nat.reduceEqDiff,if_true,if_false,reduceIte]) rfl (fun κ=>by simp only [oLenl,xT_eq,xC,eg_es,Nat.reduceLT,Nat.reduceEqDiff,if_true,if_false,reduceIte,h0,h1,h5,asK_i,asN_i,asB_b,asP_p,asSl_sl,cmLt_nat,cmLe_nat,cmEq_nat,kB_eq,brT,brF,fnat_eq,hu,a1,a2,a3,c1,c2,c3,b4]) ?_
 refine .yes (v:=(.b false)) (c:=true) (by decide) (by simp only [eg_es,Nat.reduceLT,Nat.reduceEqDiff,if_true,if_false,reduceIte]) rfl (fun κ=>by simp only [oGe,xT_eq,xC,eg_es,Nat.reduceLT,Nat.reduceEqDiff,if_true,if_false,reduceIte,h0,h1,h5,asK_i,asN_i,asB_b,asP_p,asSl_sl,cmLt_nat,cmLe_nat,cmEq_nat,kB_eq,brT,brF,fnat_eq,hu,a1,a2,a3,c1,c2,c3,b4]) ?_
 refine .yes (v:=(.b false)) (c:=true) (by decide) (by simp only [eg_es,Nat.reduceLT,Nat.reduceEqDiff,if_true,if_false,reduceIte]) rfl (fun κ=>by simp only [oMv,xT_eq,xC,eg_es,Nat.reduceLT,Nat.reduceEqDiff,if_true,if_false,reduceIte,h0,h1,h5,asK_i,asN_i,asB_b,asP_p,asSl_sl,cmLt_nat,cmLe_nat,cmEq_nat,kB_eq,brT,brF,fnat_eq,hu,a1,a2,a3,c1,c2,c3,b4]) ?_
 refine .yes (v:=(.p o off)) (c:=false) (by decide) (by simp only [eg_es,Nat.reduceLT,Nat.reduceEqDiff,if_true,if_false,reduceIte]) rfl (fun κ=>by simp only [oMv,xT_eq,xC,eg_es,Nat.reduceLT,Nat.reduceEqDiff,if_true,if_false,reduceIte,h0,h1,h5,asK_i,asN_i,asB_b,asP_p,asSl_sl,cmLt_nat,cmLe_nat,cmEq_nat,kB_eq,brT,brF,fnat_eq,hu,a1,a2,a3,c1,c2,c3,b4]) ?_
 refine .yes (v:=(.p o off)) (c:=false) (by decide) (by simp only [eg_es,Nat.reduceLT,Nat.reduceEqDiff,if_true,if_false,reduceIte]) rfl (fun κ=>by simp only [oNc,xT_eq,xC,eg_es,Nat.reduceLT,Nat.reduceEqDiff,if_true,if_false,reduceIte,h0,h1,h5,asK_i,asN_i,asB_b,asP_p,asSl_sl,cmLt_nat,cmLe_nat,cmEq_nat,kB_eq,brT,brF,fnat_eq,hu,a1,a2,a3,c1,c2,c3,b4]) ?_
 refine .yes (v:=(.p o (off + 8))) (c:=false) (by decide) (by simp only [eg_es,Nat.reduceLT,Nat.reduceEqDiff,if_true,if_false,reduceIte]) rfl (fun κ=>by simp only [oFa,xT_eq,xC,eg_es,Nat.reduceLT,Nat.reduceEqDiff,if_true,if_false,reduceIte,h0,h1,h5,asK_i,asN_i,asB_b,asP_p,asSl_sl,cmLt_nat,cmLe_nat,cmEq_nat,kB_eq,brT,brF,fnat_eq,hu,a1,a2,a3,c1,c2,c3,b4]) ?_
 refine .yes (v:=(.sl ou fu m cu)) (c:=false) (by decide) (by simp only [eg_es,Nat.reduceLT,Nat.reduceEqDiff,if_true,if_false,reduceIte]) rfl (fun κ=>by simp only [oLd1,xT_eq,xC,eg_es,Nat.reduceLT,Nat.reduceEqDiff,if_true,if_false,reduceIte,h0,h1,h5,asK_i,asN_i,asB_b,asP_p,asSl_sl,cmLt_nat,cmLe_nat,cmEq_nat,kB_eq,brT,brF,fnat_eq,hu,a1,a2,a3,c1,c2,c3,b4]) ?_
 refine .yes (v:=(.i 3 (.ofNat pl))) (c:=false) (by decide) (by simp only [eg_es,Nat.reduceLT,Nat.reduceEqDiff,if_true,if_false,reduceIte]) rfl (fun κ=>by simp only [oMv,xT_eq,xC,eg_es,Nat.reduceLT,Nat.reduceEqDiff,if_true,if_false,reduceIte,h0,h1,h5,asK_i,asN_i,asB_b,asP_p,asSl_sl,cmLt_nat,cmLe_nat,cmEq_nat,kB_eq,brT,brF,fnat_eq,hu,a1,a2,a3,c1,c2,c3,b4]) ?_
 refine .yes (v:=(.i 3 (.ofNat n))) (c:=false) (by decide) (by simp only [eg_es,Nat.reduceLT,Nat.reduceEqDiff,if_true,if_false,reduceIte]) rfl (fun κ=>by simp only [oMv,xT_eq,xC,eg_es,Nat.reduceLT,Nat.reduceEqDiff,if_true,if_false,reduceIte,h0,h1,h5,asK_i,asN_i,asB_b,asP_p,asSl_sl,cmLt_nat,cmLe_nat,cmEq_nat,kB_eq,brT,brF,fnat_eq,hu,a1,a2,a3,c1,c2,c3,b4]) ?_
 refine .yes (v:=(.i 3 (.ofNat (pl + n)))) (c:=false) (by decide) (by simp only [eg_es,Nat.reduceLT,Nat.reduceEqDiff,if_true,if_false,reduceIte]) rfl (fun κ=>by simp only [oAr,arAdd_nat a0,xT_eq,xC,eg_es,Nat.reduceLT,Nat.reduceEqDiff,if_true,if_false,reduceIte,h0,h1,h5,asK_i,asN_i,asB_b,asP_p,asSl_sl,cmLt_nat,cmLe_nat,cmEq_nat,kB_eq,brT,brF,fnat_eq,hu,a1,a2,a3,c1,c2,c3,b4]) ?_
 refine .yes (v:=(.p ou (fu.add ((pl + n).mul 1)))) (c:=false) (by decide) (by simp only [eg_es,Nat.reduceLT,Nat.reduceEqDiff,if_true,if_false,reduceIte]) rfl (fun κ=>by simp only [oIas,xT_eq,xC,eg_es,Nat.reduceLT,Nat.reduceEqDiff,if_true,if_false,reduceIte,h0,h1,h5,asK_i,asN_i,asB_b,asP_p,asSl_sl,cmLt_nat,cmLe_nat,cmEq_nat,kB_eq,brT,brF,fnat_eq,hu,a1,a2,a3,c1,c2,c3,b4]) ?_
 refine .yes (v:=(.i 3 (.ofNat 0))) (c:=false) (by decide) (by simp only [eg_es,Nat.reduceLT,Nat.reduceEqDiff,if_true,if_false,reduceIte]) rfl (fun κ=>by simp only [oLd1,hr,xT_eq,xC,eg_es,Nat.reduceLT,Nat.reduceEqDiff,if_true,if_false,reduceIte,h0,h1,h5,asK_i,asN_i,asB_b,asP_p,asSl_sl,cmLt_nat,cmLe_nat,cmEq_nat,kB_eq,brT,brF,fnat_eq,hu,a1,a2,a3,c1,c2,c3,b4]) ?_
 refine .yes (v:=(.b true)) (c:=false) (by decide) (by simp only [eg_es,Nat.reduceLT,Nat.reduceEqDiff,if_true,if_false,reduceIte]) rfl (fun κ=>by simp only [oEq,xT_eq,xC,eg_es,Nat.reduceLT,Nat.reduceEqDiff,if_true,if_false,reduceIte,h0,h1,h5,asK_i,asN_i,asB_b,asP_p,asSl_sl,cmLt_nat,cmLe_nat,cmEq_nat,kB_eq,brT,brF,fnat_eq,hu,a1,a2,a3,c1,c2,c3,b4]) ?_
 refine .yes (v:=(.b true)) (c:=true) (by decide) (by simp only [eg_es,Nat.reduceLT,Nat.reduceEqDiff,if_true,if_false,reduceIte]) rfl (fun κ=>by simp only [oPick,xT_eq,xC,eg_es,Nat.reduceLT,Nat.reduceEqDiff,if_true,if_false,reduceIte,h0,h1,h5,asK_i,asN_i,asB_b,asP_p,asSl_sl,cmLt_nat,cmLe_nat,cmEq_nat,kB_eq,brT,brF,fnat_eq,hu,a1,a2,a3,c1,c2,c3,b4]) ?_
 refine .op (v:=(.b true)) (by decide) (fun κ=>by simp only [oPick,xT_eq,xC,eg_es,Nat.reduceLT,Nat.reduceEqDiff,if_true,if_false,reduceIte,h0,h1,h5,asK_i,asN_i,asB_b,asP_p,asSl_sl,cmLt_nat,cmLe_nat,cmEq_nat,kB_eq,brT,brF,fnat_eq,hu,a1,a2,a3,c1,c2,c3,b4]) ?_
 exact .nil
theorem f_endA {x:Nat} (hf:FIn en o off pl n) (hu:∀ κ,rd1 o (off.add 8) h κ=κ (.sl ou fu m cu)) (hs:pl + n < 65536) (hge:Nat.ble m (pl + n)=false) (hc:objC h ou (fu + (pl + n) * 1)=some (.i 3 (.ofNat x))) (hx:Nat.beq x 0=false) :
  SegTo h nx fS1 en (esL (fXa (.sl ou fu m cu) o off (off + 8) pl m ou n (pl + n) (fu + (pl + n) * 1) x) en):=by
 have h0:eg 0 en=_:=hf.h0
 have h1:eg 1 en=_:=hf.h1
 have h5:eg 5 en=_:=hf.h5
 have a0:Nat.blt (pl + n) 9223372036854775808=true:=by simp [Nat.blt_eq];omega
 have a1:True:=trivial
 have a2:True:=trivial
 have a3:Nat.blt (pl + n) 65536=true:=by simp [Nat.blt_eq];omega
 have c1:Nat.ble m (pl + n)=false:=hge
 have c2:Nat.blt (pl + n) m=true:=by
  have:¬ (m≤pl + n):=fun h=>by rw [Nat.ble_eq_true_of_le h] at hge;cases hge
  simp [Nat.blt_eq];omega
 have c3:Nat.beq x 0=false:=hx
 have b4:eqB false (not' false)=false:=rfl
 have hr:∀ κ,rd1 ou (fu.add ((pl + n).mul 1)) h κ=κ (.i 3 (.ofNat x)):=rd1_eq hc
 refine .op (v:=(.i 3 (.ofNat pl))) (by decide) (fun κ=>by simp only [oMv,xT_eq,xC,eg_es,Nat.reduceLT,Nat.reduceEqDiff,if_true,if_false,reduceIte,h0,h1,h5,asK_i,asN_i,asB_b,asP_p,asSl_sl,cmLt_nat,cmLe_nat,cmEq_nat,kB_eq,brT,brF,fnat_eq,hu,a1,a2,a3,c1,c2,c3,b4]) ?_
 refine .op (v:=(.i 3 (.ofNat n))) (by decide) (fun κ=>by simp only [oMv,xT_eq,xC,eg_es,Nat.reduceLT,Nat.reduceEqDiff,if_true,if_false,reduceIte,h0,h1,h5,asK_i,asN_i,asB_b,asP_p,asSl_sl,cmLt_nat,cmLe_nat,cmEq_nat,kB_eq,brT,brF,fnat_eq,hu,a1,a2,a3,c1,c2,c3,b4]) ?_
 refine .op (v:=(.i 3 (.ofNat (pl + n)))) (by decide) (fun κ=>by simp only [oAr,arAdd_nat a0,xT_eq,xC,eg_es,Nat.reduceLT,Nat.reduceEqDiff,if_true,if_false,reduceIte,h0,h1,h5,asK_i,asN_i,asB_b,asP_p,asSl_sl,cmLt_nat,cmLe_nat,cmEq_nat,kB_eq,brT,brF,fnat_eq,hu,a1,a2,a3,c1,c2,c3,b4]) ?_
 refine .op (v:=(.b true)) (by decide) (fun κ=>by simp only [oLt,xT_eq,xC,eg_es,Nat.reduceLT,Nat.reduceEqDiff,if_true,if_false,reduceIte,h0,h1,h5,asK_i,asN_i,asB_b,asP_p,asSl_sl,cmLt_nat,cmLe_nat,cmEq_nat,kB_eq,brT,brF,fnat_eq,hu,a1,a2,a3,c1,c2,c3,b4]) ?_
 refine .op (v:=(.b true)) (by decide) (fun κ=>by simp only [oMv,xT_eq,xC,eg_es,Nat.reduceLT,Nat.reduceEqDiff,if_true,if_false,reduceIte,h0,h1,h5,asK_i,asN_i,asB_b,asP_p,asSl_sl,cmLt_nat,cmLe_nat,cmEq_nat,kB_eq,brT,brF,fnat_eq,hu,a1,a2,a3,c1,c2,c3,b4]) ?_
 refine .yes (v:=(.i 3 (.ofNat pl))) (c:=true) (by decide) (by simp only [eg_es,Nat.reduceLT,Nat.reduceEqDiff,if_true,if_false,reduceIte]) rfl (fun κ=>by simp only [oMv,xT_eq,xC,eg_es,Nat.reduceLT,Nat.reduceEqDiff,if_true,if_false,reduceIte,h0,h1,h5,asK_i,asN_i,asB_b,asP_p,asSl_sl,cmLt_nat,cmLe_nat,cmEq_nat,kB_eq,brT,brF,fnat_eq,hu,a1,a2,a3,c1,c2,c3,b4]) ?_
 refine .yes (v:=(.i 3 (.ofNat n))) (c:=true) (by decide) (by simp only [eg_es,Nat.reduceLT,Nat.reduceEqDiff,if_true,if_false,reduceIte]) rfl (fun κ=>by simp only [oMv,xT_eq,xC,eg_es,Nat.reduceLT,Nat.reduceEqDiff,if_true,if_false,reduceIte,h0,h1,h5,asK_i,asN_i,asB_b,asP_p,asSl_sl,cmLt_nat,cmLe_nat,cmEq_nat,kB_eq,brT,brF,fnat_eq,hu,a1,a2,a3,c1,c2,c3,b4]) ?_
 refine .yes (v:=(.i 3 (.ofNat (pl + n)))) (c:=true) (by decide) (by simp only [eg_es,Nat.reduceLT,Nat.reduceEqDiff,if_true,if_false,reduceIte]) rfl (fun κ=>by simp only [oAr,arAdd_nat a0,xT_eq,xC,eg_es,Nat.reduceLT,Nat.reduceEqDiff,if_true,if_false,reduceIte,h0,h1,h5,asK_i,asN_i,asB_b,asP_p,asSl_sl,cmLt_nat,cmLe_nat,cmEq_nat,kB_eq,brT,brF,fnat_eq,hu,a1,a2,a3,c1,c2,c3,b4]) ?_
 refine .yes (v:=(.p o off)) (c:=true) (by decide) (by simp only [eg_es,Nat.reduceLT,Nat.reduceEqDiff,if_true,if_false,reduceIte]) rfl (fun κ=>by simp only [oMv,xT_eq,xC,eg_es,Nat.reduceLT,Nat.reduceEqDiff,if_true,if_false,reduceIte,h0,h1,h5,asK_i,asN_i,asB_b,asP_p,asSl_sl,cmLt_nat,cmLe_nat,cmEq_nat,kB_eq,brT,brF,fnat_eq,hu,a1,a2,a3,c1,c2,c3,b4]) ?_
 refine .yes (v:=(.p o off)) (c:=true) (by decide) (by simp only [eg_es,Nat.reduceLT,Nat.reduceEqDiff,if_true,if_false,reduceIte]) rfl (fun κ=>by simp only [oNc,xT_eq,xC,eg_es,Nat.reduceLT,Nat.reduceEqDiff,if_true,if_false,reduceIte,h0,h1,h5,asK_i,asN_i,asB_b,asP_p,asSl_sl,cmLt_nat,cmLe_nat,cmEq_nat,kB_eq,brT,brF,fnat_eq,hu,a1,a2,a3,c1,c2,c3,b4]) ?_
 refine .yes (v:=(.p o (off + 8))) (c:=true) (by decide) (by simp only [eg_es,Nat.reduceLT,Nat.reduceEqDiff,if_true,if_false,reduceIte]) rfl (fun κ=>by simp only [oFa,xT_eq,xC,eg_es,Nat.reduceLT,Nat.reduceEqDiff,if_true,if_false,reduceIte,h0,h1,h5,asK_i,asN_i,asB_b,asP_p,asSl_sl,cmLt_nat,cmLe_nat,cmEq_nat,kB_eq,brT,brF,fnat_eq,hu,a1,a2,a3,c1,c2,c3,b4]) ?_
 refine .yes (v:=(.sl ou fu m cu)) (c:=true) (by decide) (by simp only [eg_es,Nat.reduceLT,Nat.reduceEqDiff,if_true,if_false,reduceIte]) rfl (fun κ=>by simp only [oLd1,xT_eq,xC,eg_es,Nat.reduceLT,Nat.reduceEqDiff,if_true,if_false,reduceIte,h0,h1,h5,asK_i,asN_i,asB_b,asP_p,asSl_sl,cmLt_nat,cmLe_nat,cmEq_nat,kB_eq,brT,brF,fnat_eq,hu,a1,a2,a3,c1,c2,c3,b4]) ?_
 refine .yes (v:=(.i 3 (.ofNat m))) (c:=true) (by decide) (by simp only [eg_es,Nat.reduceLT,Nat.reduceEqDiff,if_true,if_false,reduceIte]) rfl (fun κ=>by simp only [oLenl,xT_eq,xC,eg_es,Nat.reduceLT,Nat.reduceEqDiff,if_true,if_false,reduceIte,h0,h1,h5,asK_i,asN_i,asB_b,asP_p,asSl_sl,cmLt_nat,cmLe_nat,cmEq_nat,kB_eq,brT,brF,fnat_eq,hu,a1,a2,a3,c1,c2,c3,b4]) ?_
 refine .yes (v:=(.b false)) (c:=true) (by decide) (by simp only [eg_es,Nat.reduceLT,Nat.reduceEqDiff,if_true,if_false,reduceIte]) rfl (fun κ=>by simp only [oGe,xT_eq,xC,eg_es,Nat.reduceLT,Nat.reduceEqDiff,if_true,if_false,reduceIte,h0,h1,h5,asK_i,asN_i,asB_b,asP_p,asSl_sl,cmLt_nat,cmLe_nat,cmEq_nat,kB_eq,brT,brF,fnat_eq,hu,a1,a2,a3,c1,c2,c3,b4]) ?_
 refine .yes (v:=(.b false)) (c:=true) (by decide) (by simp only [eg_es,Nat.reduceLT,Nat.reduceEqDiff,if_true,if_false,reduceIte]) rfl (fun κ=>by simp only [oMv,xT_eq,xC,eg_es,Nat.reduceLT,Nat.reduceEqDiff,if_true,if_false,reduceIte,h0,h1,h5,asK_i,asN_i,asB_b,asP_p,asSl_sl,cmLt_nat,cmLe_nat,cmEq_nat,kB_eq,brT,brF,fnat_eq,hu,a1,a2,a3,c1,c2,c3,b4]) ?_
 refine .yes (v:=(.p o off)) (c:=false) (by decide) (by simp only [eg_es,Nat.reduceLT,Nat.reduceEqDiff,if_true,if_false,reduceIte]) rfl (fun κ=>by simp only [oMv,xT_eq,xC,eg_es,Nat.reduceLT,Nat.reduceEqDiff,if_true,if_false,reduceIte,h0,h1,h5,asK_i,asN_i,asB_b,asP_p,asSl_sl,cmLt_nat,cmLe_nat,cmEq_nat,kB_eq,brT,brF,fnat_eq,hu,a1,a2,a3,c1,c2,c3,b4]) ?_
 refine .yes (v:=(.p o off)) (c:=false) (by decide) (by simp only [eg_es,Nat.reduceLT,Nat.reduceEqDiff,if_true,if_false,reduceIte]) rfl (fun κ=>by simp only [oNc,xT_eq,xC,eg_es,Nat.reduceLT,Nat.reduceEqDiff,if_true,if_false,reduceIte,h0,h1,h5,asK_i,asN_i,asB_b,asP_p,asSl_sl,cmLt_nat,cmLe_nat,cmEq_nat,kB_eq,brT,brF,fnat_eq,hu,a1,a2,a3,c1,c2,c3,b4]) ?_
 refine .yes (v:=(.p o (off + 8))) (c:=false) (by decide) (by simp only [eg_es,Nat.reduceLT,Nat.reduceEqDiff,if_true,if_false,reduceIte]) rfl (fun κ=>by simp only [oFa,xT_eq,xC,eg_es,Nat.reduceLT,Nat.reduceEqDiff,if_true,if_false,reduceIte,h0,h1,h5,asK_i,asN_i,asB_b,asP_p,asSl_sl,cmLt_nat,cmLe_nat,cmEq_nat,kB_eq,brT,brF,fnat_eq,hu,a1,a2,a3,c1,c2,c3,b4]) ?_
 refine .yes (v:=(.sl ou fu m cu)) (c:=false) (by decide) (by simp only [eg_es,Nat.reduceLT,Nat.reduceEqDiff,if_true,if_false,reduceIte]) rfl (fun κ=>by simp only [oLd1,xT_eq,xC,eg_es,Nat.reduceLT,Nat.reduceEqDiff,if_true,if_false,reduceIte,h0,h1,h5,asK_i,asN_i,asB_b,asP_p,asSl_sl,cmLt_nat,cmLe_nat,cmEq_nat,kB_eq,brT,brF,fnat_eq,hu,a1,a2,a3,c1,c2,c3,b4]) ?_
 refine .yes (v:=(.i 3 (.ofNat pl))) (c:=false) (by decide) (by simp only [eg_es,Nat.reduceLT,Nat.reduceEqDiff,if_true,if_false,reduceIte]) rfl (fun κ=>by simp only [oMv,xT_eq,xC,eg_es,Nat.reduceLT,Nat.reduceEqDiff,if_true,if_false,reduceIte,h0,h1,h5,asK_i,asN_i,asB_b,asP_p,asSl_sl,cmLt_nat,cmLe_nat,cmEq_nat,kB_eq,brT,brF,fnat_eq,hu,a1,a2,a3,c1,c2,c3,b4]) ?_
 refine .yes (v:=(.i 3 (.ofNat n))) (c:=false) (by decide) (by simp only [eg_es,Nat.reduceLT,Nat.reduceEqDiff,if_true,if_false,reduceIte]) rfl (fun κ=>by simp only [oMv,xT_eq,xC,eg_es,Nat.reduceLT,Nat.reduceEqDiff,if_true,if_false,reduceIte,h0,h1,h5,asK_i,asN_i,asB_b,asP_p,asSl_sl,cmLt_nat,cmLe_nat,cmEq_nat,kB_eq,brT,brF,fnat_eq,hu,a1,a2,a3,c1,c2,c3,b4]) ?_
 refine .yes (v:=(.i 3 (.ofNat (pl + n)))) (c:=false) (by decide) (by simp only [eg_es,Nat.reduceLT,Nat.reduceEqDiff,if_true,if_false,reduceIte]) rfl (fun κ=>by simp only [oAr,arAdd_nat a0,xT_eq,xC,eg_es,Nat.reduceLT,Nat.reduceEqDiff,if_true,if_false,reduceIte,h0,h1,h5,asK_i,asN_i,asB_b,asP_p,asSl_sl,cmLt_nat,cmLe_nat,cmEq_nat,kB_eq,brT,brF,fnat_eq,hu,a1,a2,a3,c1,c2,c3,b4]) ?_
 refine .yes (v:=(.p ou (fu.add ((pl + n).mul 1)))) (c:=false) (by decide) (by simp only [eg_es,Nat.reduceLT,Nat.reduceEqDiff,if_true,if_false,reduceIte]) rfl (fun κ=>by simp only [oIas,xT_eq,xC,eg_es,Nat.reduceLT,Nat.reduceEqDiff,if_true,if_false,reduceIte,h0,h1,h5,asK_i,asN_i,asB_b,asP_p,asSl_sl,cmLt_nat,cmLe_nat,cmEq_nat,kB_eq,brT,brF,fnat_eq,hu,a1,a2,a3,c1,c2,c3,b4]) ?_
 refine .yes (v:=(.i 3 (.ofNat x))) (c:=false) (by decide) (by simp only [eg_es,Nat.reduceLT,Nat.reduceEqDiff,if_true,if_false,reduceIte]) rfl (fun κ=>by simp only [oLd1,hr,xT_eq,xC,eg_es,Nat.reduceLT,Nat.reduceEqDiff,if_true,if_false,reduceIte,h0,h1,h5,asK_i,asN_i,asB_b,asP_p,asSl_sl,cmLt_nat,cmLe_nat,cmEq_nat,kB_eq,brT,brF,fnat_eq,hu,a1,a2,a3,c1,c2,c3,b4]) ?_
 refine .yes (v:=(.b false)) (c:=false) (by decide) (by simp only [eg_es,Nat.reduceLT,Nat.reduceEqDiff,if_true,if_false,reduceIte]) rfl (fun κ=>by simp only [oEq,xT_eq,xC,eg_es,Nat.reduceLT,Nat.reduceEqDiff,if_true,if_false,reduceIte,h0,h1,h5,asK_i,asN_i,asB_b,asP_p,asSl_sl,cmLt_nat,cmLe_nat,cmEq_nat,kB_eq,brT,brF,fnat_eq,hu,a1,a2,a3,c1,c2,c3,b4]) ?_
 refine .yes (v:=(.b false)) (c:=true) (by decide) (by simp only [eg_es,Nat.reduceLT,Nat.reduceEqDiff,if_true,if_false,reduceIte]) rfl (fun κ=>by simp only [oPick,xT_eq,xC,eg_es,Nat.reduceLT,Nat.reduceEqDiff,if_true,if_false,reduceIte,h0,h1,h5,asK_i,asN_i,asB_b,asP_p,asSl_sl,cmLt_nat,cmLe_nat,cmEq_nat,kB_eq,brT,brF,fnat_eq,hu,a1,a2,a3,c1,c2,c3,b4]) ?_
 refine .op (v:=(.b false)) (by decide) (fun κ=>by simp only [oPick,xT_eq,xC,eg_es,Nat.reduceLT,Nat.reduceEqDiff,if_true,if_false,reduceIte,h0,h1,h5,asK_i,asN_i,asB_b,asP_p,asSl_sl,cmLt_nat,cmLe_nat,cmEq_nat,kB_eq,brT,brF,fnat_eq,hu,a1,a2,a3,c1,c2,c3,b4]) ?_
 exact .nil
theorem f_endB (hf:FIn en o off pl n) (hs:pl + n=65536) :
  SegTo h nx fS1 en (esL (fXb pl n (pl + n)) en):=by
 have h0:eg 0 en=_:=hf.h0
 have h1:eg 1 en=_:=hf.h1
 have h5:eg 5 en=_:=hf.h5
 have a0:Nat.blt (pl + n) 9223372036854775808=true:=by simp [Nat.blt_eq];omega
 have a1:True:=trivial
 have a2:True:=trivial
 have a3:Nat.blt (pl + n) 65536=false:=by rw [hs];rfl
 have c1:True:=trivial
 have c2:True:=trivial
 have c3:True:=trivial
 have b4:True:=trivial
 have hu:True:=trivial
 refine .op (v:=(.i 3 (.ofNat pl))) (by decide) (fun κ=>by simp only [oMv,xT_eq,xC,eg_es,Nat.reduceLT,Nat.reduceEqDiff,if_true,if_false,reduceIte,h0,h1,h5,asK_i,asN_i,asB_b,asP_p,asSl_sl,cmLt_nat,cmLe_nat,cmEq_nat,kB_eq,brT,brF,fnat_eq,hu,a1,a2,a3,c1,c2,c3,b4]) ?_
 refine .op (v:=(.i 3 (.ofNat n))) (by decide) (fun κ=>by simp only [oMv,xT_eq,xC,eg_es,Nat.reduceLT,Nat.reduceEqDiff,if_true,if_false,reduceIte,h0,h1,h5,asK_i,asN_i,asB_b,asP_p,asSl_sl,cmLt_nat,cmLe_nat,cmEq_nat,kB_eq,brT,brF,fnat_eq,hu,a1,a2,a3,c1,c2,c3,b4]) ?_
 refine .op (v:=(.i 3 (.ofNat (pl + n)))) (by decide) (fun κ=>by simp only [oAr,arAdd_nat a0,xT_eq,xC,eg_es,Nat.reduceLT,Nat.reduceEqDiff,if_true,if_false,reduceIte,h0,h1,h5,asK_i,asN_i,asB_b,asP_p,asSl_sl,cmLt_nat,cmLe_nat,cmEq_nat,kB_eq,brT,brF,fnat_eq,hu,a1,a2,a3,c1,c2,c3,b4]) ?_
 refine .op (v:=(.b false)) (by decide) (fun κ=>by simp only [oLt,xT_eq,xC,eg_es,Nat.reduceLT,Nat.reduceEqDiff,if_true,if_false,reduceIte,h0,h1,h5,asK_i,asN_i,asB_b,asP_p,asSl_sl,cmLt_nat,cmLe_nat,cmEq_nat,kB_eq,brT,brF,fnat_eq,hu,a1,a2,a3,c1,c2,c3,b4]) ?_
 refine .op (v:=(.b false)) (by decide) (fun κ=>by simp only [oMv,xT_eq,xC,eg_es,Nat.reduceLT,Nat.reduceEqDiff,if_true,if_false,reduceIte,h0,h1,h5,asK_i,asN_i,asB_b,asP_p,asSl_sl,cmLt_nat,cmLe_nat,cmEq_nat,kB_eq,brT,brF,fnat_eq,hu,a1,a2,a3,c1,c2,c3,b4]) ?_
 refine .no (c:=false) (by decide) (by simp only [eg_es,Nat.reduceLT,Nat.reduceEqDiff,if_true,if_false,reduceIte]) rfl ?_
 refine .no (c:=false) (by decide) (by simp only [eg_es,Nat.reduceLT,Nat.reduceEqDiff,if_true,if_false,reduceIte]) rfl ?_
 refine .no (c:=false) (by decide) (by simp only [eg_es,Nat.reduceLT,Nat.reduceEqDiff,if_true,if_false,reduceIte]) rfl ?_
 refine .no (c:=false) (by decide) (by simp only [eg_es,Nat.reduceLT,Nat.reduceEqDiff,if_true,if_false,reduceIte]) rfl ?_
 refine .no (c:=false) (by decide) (by simp only [eg_es,Nat.reduceLT,Nat.reduceEqDiff,if_true,if_false,reduceIte]) rfl ?_
 refine .no (c:=false) (by decide) (by simp only [eg_es,Nat.reduceLT,Nat.reduceEqDiff,if_true,if_false,reduceIte]) rfl ?_
 refine .no (c:=false) (by decide) (by simp only [eg_es,Nat.reduceLT,Nat.reduceEqDiff,if_true,if_false,reduceIte]) rfl ?_
 refine .no (c:=false) (by decide) (by simp only [eg_es,Nat.reduceLT,Nat.reduceEqDiff,if_true,if_false,reduceIte]) rfl ?_
 refine .no (c:=false) (by decide) (by simp only [eg_es,Nat.reduceLT,Nat.reduceEqDiff,if_true,if_false,reduceIte]) rfl ?_
 refine .no (c:=false) (by decide) (by simp only [eg_es,Nat.reduceLT,Nat.reduceEqDiff,if_true,if_false,reduceIte]) rfl ?_
 refine .un (by decide) (by simp only [eg_es,Nat.reduceLT,Nat.reduceEqDiff,if_true,if_false,reduceIte]) ?_
 refine .un (by decide) (by simp only [eg_es,Nat.reduceLT,Nat.reduceEqDiff,if_true,if_false,reduceIte]) ?_
 refine .un (by decide) (by simp only [eg_es,Nat.reduceLT,Nat.reduceEqDiff,if_true,if_false,reduceIte]) ?_
 refine .un (by decide) (by simp only [eg_es,Nat.reduceLT,Nat.reduceEqDiff,if_true,if_false,reduceIte]) ?_
 refine .un (by decide) (by simp only [eg_es,Nat.reduceLT,Nat.reduceEqDiff,if_true,if_false,reduceIte]) ?_
 refine .un (by decide) (by simp only [eg_es,Nat.reduceLT,Nat.reduceEqDiff,if_true,if_false,reduceIte]) ?_
 refine .un (by decide) (by simp only [eg_es,Nat.reduceLT,Nat.reduceEqDiff,if_true,if_false,reduceIte]) ?_
 refine .un (by decide) (by simp only [eg_es,Nat.reduceLT,Nat.reduceEqDiff,if_true,if_false,reduceIte]) ?_
 refine .un (by decide) (by simp only [eg_es,Nat.reduceLT,Nat.reduceEqDiff,if_true,if_false,reduceIte]) ?_
 refine .un (by decide) (by simp only [eg_es,Nat.reduceLT,Nat.reduceEqDiff,if_true,if_false,reduceIte]) ?_
 refine .no (c:=false) (by decide) (by simp only [eg_es,Nat.reduceLT,Nat.reduceEqDiff,if_true,if_false,reduceIte]) rfl ?_
 refine .op (v:=(.b false)) (by decide) (fun κ=>by simp only [oPick,xT_eq,xC,eg_es,Nat.reduceLT,Nat.reduceEqDiff,if_true,if_false,reduceIte,h0,h1,h5,asK_i,asN_i,asB_b,asP_p,asSl_sl,cmLt_nat,cmLe_nat,cmEq_nat,kB_eq,brT,brF,fnat_eq,hu,a1,a2,a3,c1,c2,c3,b4]) ?_
 exact .nil
theorem fS2_to (hf:eg 5 en = .i 3 (.ofNat n)) (hn:n < 65536):SegTo h nx fS2 en (esL [(33,.i 3 (.ofNat n)),(34,.i 3 (.ofNat (n + 1))),(5,.i 3 (.ofNat (n + 1)))] en):=by
 have a0:Nat.blt (n + 1) 9223372036854775808=true:=by simp [Nat.blt_eq];omega
 refine .op (v:=.i 3 (.ofNat n)) (by decide) (fun κ=>by simp only [oMv,xT_eq,hf]) ?_
 refine .op (v:=.i 3 (.ofNat (n + 1))) (by decide) (fun κ=>by simp only [oAr,xT_eq,xC,eg_es,Nat.reduceLT,Nat.reduceEqDiff,if_true,if_false,reduceIte,asK_i,arAdd_nat a0]) ?_
 refine .op (v:=.i 3 (.ofNat (n + 1))) (by decide) (fun κ=>by simp only [oMv,xT_eq,eg_es,Nat.reduceLT,Nat.reduceEqDiff,if_true,if_false,reduceIte]) ?_
 exact .nil
theorem esL_app:∀ (l l':List (Nat × AV)) (en:Env),esL (l ++ l') en=esL l' (esL l en)
 | [],_,_=>rfl
 | (t,v) :: l,l',en=>esL_app l l' (es t v en)
def FOn (h:H) (ou fu m pl n:Nat):Prop:=pl + n < 65536∧(Nat.ble m (pl + n)=true∨(Nat.ble m (pl + n)=false∧objC h ou (fu + (pl + n) * 1)=some (.i 3 (.ofNat 0))))
theorem fQ27_app {U:AV} {off8 s q j:Nat} {ge:Bool}:fQ27 U o off off8 pl m ou n s q ge ++ [(33,.i 3 (.ofNat n)),(34,.i 3 (.ofNat j)),(5,.i 3 (.ofNat j))]=fQ U o off off8 pl m ou n s q j ge:=rfl
theorem fQ27_lt {U:AV} {off8 s q:Nat} {ge:Bool}:∀ r ∈ fQ27 U o off off8 pl m ou n s q ge,r.1 < 512:=by
 intro r hr
 simp only [fQ27,List.mem_cons,List.not_mem_nil,or_false] at hr
 rcases hr with rfl | rfl | rfl | rfl | rfl | rfl | rfl | rfl | rfl | rfl | rfl | rfl | rfl | rfl | rfl | rfl | rfl | rfl | rfl | rfl | rfl | rfl | rfl | rfl | rfl | rfl | rfl<;>simp
theorem fQ27_32 {U:AV} {off8 s q:Nat} {ge:Bool}:eg 32 (esL (fQ27 U o off off8 pl m ou n s q ge) en) = .b true:=by
 rw [eg_esL (by decide) _ _ fQ27_lt]
 simp only [fQ27,lk,Nat.reduceEqDiff,if_true,if_false,reduceIte]
theorem fQ27_5 {U:AV} {off8 s q:Nat} {ge:Bool}:eg 5 (esL (fQ27 U o off off8 pl m ou n s q ge) en)=eg 5 en:=by
 rw [eg_esL (by decide) _ _ fQ27_lt]
 simp only [fQ27,lk,Nat.reduceEqDiff,if_true,if_false,reduceIte]
theorem f_q27 (hf:FIn en o off pl n) (hu:∀ κ,rd1 o (off.add 8) h κ=κ (.sl ou fu m cu)) (hon:FOn h ou fu m pl n) :
  SegTo h nx fS1 en (esL (fQ27 (.sl ou fu m cu) o off (off + 8) pl m ou n (pl + n) (fu + (pl + n) * 1) (Nat.ble m (pl + n))) en):=by
 rcases hon.2 with h1 | ⟨h1,h2⟩
 ·rw [h1];exact f_q1 hf hu hon.1 h1
 ·rw [h1];exact f_q2 hf hu hon.1 h1 h2
theorem f_quiet (hf:FIn en o off pl n) (hu:∀ κ,rd1 o (off.add 8) h κ=κ (.sl ou fu m cu)) (hon:FOn h ou fu m pl n) :
  fRound en h nx κ κx=κ (esL (fQ (.sl ou fu m cu) o off (off + 8) pl m ou n (pl + n) (fu + (pl + n) * 1) (n + 1) (Nat.ble m (pl + n))) en) h nx:=by
 have h1:=f_q27 (nx:=nx) hf hu hon
 have h2:=@fQ27_32 en o off pl ou m n (.sl ou fu m cu) (off + 8) (pl + n) (fu + (pl + n) * 1) (Nat.ble m (pl + n))
 have h3:=@fQ27_5 en o off pl ou m n (.sl ou fu m cu) (off + 8) (pl + n) (fu + (pl + n) * 1) (Nat.ble m (pl + n))
 rw [hf.h5] at h3
 have h4:=fS2_to (h:=h) (nx:=nx) h3 (by have:=hon.1;omega) κ
 rw [← esL_app,fQ27_app] at h4
 rw [← h4]
 refine (h1 _).trans ?_
 rw [xT_eq,h2]
 rfl
theorem fQ_lt {U:AV} {off8 s q j:Nat} {ge:Bool}:∀ r ∈ fQ U o off off8 pl m ou n s q j ge,r.1 < 512:=by
 intro r hr
 simp only [fQ,List.mem_cons,List.not_mem_nil,or_false] at hr
 rcases hr with rfl | rfl | rfl | rfl | rfl | rfl | rfl | rfl | rfl | rfl | rfl | rfl | rfl | rfl | rfl | rfl | rfl | rfl | rfl | rfl | rfl | rfl | rfl | rfl | rfl | rfl | rfl | rfl | rfl | rfl<;>simp
theorem fQ_over {U:AV} {off8 s q j n' s' q' j':Nat} {ge ge':Bool}:esL (fQ U o off off8 pl m ou n' s' q' j' ge') (esL (fQ U o off off8 pl m ou n s q j ge) en)=esL (fQ U o off off8 pl m ou n' s' q' j' ge') en:=by
 refine esL_over fQ_lt fQ_lt (fun r hr=>?_) en
 simp only [fQ,List.mem_cons,List.not_mem_nil,or_false] at hr
 rcases hr with rfl | rfl | rfl | rfl | rfl | rfl | rfl | rfl | rfl | rfl | rfl | rfl | rfl | rfl | rfl | rfl | rfl | rfl | rfl | rfl | rfl | rfl | rfl | rfl | rfl | rfl | rfl | rfl | rfl | rfl<;>simp [fQ]
theorem FIn.quiet {U:AV} {off8 s q j:Nat} {ge:Bool} (hf:FIn en o off pl n):FIn (esL (fQ U o off off8 pl m ou n s q j ge) en) o off pl j:=by
 have h0:eg 0 en=_:=hf.h0
 have h1:eg 1 en=_:=hf.h1
 constructor<;>(show eg _ _=_;rw [eg_esL (by decide) _ _ fQ_lt])<;>simp [fQ,lk,h0,h1]
noncomputable def fEn (U:AV) (o off fu pl m ou:Nat) (n:Nat) (en:Env):Env:=match n with
 | 0=>en
 | k + 1=>esL (fQ U o off (off + 8) pl m ou k (pl + k) (fu + (pl + k) * 1) (k + 1) (Nat.ble m (pl + k))) en
theorem f_many (F:L (Option AFn) 4) (Lp:L (Option ALp) 5) (k:List T) (fr:Fr) (cs:List AFr) (hu:∀ κ,rd1 o (off.add 8) h κ=κ (.sl ou fu m cu)) (hf:FIn en o off pl 0):∀ n,(∀ j,j < n→FOn h ou fu m pl j)→
  FIn (fEn (.sl ou fu m cu) o off fu pl m ou n en) o off pl n∧∀ κ:ASt→R,run (.mk F Lp false) (4 * n) (.mk en (.lp fpB :: .blk 0 :: k) fr cs h nx) κ=κ (.mk (fEn (.sl ou fu m cu) o off fu pl m ou n en) (.lp fpB :: .blk 0 :: k) fr cs h nx)
 | 0,_=>⟨hf,fun κ=>rfl⟩
 | n + 1,hon=>by
  obtain ⟨h1,h2⟩:=f_many F Lp k fr cs hu hf n fun j hj=>hon j (by omega)
  have henv:esL (fQ (.sl ou fu m cu) o off (off + 8) pl m ou n (pl + n) (fu + (pl + n) * 1) (n + 1) (Nat.ble m (pl + n))) (fEn (.sl ou fu m cu) o off fu pl m ou n en)=fEn (.sl ou fu m cu) o off fu pl m ou (n + 1) en:=by
   cases n with
   | zero=>rfl
   | succ n=>exact fQ_over
  refine ⟨by rw [← henv];exact h1.quiet,fun κ=>?_⟩
  rw [show 4 * (n + 1)=4 * n + 4 by omega,run_add,h2,free_run,f_quiet h1 hu (hon n (by omega)),henv]
noncomputable def fCnt (l:List AV):Nat→(Nat→Nat→R)→R→R:=@List.rec AV (fun _=>Nat→(Nat→Nat→R)→R→R) (fun _ _ κe=>κe)
 (fun v _ ih n κs κe=>asU (fun x=>@Nat.rec (fun _=>R) (fnat (Nat.succ n) fun n=>ih n κs κe) (fun y _=>κs n (Nat.succ y)) x) v) l
theorem fCnt_true {κs:Nat→Nat→R} {κe:R}:∀ {l:List AV} {n:Nat},fCnt l n κs κe=true→∃ c,c≤l.length∧(∀ j,j < c→l[j]? = some (.i 3 (.ofNat 0)))∧((c=l.length∧κe=true)∨∃ y,l[c]? = some (.i 3 (.ofNat (y + 1)))∧κs (n + c) (y + 1)=true)
 | [],n,e=>⟨0,Nat.le_refl _,fun j hj=>by omega,.inl ⟨rfl,e⟩⟩
 | v :: l,n,e=>by
  obtain ⟨x,rfl,e1⟩:=asU_true (show asU (fun x=>@Nat.rec (fun _=>R) (fnat (Nat.succ n) fun n=>fCnt l n κs κe) (fun y _=>κs n (Nat.succ y)) x) v=true from e)
  cases x with
  | zero=>
   have e1:fnat (Nat.succ n) (fun n=>fCnt l n κs κe)=true:=e1
   rw [fnat_eq] at e1
   obtain ⟨c,h1,h2,h3⟩:=fCnt_true e1
   refine ⟨c + 1,by simp;omega,fun j hj=>?_,?_⟩
   ·cases j with
    | zero=>rfl
    | succ j=>exact h2 j (by omega)
   ·rcases h3 with ⟨h3,h4⟩ | ⟨y,h3,h4⟩
    ·exact .inl ⟨by simp [h3],h4⟩
    ·exact .inr ⟨y,h3,by rw [show n + (c + 1)=Nat.succ n + c by omega];exact h4⟩
  | succ y=>exact ⟨0,by omega,fun j hj=>by omega,.inr ⟨y,rfl,e1⟩⟩
noncomputable def fUp (U:AV) (o off fu pl m ou n:Nat) (en:Env) (κ:Env→R):R:=@Nat.rec (fun _=>R) (κ en)
 (fun k _=>fnat (Nat.add off 8) fun off8=>fnat (Nat.add pl k) fun s=>fnat (Nat.add fu (Nat.mul s 1)) fun q=>fnat (Nat.succ k) fun j=>fbool (Nat.ble m s) fun ge=>setsK (fQ U o off off8 pl m ou k s q j ge) en κ) n
theorem fbool_eq' (c:Bool) (κ:Bool→R):fbool c κ=κ c:=by cases c<;>rfl
theorem fUp_eq {U:AV} {κ:Env→R}:fUp U o off fu pl m ou n en κ=κ (fEn U o off fu pl m ou n en):=by
 cases n with
 | zero=>rfl
 | succ k=>
  show fnat (Nat.add off 8) (fun off8=>fnat (Nat.add pl k) fun s=>fnat (Nat.add fu (Nat.mul s 1)) fun q=>fnat (Nat.succ k) fun j=>fbool (Nat.ble m s) fun ge=>setsK (fQ U o off off8 pl m ou k s q j ge) en κ)=_
  rw [fnat_eq,fnat_eq,fnat_eq,fnat_eq,fbool_eq',setsK_eq]
  rfl
noncomputable def freeS:SegF:=fun en h nx κ=>xT 1 en (asU fun pl=>xT 5 en (asU fun n0=>xT 0 en (asP fun o off=>rd1 o (Nat.add off 8) h fun U=>asSl (fun ou fu m _=>
 br (Nat.beq n0 0) (br (Nat.ble m 65536) (br (Nat.ble pl m) (rdP ou fu m h fun l=>fCnt (dropL AV pl l) 0
  (fun n x=>fUp U o off fu pl m ou n en fun en=>fnat (Nat.add pl n) fun s=>fnat (Nat.add fu (Nat.mul s 1)) fun q=>fnat (Nat.add off 8) fun off8=>setsK (fXa U o off off8 pl m ou n s q x) en fun en=>κ en h nx)
  (fnat (Nat.sub 65536 pl) fun n=>fUp U o off fu pl m ou n en fun en=>fnat (Nat.add pl n) fun s=>setsK (fXb pl n s) en fun en=>κ en h nx)) false) false) false) U)))
theorem free_ok:SplOk freeS freeC:=by
 intro F Lp en k fr cs h nx κ e
 have e:xT 1 en (asU fun pl=>xT 5 en (asU fun n0=>xT 0 en (asP fun o off=>rd1 o (Nat.add off 8) h fun U=>asSl (fun ou fu m _=>
  br (Nat.beq n0 0) (br (Nat.ble m 65536) (br (Nat.ble pl m) (rdP ou fu m h fun l=>fCnt (dropL AV pl l) 0
  (fun n x=>fUp U o off fu pl m ou n en fun en=>fnat (Nat.add pl n) fun s=>fnat (Nat.add fu (Nat.mul s 1)) fun q=>fnat (Nat.add off 8) fun off8=>setsK (fXa U o off off8 pl m ou n s q x) en fun en=>κ (.mk en k fr cs h nx))
  (fnat (Nat.sub 65536 pl) fun n=>fUp U o off fu pl m ou n en fun en=>fnat (Nat.add pl n) fun s=>setsK (fXb pl n s) en fun en=>κ (.mk en k fr cs h nx))) false) false) false) U)))=true:=e
 rw [xT_eq] at e
 obtain ⟨pl,g1,e1⟩:=asU_true e
 rw [xT_eq] at e1
 obtain ⟨n0,g5,e2⟩:=asU_true e1
 rw [xT_eq] at e2
 obtain ⟨o,off,g0,e3⟩:=asP_true e2
 obtain ⟨U,hu,e4⟩:=rd1_true e3
 obtain ⟨ou,fu,m,cu,rfl,e5⟩:=asSl_true e4
 obtain ⟨b1,e6⟩:=br_t e5
 obtain ⟨b2,e7⟩:=br_t e6
 obtain ⟨b3,e8⟩:=br_t e7
 have b1:=Nat.eq_of_beq_eq_true b1
 subst b1
 have b2:m≤65536:=Nat.le_of_ble_eq_true b2
 have b3:pl≤m:=Nat.le_of_ble_eq_true b3
 obtain ⟨l0,k1,k2,k3⟩:=rdP_cells e8
 rw [dropL_eq] at k2
 obtain ⟨l,hl0⟩:∃ l,l=l0.drop pl:=⟨_,rfl⟩
 rw [← hl0] at k2
 have k1:l.length=m - pl:=by rw [hl0,List.length_drop,k1]
 have k3:∀ j v,l[j]? = some v→objC h ou (fu + pl + j)=some v:=fun j v hj=>by
  rw [hl0,List.getElem?_drop] at hj
  rw [Nat.add_assoc];exact k3 _ v hj
 have hf:FIn en o off pl 0:=⟨g0,g1,g5⟩
 obtain ⟨c,c1,c2,c3⟩:=fCnt_true k2
 have nge:∀ j,pl + j < m→Nat.ble m (pl + j)=false:=fun j hj=>by
  cases hb:Nat.ble m (pl + j) with
  | false=>rfl
  | true=>have:=Nat.le_of_ble_eq_true hb;omega
 have on0:∀ j,j < c→FOn h ou fu m pl j:=fun j hj=>⟨by omega,.inr ⟨nge j (by omega),by rw [Nat.mul_one,← Nat.add_assoc];exact k3 j _ (c2 j hj)⟩⟩
 rcases c3 with ⟨c3,e9⟩ | ⟨y,c3,e9⟩
 ·rw [fnat_eq] at e9
  have e9:fUp (.sl ou fu m cu) o off fu pl m ou (65536 - pl) en (fun en=>fnat (Nat.add pl (65536 - pl)) fun s=>setsK (fXb pl (65536 - pl) s) en fun en=>κ (.mk en k fr cs h nx))=true:=e9
  rw [fUp_eq,fnat_eq,setsK_eq] at e9
  have on:∀ j,j < 65536 - pl→FOn h ou fu m pl j:=fun j hj=>by
   by_cases hj2:j < c
   ·exact on0 j hj2
   ·exact ⟨by omega,.inl (Nat.ble_eq_true_of_le (by omega))⟩
  obtain ⟨hf',hr⟩:=f_many F Lp k fr cs (nx:=nx) hu hf (65536 - pl) on
  refine ⟨4 * (65536 - pl) + 1 + 1,?_⟩
  rw [free_run1,show 4 * (65536 - pl) + 1 + 1=4 * (65536 - pl) + 2 by omega,run_add,hr,free_run2,f_endB hf' (by omega)]
  rw [xT_eq,eg_esL (by decide) _ _ (by simp [fXb])]
  have:lk 32 (fXb pl (65536 - pl) (pl + (65536 - pl))) (eg 32 (fEn (.sl ou fu m cu) o off fu pl m ou (65536 - pl) en)) = .b false:=by simp [fXb,lk]
  rw [this]
  exact e9
 ·rw [Nat.zero_add] at e9
  have hcl:c < l.length:=(List.getElem?_eq_some_iff.1 c3).1
  have e9:fUp (.sl ou fu m cu) o off fu pl m ou c en (fun en=>fnat (Nat.add pl c) fun s=>fnat (Nat.add fu (Nat.mul s 1)) fun q=>fnat (Nat.add off 8) fun off8=>setsK (fXa (.sl ou fu m cu) o off off8 pl m ou c s q (y + 1)) en fun en=>κ (.mk en k fr cs h nx))=true:=e9
  rw [fUp_eq,fnat_eq,fnat_eq,fnat_eq,setsK_eq] at e9
  obtain ⟨hf',hr⟩:=f_many F Lp k fr cs (nx:=nx) hu hf c on0
  refine ⟨4 * c + 1 + 1,?_⟩
  rw [free_run1,show 4 * c + 1 + 1=4 * c + 2 by omega,run_add,hr,free_run2,f_endA (x:=y + 1) hf' hu (by omega) (nge c (by omega)) (by rw [Nat.mul_one,← Nat.add_assoc];exact k3 c _ c3) rfl]
  rw [xT_eq,eg_esL (by decide) _ _ (by simp [fXa])]
  have:lk 32 (fXa (.sl ou fu m cu) o off (off + 8) pl m ou c (pl + c) (fu + (pl + c) * 1) (y + 1)) (eg 32 (fEn (.sl ou fu m cu) o off fu pl m ou c en)) = .b false:=by simp [fXa,lk]
  rw [this]
  exact e9
end
end Go.AM

namespace Go.AM
open Go Go.ChangeShapes Go.WideShapes Go.ChangeAt Go.RowKit
theorem joined_of {P:Program} {f:FuncId} {fn:Func} {s:ChangeSpec} {c:OpenClaim}
  (k1:(c.wf (OpenSpec.ofChange s))=true)
  (k2:(laidOutB P)=true)
  (k3:(mapsRowed P)=true)
  (k4:(fn.params.all (P.readableRec ·))=true)
  (k5:(namedTie P c.named s.vars)=true)
  (k6:((c.stops == []))=true)
  (k7:((P.stops == []))=true)
  (k8:((c.knobs == []))=true)
  (k9:((P.stopKnobs == []))=true)
  (k10:((c.inPlace == P.inPlace f))=true)
  (k11:((c.unfollowed == P.unfollowed f))=true)
  (k12:((c.recurses == P.recurses f))=true)
  (k13:((c.named == P.varsNamed f))=true)
  (k14:((c.maps == (fn.params.toList ++ s.plain.varTypes P).any (P.mapsRec ·)))=true)
  (k15:((c.ifaces == (fn.params.toList ++ s.plain.varTypes P).any (P.ifacesRec ·)))=true)
  (k16:((c.mapsOut == P.mapsAmong fn.resultTypes.toList))=true)
  (k17:((c.loops == (fn.params.toList ++ s.plain.varTypes P).any (P.loopsFrom ·)))=true)
  (k18:((c.wideKeys == (fn.params.toList ++ s.plain.varTypes P ++ fn.resultTypes.toList).any (P.wideKeysFrom ·)))=true)
  (k19:(s.vars.all (P.varReadable ·))=true)
  (k20:(fn.resultTypes.all (fun t=>P.readableRec t && decide (t < P.types.size)))=true)
  (k21:((c.ifacesOut == fn.resultTypes.toList.any (P.ifacesRec ·)))=true)
  (k22:((c.loopsOut == fn.resultTypes.toList.any (P.loopsFrom ·)))=true)
  (k23:((c.plainKeys == P.plainKeys))=true)
  (k24:(c.shortTexts.isNone)=true)
  (k25:(P.stopsHeard)=true)
  (k26:(P.mayEnter)=true)
  (k27:((c.lifted == P.liftsFinal))=true)
  (k28:((P.make == some c.make))=true)
  (k29:((c.kinds == (if c.domain.isEmpty then [] else fn.params.toList.map fun t=>match P.underlying t with | some (.int k)=>some k | _=>none)))=true)
  (k30:((c.pinned == c.pinnedBy))=true)
  (k31:((c.veiled == (fn.params.toList ++ s.plain.varTypes P ++ fn.resultTypes.toList).any (P.veiledRec ·)))=true)
  (k32:(c.veiledFits P fn.params.toList (fn.params.toList ++ s.plain.varTypes P ++ fn.resultTypes.toList))=true):joinedFacts P f fn s c=true:=by
 have and2:∀ {a b:Bool},a=true→b=true→(a && b)=true:=fun h1 h2=>by rw [h1,h2];rfl
 unfold joinedFacts
 exact and2 (and2 (and2 (and2 (and2 (and2 (and2 (and2 (and2 (and2 (and2 (and2 (and2 (and2 (and2 (and2 (and2 (and2 (and2 (and2 (and2 (and2 (and2 (and2 (and2 (and2 (and2 (and2 (and2 (and2 (and2 (k1) k2) k3) k4) k5) k6) k7) k8) k9) k10) k11) k12) k13) k14) k15) k16) k17) k18) k19) k20) k21) k22) k23) k24) k25) k26) k27) k28) k29) k30) k31) k32
end Go.AM

namespace Go.AM
open Go
noncomputable section
abbrev Lv0:=L AV 0
abbrev Lv1:=L AV 1
abbrev Lv2:=L AV 2
def G0:XF:=fun en κ=>g80 Lv2 (g80 Lv1 (g80 Lv0 κ)) en
def S0:DsF:=fun v=>s80 Lv2 (s80 Lv1 (s80 Lv0 (sB AV v)))
def G1:XF:=fun en κ=>g80 Lv2 (g80 Lv1 (g81 Lv0 κ)) en
def S1:DsF:=fun v=>s80 Lv2 (s80 Lv1 (s81 Lv0 (sB AV v)))
def G2:XF:=fun en κ=>g80 Lv2 (g80 Lv1 (g82 Lv0 κ)) en
def S2:DsF:=fun v=>s80 Lv2 (s80 Lv1 (s82 Lv0 (sB AV v)))
def G3:XF:=fun en κ=>g80 Lv2 (g80 Lv1 (g83 Lv0 κ)) en
def S3:DsF:=fun v=>s80 Lv2 (s80 Lv1 (s83 Lv0 (sB AV v)))
def G4:XF:=fun en κ=>g80 Lv2 (g80 Lv1 (g84 Lv0 κ)) en
def S4:DsF:=fun v=>s80 Lv2 (s80 Lv1 (s84 Lv0 (sB AV v)))
def G5:XF:=fun en κ=>g80 Lv2 (g80 Lv1 (g85 Lv0 κ)) en
def S5:DsF:=fun v=>s80 Lv2 (s80 Lv1 (s85 Lv0 (sB AV v)))
def G6:XF:=fun en κ=>g80 Lv2 (g80 Lv1 (g86 Lv0 κ)) en
def S6:DsF:=fun v=>s80 Lv2 (s80 Lv1 (s86 Lv0 (sB AV v)))
def G7:XF:=fun en κ=>g80 Lv2 (g80 Lv1 (g87 Lv0 κ)) en
def S7:DsF:=fun v=>s80 Lv2 (s80 Lv1 (s87 Lv0 (sB AV v)))
def G8:XF:=fun en κ=>g80 Lv2 (g81 Lv1 (g80 Lv0 κ)) en
def S8:DsF:=fun v=>s80 Lv2 (s81 Lv1 (s80 Lv0 (sB AV v)))
def G9:XF:=fun en κ=>g80 Lv2 (g81 Lv1 (g81 Lv0 κ)) en
def S9:DsF:=fun v=>s80 Lv2 (s81 Lv1 (s81 Lv0 (sB AV v)))
def G10:XF:=fun en κ=>g80 Lv2 (g81 Lv1 (g82 Lv0 κ)) en
def S10:DsF:=fun v=>s80 Lv2 (s81 Lv1 (s82 Lv0 (sB AV v)))
def G11:XF:=fun en κ=>g80 Lv2 (g81 Lv1 (g83 Lv0 κ)) en
def S11:DsF:=fun v=>s80 Lv2 (s81 Lv1 (s83 Lv0 (sB AV v)))
def G12:XF:=fun en κ=>g80 Lv2 (g81 Lv1 (g84 Lv0 κ)) en
def S12:DsF:=fun v=>s80 Lv2 (s81 Lv1 (s84 Lv0 (sB AV v)))
def G13:XF:=fun en κ=>g80 Lv2 (g81 Lv1 (g85 Lv0 κ)) en
def S13:DsF:=fun v=>s80 Lv2 (s81 Lv1 (s85 Lv0 (sB AV v)))
def G14:XF:=fun en κ=>g80 Lv2 (g81 Lv1 (g86 Lv0 κ)) en
def S14:DsF:=fun v=>s80 Lv2 (s81 Lv1 (s86 Lv0 (sB AV v)))
def G15:XF:=fun en κ=>g80 Lv2 (g81 Lv1 (g87 Lv0 κ)) en
def S15:DsF:=fun v=>s80 Lv2 (s81 Lv1 (s87 Lv0 (sB AV v)))
def G16:XF:=fun en κ=>g80 Lv2 (g82 Lv1 (g80 Lv0 κ)) en
def S16:DsF:=fun v=>s80 Lv2 (s82 Lv1 (s80 Lv0 (sB AV v)))
def G17:XF:=fun en κ=>g80 Lv2 (g82 Lv1 (g81 Lv0 κ)) en
def S17:DsF:=fun v=>s80 Lv2 (s82 Lv1 (s81 Lv0 (sB AV v)))
def G18:XF:=fun en κ=>g80 Lv2 (g82 Lv1 (g82 Lv0 κ)) en
def S18:DsF:=fun v=>s80 Lv2 (s82 Lv1 (s82 Lv0 (sB AV v)))
def G19:XF:=fun en κ=>g80 Lv2 (g82 Lv1 (g83 Lv0 κ)) en
def S19:DsF:=fun v=>s80 Lv2 (s82 Lv1 (s83 Lv0 (sB AV v)))
def G20:XF:=fun en κ=>g80 Lv2 (g82 Lv1 (g84 Lv0 κ)) en
def S20:DsF:=fun v=>s80 Lv2 (s82 Lv1 (s84 Lv0 (sB AV v)))
def G21:XF:=fun en κ=>g80 Lv2 (g82 Lv1 (g85 Lv0 κ)) en
def S21:DsF:=fun v=>s80 Lv2 (s82 Lv1 (s85 Lv0 (sB AV v)))
def G22:XF:=fun en κ=>g80 Lv2 (g82 Lv1 (g86 Lv0 κ)) en
def S22:DsF:=fun v=>s80 Lv2 (s82 Lv1 (s86 Lv0 (sB AV v)))
def G23:XF:=fun en κ=>g80 Lv2 (g82 Lv1 (g87 Lv0 κ)) en
def S23:DsF:=fun v=>s80 Lv2 (s82 Lv1 (s87 Lv0 (sB AV v)))
def G24:XF:=fun en κ=>g80 Lv2 (g83 Lv1 (g80 Lv0 κ)) en
def S24:DsF:=fun v=>s80 Lv2 (s83 Lv1 (s80 Lv0 (sB AV v)))
def G25:XF:=fun en κ=>g80 Lv2 (g83 Lv1 (g81 Lv0 κ)) en
def S25:DsF:=fun v=>s80 Lv2 (s83 Lv1 (s81 Lv0 (sB AV v)))
def G26:XF:=fun en κ=>g80 Lv2 (g83 Lv1 (g82 Lv0 κ)) en
def S26:DsF:=fun v=>s80 Lv2 (s83 Lv1 (s82 Lv0 (sB AV v)))
def G27:XF:=fun en κ=>g80 Lv2 (g83 Lv1 (g83 Lv0 κ)) en
def S27:DsF:=fun v=>s80 Lv2 (s83 Lv1 (s83 Lv0 (sB AV v)))
def G28:XF:=fun en κ=>g80 Lv2 (g83 Lv1 (g84 Lv0 κ)) en
def S28:DsF:=fun v=>s80 Lv2 (s83 Lv1 (s84 Lv0 (sB AV v)))
def G29:XF:=fun en κ=>g80 Lv2 (g83 Lv1 (g85 Lv0 κ)) en
def S29:DsF:=fun v=>s80 Lv2 (s83 Lv1 (s85 Lv0 (sB AV v)))
def G30:XF:=fun en κ=>g80 Lv2 (g83 Lv1 (g86 Lv0 κ)) en
def S30:DsF:=fun v=>s80 Lv2 (s83 Lv1 (s86 Lv0 (sB AV v)))
def G31:XF:=fun en κ=>g80 Lv2 (g83 Lv1 (g87 Lv0 κ)) en
def S31:DsF:=fun v=>s80 Lv2 (s83 Lv1 (s87 Lv0 (sB AV v)))
def G32:XF:=fun en κ=>g80 Lv2 (g84 Lv1 (g80 Lv0 κ)) en
def S32:DsF:=fun v=>s80 Lv2 (s84 Lv1 (s80 Lv0 (sB AV v)))
def G33:XF:=fun en κ=>g80 Lv2 (g84 Lv1 (g81 Lv0 κ)) en
def S33:DsF:=fun v=>s80 Lv2 (s84 Lv1 (s81 Lv0 (sB AV v)))
def G34:XF:=fun en κ=>g80 Lv2 (g84 Lv1 (g82 Lv0 κ)) en
def S34:DsF:=fun v=>s80 Lv2 (s84 Lv1 (s82 Lv0 (sB AV v)))
def G35:XF:=fun en κ=>g80 Lv2 (g84 Lv1 (g83 Lv0 κ)) en
def S35:DsF:=fun v=>s80 Lv2 (s84 Lv1 (s83 Lv0 (sB AV v)))
def G36:XF:=fun en κ=>g80 Lv2 (g84 Lv1 (g84 Lv0 κ)) en
def S36:DsF:=fun v=>s80 Lv2 (s84 Lv1 (s84 Lv0 (sB AV v)))
def G37:XF:=fun en κ=>g80 Lv2 (g84 Lv1 (g85 Lv0 κ)) en
def S37:DsF:=fun v=>s80 Lv2 (s84 Lv1 (s85 Lv0 (sB AV v)))
def G38:XF:=fun en κ=>g80 Lv2 (g84 Lv1 (g86 Lv0 κ)) en
def S38:DsF:=fun v=>s80 Lv2 (s84 Lv1 (s86 Lv0 (sB AV v)))
def G39:XF:=fun en κ=>g80 Lv2 (g84 Lv1 (g87 Lv0 κ)) en
def S39:DsF:=fun v=>s80 Lv2 (s84 Lv1 (s87 Lv0 (sB AV v)))
def G40:XF:=fun en κ=>g80 Lv2 (g85 Lv1 (g80 Lv0 κ)) en
def S40:DsF:=fun v=>s80 Lv2 (s85 Lv1 (s80 Lv0 (sB AV v)))
def G41:XF:=fun en κ=>g80 Lv2 (g85 Lv1 (g81 Lv0 κ)) en
def S41:DsF:=fun v=>s80 Lv2 (s85 Lv1 (s81 Lv0 (sB AV v)))
def G42:XF:=fun en κ=>g80 Lv2 (g85 Lv1 (g82 Lv0 κ)) en
def S42:DsF:=fun v=>s80 Lv2 (s85 Lv1 (s82 Lv0 (sB AV v)))
def G43:XF:=fun en κ=>g80 Lv2 (g85 Lv1 (g83 Lv0 κ)) en
def S43:DsF:=fun v=>s80 Lv2 (s85 Lv1 (s83 Lv0 (sB AV v)))
def G44:XF:=fun en κ=>g80 Lv2 (g85 Lv1 (g84 Lv0 κ)) en
def S44:DsF:=fun v=>s80 Lv2 (s85 Lv1 (s84 Lv0 (sB AV v)))
def G45:XF:=fun en κ=>g80 Lv2 (g85 Lv1 (g85 Lv0 κ)) en
def S45:DsF:=fun v=>s80 Lv2 (s85 Lv1 (s85 Lv0 (sB AV v)))
def G46:XF:=fun en κ=>g80 Lv2 (g85 Lv1 (g86 Lv0 κ)) en
def S46:DsF:=fun v=>s80 Lv2 (s85 Lv1 (s86 Lv0 (sB AV v)))
def G47:XF:=fun en κ=>g80 Lv2 (g85 Lv1 (g87 Lv0 κ)) en
def S47:DsF:=fun v=>s80 Lv2 (s85 Lv1 (s87 Lv0 (sB AV v)))
def G48:XF:=fun en κ=>g80 Lv2 (g86 Lv1 (g80 Lv0 κ)) en
def S48:DsF:=fun v=>s80 Lv2 (s86 Lv1 (s80 Lv0 (sB AV v)))
def G49:XF:=fun en κ=>g80 Lv2 (g86 Lv1 (g81 Lv0 κ)) en
def S49:DsF:=fun v=>s80 Lv2 (s86 Lv1 (s81 Lv0 (sB AV v)))
def G50:XF:=fun en κ=>g80 Lv2 (g86 Lv1 (g82 Lv0 κ)) en
def S50:DsF:=fun v=>s80 Lv2 (s86 Lv1 (s82 Lv0 (sB AV v)))
def G51:XF:=fun en κ=>g80 Lv2 (g86 Lv1 (g83 Lv0 κ)) en
def S51:DsF:=fun v=>s80 Lv2 (s86 Lv1 (s83 Lv0 (sB AV v)))
def G52:XF:=fun en κ=>g80 Lv2 (g86 Lv1 (g84 Lv0 κ)) en
def S52:DsF:=fun v=>s80 Lv2 (s86 Lv1 (s84 Lv0 (sB AV v)))
def G53:XF:=fun en κ=>g80 Lv2 (g86 Lv1 (g85 Lv0 κ)) en
def S53:DsF:=fun v=>s80 Lv2 (s86 Lv1 (s85 Lv0 (sB AV v)))
def G54:XF:=fun en κ=>g80 Lv2 (g86 Lv1 (g86 Lv0 κ)) en
def S54:DsF:=fun v=>s80 Lv2 (s86 Lv1 (s86 Lv0 (sB AV v)))
def G55:XF:=fun en κ=>g80 Lv2 (g86 Lv1 (g87 Lv0 κ)) en
def S55:DsF:=fun v=>s80 Lv2 (s86 Lv1 (s87 Lv0 (sB AV v)))
def G56:XF:=fun en κ=>g80 Lv2 (g87 Lv1 (g80 Lv0 κ)) en
def S56:DsF:=fun v=>s80 Lv2 (s87 Lv1 (s80 Lv0 (sB AV v)))
def G57:XF:=fun en κ=>g80 Lv2 (g87 Lv1 (g81 Lv0 κ)) en
def S57:DsF:=fun v=>s80 Lv2 (s87 Lv1 (s81 Lv0 (sB AV v)))
def G58:XF:=fun en κ=>g80 Lv2 (g87 Lv1 (g82 Lv0 κ)) en
def S58:DsF:=fun v=>s80 Lv2 (s87 Lv1 (s82 Lv0 (sB AV v)))
def G59:XF:=fun en κ=>g80 Lv2 (g87 Lv1 (g83 Lv0 κ)) en
def S59:DsF:=fun v=>s80 Lv2 (s87 Lv1 (s83 Lv0 (sB AV v)))
def G60:XF:=fun en κ=>g80 Lv2 (g87 Lv1 (g84 Lv0 κ)) en
def S60:DsF:=fun v=>s80 Lv2 (s87 Lv1 (s84 Lv0 (sB AV v)))
def G61:XF:=fun en κ=>g80 Lv2 (g87 Lv1 (g85 Lv0 κ)) en
def S61:DsF:=fun v=>s80 Lv2 (s87 Lv1 (s85 Lv0 (sB AV v)))
def G62:XF:=fun en κ=>g80 Lv2 (g87 Lv1 (g86 Lv0 κ)) en
def S62:DsF:=fun v=>s80 Lv2 (s87 Lv1 (s86 Lv0 (sB AV v)))
def G63:XF:=fun en κ=>g80 Lv2 (g87 Lv1 (g87 Lv0 κ)) en
def S63:DsF:=fun v=>s80 Lv2 (s87 Lv1 (s87 Lv0 (sB AV v)))
def G64:XF:=fun en κ=>g81 Lv2 (g80 Lv1 (g80 Lv0 κ)) en
def S64:DsF:=fun v=>s81 Lv2 (s80 Lv1 (s80 Lv0 (sB AV v)))
def G65:XF:=fun en κ=>g81 Lv2 (g80 Lv1 (g81 Lv0 κ)) en
def S65:DsF:=fun v=>s81 Lv2 (s80 Lv1 (s81 Lv0 (sB AV v)))
def G66:XF:=fun en κ=>g81 Lv2 (g80 Lv1 (g82 Lv0 κ)) en
def S66:DsF:=fun v=>s81 Lv2 (s80 Lv1 (s82 Lv0 (sB AV v)))
def G67:XF:=fun en κ=>g81 Lv2 (g80 Lv1 (g83 Lv0 κ)) en
def S67:DsF:=fun v=>s81 Lv2 (s80 Lv1 (s83 Lv0 (sB AV v)))
def G68:XF:=fun en κ=>g81 Lv2 (g80 Lv1 (g84 Lv0 κ)) en
def S68:DsF:=fun v=>s81 Lv2 (s80 Lv1 (s84 Lv0 (sB AV v)))
def G69:XF:=fun en κ=>g81 Lv2 (g80 Lv1 (g85 Lv0 κ)) en
def S69:DsF:=fun v=>s81 Lv2 (s80 Lv1 (s85 Lv0 (sB AV v)))
def G70:XF:=fun en κ=>g81 Lv2 (g80 Lv1 (g86 Lv0 κ)) en
def S70:DsF:=fun v=>s81 Lv2 (s80 Lv1 (s86 Lv0 (sB AV v)))
def G71:XF:=fun en κ=>g81 Lv2 (g80 Lv1 (g87 Lv0 κ)) en
def S71:DsF:=fun v=>s81 Lv2 (s80 Lv1 (s87 Lv0 (sB AV v)))
def G72:XF:=fun en κ=>g81 Lv2 (g81 Lv1 (g80 Lv0 κ)) en
def S72:DsF:=fun v=>s81 Lv2 (s81 Lv1 (s80 Lv0 (sB AV v)))
def G73:XF:=fun en κ=>g81 Lv2 (g81 Lv1 (g81 Lv0 κ)) en
def S73:DsF:=fun v=>s81 Lv2 (s81 Lv1 (s81 Lv0 (sB AV v)))
def G74:XF:=fun en κ=>g81 Lv2 (g81 Lv1 (g82 Lv0 κ)) en
def S74:DsF:=fun v=>s81 Lv2 (s81 Lv1 (s82 Lv0 (sB AV v)))
def G75:XF:=fun en κ=>g81 Lv2 (g81 Lv1 (g83 Lv0 κ)) en
def S75:DsF:=fun v=>s81 Lv2 (s81 Lv1 (s83 Lv0 (sB AV v)))
def G76:XF:=fun en κ=>g81 Lv2 (g81 Lv1 (g84 Lv0 κ)) en
def S76:DsF:=fun v=>s81 Lv2 (s81 Lv1 (s84 Lv0 (sB AV v)))
def G77:XF:=fun en κ=>g81 Lv2 (g81 Lv1 (g85 Lv0 κ)) en
def S77:DsF:=fun v=>s81 Lv2 (s81 Lv1 (s85 Lv0 (sB AV v)))
def G78:XF:=fun en κ=>g81 Lv2 (g81 Lv1 (g86 Lv0 κ)) en
def S78:DsF:=fun v=>s81 Lv2 (s81 Lv1 (s86 Lv0 (sB AV v)))
def G79:XF:=fun en κ=>g81 Lv2 (g81 Lv1 (g87 Lv0 κ)) en
def S79:DsF:=fun v=>s81 Lv2 (s81 Lv1 (s87 Lv0 (sB AV v)))
def G80:XF:=fun en κ=>g81 Lv2 (g82 Lv1 (g80 Lv0 κ)) en
def S80:DsF:=fun v=>s81 Lv2 (s82 Lv1 (s80 Lv0 (sB AV v)))
def G81:XF:=fun en κ=>g81 Lv2 (g82 Lv1 (g81 Lv0 κ)) en
def S81:DsF:=fun v=>s81 Lv2 (s82 Lv1 (s81 Lv0 (sB AV v)))
def G82:XF:=fun en κ=>g81 Lv2 (g82 Lv1 (g82 Lv0 κ)) en
def S82:DsF:=fun v=>s81 Lv2 (s82 Lv1 (s82 Lv0 (sB AV v)))
def G83:XF:=fun en κ=>g81 Lv2 (g82 Lv1 (g83 Lv0 κ)) en
def S83:DsF:=fun v=>s81 Lv2 (s82 Lv1 (s83 Lv0 (sB AV v)))
def G84:XF:=fun en κ=>g81 Lv2 (g82 Lv1 (g84 Lv0 κ)) en
def S84:DsF:=fun v=>s81 Lv2 (s82 Lv1 (s84 Lv0 (sB AV v)))
def G85:XF:=fun en κ=>g81 Lv2 (g82 Lv1 (g85 Lv0 κ)) en
def S85:DsF:=fun v=>s81 Lv2 (s82 Lv1 (s85 Lv0 (sB AV v)))
def G86:XF:=fun en κ=>g81 Lv2 (g82 Lv1 (g86 Lv0 κ)) en
def S86:DsF:=fun v=>s81 Lv2 (s82 Lv1 (s86 Lv0 (sB AV v)))
def G87:XF:=fun en κ=>g81 Lv2 (g82 Lv1 (g87 Lv0 κ)) en
def S87:DsF:=fun v=>s81 Lv2 (s82 Lv1 (s87 Lv0 (sB AV v)))
def G88:XF:=fun en κ=>g81 Lv2 (g83 Lv1 (g80 Lv0 κ)) en
def S88:DsF:=fun v=>s81 Lv2 (s83 Lv1 (s80 Lv0 (sB AV v)))
def G89:XF:=fun en κ=>g81 Lv2 (g83 Lv1 (g81 Lv0 κ)) en
def S89:DsF:=fun v=>s81 Lv2 (s83 Lv1 (s81 Lv0 (sB AV v)))
def G90:XF:=fun en κ=>g81 Lv2 (g83 Lv1 (g82 Lv0 κ)) en
def S90:DsF:=fun v=>s81 Lv2 (s83 Lv1 (s82 Lv0 (sB AV v)))
def G91:XF:=fun en κ=>g81 Lv2 (g83 Lv1 (g83 Lv0 κ)) en
def S91:DsF:=fun v=>s81 Lv2 (s83 Lv1 (s83 Lv0 (sB AV v)))
def G92:XF:=fun en κ=>g81 Lv2 (g83 Lv1 (g84 Lv0 κ)) en
def S92:DsF:=fun v=>s81 Lv2 (s83 Lv1 (s84 Lv0 (sB AV v)))
def G93:XF:=fun en κ=>g81 Lv2 (g83 Lv1 (g85 Lv0 κ)) en
def S93:DsF:=fun v=>s81 Lv2 (s83 Lv1 (s85 Lv0 (sB AV v)))
def G94:XF:=fun en κ=>g81 Lv2 (g83 Lv1 (g86 Lv0 κ)) en
def S94:DsF:=fun v=>s81 Lv2 (s83 Lv1 (s86 Lv0 (sB AV v)))
def G95:XF:=fun en κ=>g81 Lv2 (g83 Lv1 (g87 Lv0 κ)) en
def S95:DsF:=fun v=>s81 Lv2 (s83 Lv1 (s87 Lv0 (sB AV v)))
def G96:XF:=fun en κ=>g81 Lv2 (g84 Lv1 (g80 Lv0 κ)) en
def S96:DsF:=fun v=>s81 Lv2 (s84 Lv1 (s80 Lv0 (sB AV v)))
def G97:XF:=fun en κ=>g81 Lv2 (g84 Lv1 (g81 Lv0 κ)) en
def S97:DsF:=fun v=>s81 Lv2 (s84 Lv1 (s81 Lv0 (sB AV v)))
def G98:XF:=fun en κ=>g81 Lv2 (g84 Lv1 (g82 Lv0 κ)) en
def S98:DsF:=fun v=>s81 Lv2 (s84 Lv1 (s82 Lv0 (sB AV v)))
def G99:XF:=fun en κ=>g81 Lv2 (g84 Lv1 (g83 Lv0 κ)) en
def S99:DsF:=fun v=>s81 Lv2 (s84 Lv1 (s83 Lv0 (sB AV v)))
def G100:XF:=fun en κ=>g81 Lv2 (g84 Lv1 (g84 Lv0 κ)) en
def S100:DsF:=fun v=>s81 Lv2 (s84 Lv1 (s84 Lv0 (sB AV v)))
def G101:XF:=fun en κ=>g81 Lv2 (g84 Lv1 (g85 Lv0 κ)) en
def S101:DsF:=fun v=>s81 Lv2 (s84 Lv1 (s85 Lv0 (sB AV v)))
def G102:XF:=fun en κ=>g81 Lv2 (g84 Lv1 (g86 Lv0 κ)) en
def S102:DsF:=fun v=>s81 Lv2 (s84 Lv1 (s86 Lv0 (sB AV v)))
def G103:XF:=fun en κ=>g81 Lv2 (g84 Lv1 (g87 Lv0 κ)) en
def S103:DsF:=fun v=>s81 Lv2 (s84 Lv1 (s87 Lv0 (sB AV v)))
def G104:XF:=fun en κ=>g81 Lv2 (g85 Lv1 (g80 Lv0 κ)) en
def S104:DsF:=fun v=>s81 Lv2 (s85 Lv1 (s80 Lv0 (sB AV v)))
def G105:XF:=fun en κ=>g81 Lv2 (g85 Lv1 (g81 Lv0 κ)) en
def S105:DsF:=fun v=>s81 Lv2 (s85 Lv1 (s81 Lv0 (sB AV v)))
def G106:XF:=fun en κ=>g81 Lv2 (g85 Lv1 (g82 Lv0 κ)) en
def S106:DsF:=fun v=>s81 Lv2 (s85 Lv1 (s82 Lv0 (sB AV v)))
def G107:XF:=fun en κ=>g81 Lv2 (g85 Lv1 (g83 Lv0 κ)) en
def S107:DsF:=fun v=>s81 Lv2 (s85 Lv1 (s83 Lv0 (sB AV v)))
def G108:XF:=fun en κ=>g81 Lv2 (g85 Lv1 (g84 Lv0 κ)) en
def S108:DsF:=fun v=>s81 Lv2 (s85 Lv1 (s84 Lv0 (sB AV v)))
def G109:XF:=fun en κ=>g81 Lv2 (g85 Lv1 (g85 Lv0 κ)) en
def S109:DsF:=fun v=>s81 Lv2 (s85 Lv1 (s85 Lv0 (sB AV v)))
def G110:XF:=fun en κ=>g81 Lv2 (g85 Lv1 (g86 Lv0 κ)) en
def S110:DsF:=fun v=>s81 Lv2 (s85 Lv1 (s86 Lv0 (sB AV v)))
def G111:XF:=fun en κ=>g81 Lv2 (g85 Lv1 (g87 Lv0 κ)) en
def S111:DsF:=fun v=>s81 Lv2 (s85 Lv1 (s87 Lv0 (sB AV v)))
def G112:XF:=fun en κ=>g81 Lv2 (g86 Lv1 (g80 Lv0 κ)) en
def S112:DsF:=fun v=>s81 Lv2 (s86 Lv1 (s80 Lv0 (sB AV v)))
def G113:XF:=fun en κ=>g81 Lv2 (g86 Lv1 (g81 Lv0 κ)) en
def S113:DsF:=fun v=>s81 Lv2 (s86 Lv1 (s81 Lv0 (sB AV v)))
def G114:XF:=fun en κ=>g81 Lv2 (g86 Lv1 (g82 Lv0 κ)) en
def S114:DsF:=fun v=>s81 Lv2 (s86 Lv1 (s82 Lv0 (sB AV v)))
def G115:XF:=fun en κ=>g81 Lv2 (g86 Lv1 (g83 Lv0 κ)) en
def S115:DsF:=fun v=>s81 Lv2 (s86 Lv1 (s83 Lv0 (sB AV v)))
def G116:XF:=fun en κ=>g81 Lv2 (g86 Lv1 (g84 Lv0 κ)) en
def S116:DsF:=fun v=>s81 Lv2 (s86 Lv1 (s84 Lv0 (sB AV v)))
def G117:XF:=fun en κ=>g81 Lv2 (g86 Lv1 (g85 Lv0 κ)) en
def S117:DsF:=fun v=>s81 Lv2 (s86 Lv1 (s85 Lv0 (sB AV v)))
def G118:XF:=fun en κ=>g81 Lv2 (g86 Lv1 (g86 Lv0 κ)) en
def S118:DsF:=fun v=>s81 Lv2 (s86 Lv1 (s86 Lv0 (sB AV v)))
def G119:XF:=fun en κ=>g81 Lv2 (g86 Lv1 (g87 Lv0 κ)) en
def S119:DsF:=fun v=>s81 Lv2 (s86 Lv1 (s87 Lv0 (sB AV v)))
def G120:XF:=fun en κ=>g81 Lv2 (g87 Lv1 (g80 Lv0 κ)) en
def S120:DsF:=fun v=>s81 Lv2 (s87 Lv1 (s80 Lv0 (sB AV v)))
def G121:XF:=fun en κ=>g81 Lv2 (g87 Lv1 (g81 Lv0 κ)) en
def S121:DsF:=fun v=>s81 Lv2 (s87 Lv1 (s81 Lv0 (sB AV v)))
def G122:XF:=fun en κ=>g81 Lv2 (g87 Lv1 (g82 Lv0 κ)) en
def S122:DsF:=fun v=>s81 Lv2 (s87 Lv1 (s82 Lv0 (sB AV v)))
def G123:XF:=fun en κ=>g81 Lv2 (g87 Lv1 (g83 Lv0 κ)) en
def S123:DsF:=fun v=>s81 Lv2 (s87 Lv1 (s83 Lv0 (sB AV v)))
def G124:XF:=fun en κ=>g81 Lv2 (g87 Lv1 (g84 Lv0 κ)) en
def S124:DsF:=fun v=>s81 Lv2 (s87 Lv1 (s84 Lv0 (sB AV v)))
def G125:XF:=fun en κ=>g81 Lv2 (g87 Lv1 (g85 Lv0 κ)) en
def S125:DsF:=fun v=>s81 Lv2 (s87 Lv1 (s85 Lv0 (sB AV v)))
def G126:XF:=fun en κ=>g81 Lv2 (g87 Lv1 (g86 Lv0 κ)) en
def S126:DsF:=fun v=>s81 Lv2 (s87 Lv1 (s86 Lv0 (sB AV v)))
def G127:XF:=fun en κ=>g81 Lv2 (g87 Lv1 (g87 Lv0 κ)) en
def S127:DsF:=fun v=>s81 Lv2 (s87 Lv1 (s87 Lv0 (sB AV v)))
def G128:XF:=fun en κ=>g82 Lv2 (g80 Lv1 (g80 Lv0 κ)) en
def S128:DsF:=fun v=>s82 Lv2 (s80 Lv1 (s80 Lv0 (sB AV v)))
def G129:XF:=fun en κ=>g82 Lv2 (g80 Lv1 (g81 Lv0 κ)) en
def S129:DsF:=fun v=>s82 Lv2 (s80 Lv1 (s81 Lv0 (sB AV v)))
def G130:XF:=fun en κ=>g82 Lv2 (g80 Lv1 (g82 Lv0 κ)) en
def S130:DsF:=fun v=>s82 Lv2 (s80 Lv1 (s82 Lv0 (sB AV v)))
def G131:XF:=fun en κ=>g82 Lv2 (g80 Lv1 (g83 Lv0 κ)) en
def S131:DsF:=fun v=>s82 Lv2 (s80 Lv1 (s83 Lv0 (sB AV v)))
def G132:XF:=fun en κ=>g82 Lv2 (g80 Lv1 (g84 Lv0 κ)) en
def S132:DsF:=fun v=>s82 Lv2 (s80 Lv1 (s84 Lv0 (sB AV v)))
def G133:XF:=fun en κ=>g82 Lv2 (g80 Lv1 (g85 Lv0 κ)) en
def S133:DsF:=fun v=>s82 Lv2 (s80 Lv1 (s85 Lv0 (sB AV v)))
def G134:XF:=fun en κ=>g82 Lv2 (g80 Lv1 (g86 Lv0 κ)) en
def S134:DsF:=fun v=>s82 Lv2 (s80 Lv1 (s86 Lv0 (sB AV v)))
def G135:XF:=fun en κ=>g82 Lv2 (g80 Lv1 (g87 Lv0 κ)) en
def S135:DsF:=fun v=>s82 Lv2 (s80 Lv1 (s87 Lv0 (sB AV v)))
def G136:XF:=fun en κ=>g82 Lv2 (g81 Lv1 (g80 Lv0 κ)) en
def S136:DsF:=fun v=>s82 Lv2 (s81 Lv1 (s80 Lv0 (sB AV v)))
def G137:XF:=fun en κ=>g82 Lv2 (g81 Lv1 (g81 Lv0 κ)) en
def S137:DsF:=fun v=>s82 Lv2 (s81 Lv1 (s81 Lv0 (sB AV v)))
def G138:XF:=fun en κ=>g82 Lv2 (g81 Lv1 (g82 Lv0 κ)) en
def S138:DsF:=fun v=>s82 Lv2 (s81 Lv1 (s82 Lv0 (sB AV v)))
def G139:XF:=fun en κ=>g82 Lv2 (g81 Lv1 (g83 Lv0 κ)) en
def S139:DsF:=fun v=>s82 Lv2 (s81 Lv1 (s83 Lv0 (sB AV v)))
def G140:XF:=fun en κ=>g82 Lv2 (g81 Lv1 (g84 Lv0 κ)) en
def S140:DsF:=fun v=>s82 Lv2 (s81 Lv1 (s84 Lv0 (sB AV v)))
def G141:XF:=fun en κ=>g82 Lv2 (g81 Lv1 (g85 Lv0 κ)) en
def S141:DsF:=fun v=>s82 Lv2 (s81 Lv1 (s85 Lv0 (sB AV v)))
def G142:XF:=fun en κ=>g82 Lv2 (g81 Lv1 (g86 Lv0 κ)) en
def S142:DsF:=fun v=>s82 Lv2 (s81 Lv1 (s86 Lv0 (sB AV v)))
def G143:XF:=fun en κ=>g82 Lv2 (g81 Lv1 (g87 Lv0 κ)) en
def S143:DsF:=fun v=>s82 Lv2 (s81 Lv1 (s87 Lv0 (sB AV v)))
def G144:XF:=fun en κ=>g82 Lv2 (g82 Lv1 (g80 Lv0 κ)) en
def S144:DsF:=fun v=>s82 Lv2 (s82 Lv1 (s80 Lv0 (sB AV v)))
def G145:XF:=fun en κ=>g82 Lv2 (g82 Lv1 (g81 Lv0 κ)) en
def S145:DsF:=fun v=>s82 Lv2 (s82 Lv1 (s81 Lv0 (sB AV v)))
def G146:XF:=fun en κ=>g82 Lv2 (g82 Lv1 (g82 Lv0 κ)) en
def S146:DsF:=fun v=>s82 Lv2 (s82 Lv1 (s82 Lv0 (sB AV v)))
def G147:XF:=fun en κ=>g82 Lv2 (g82 Lv1 (g83 Lv0 κ)) en
def S147:DsF:=fun v=>s82 Lv2 (s82 Lv1 (s83 Lv0 (sB AV v)))
def G148:XF:=fun en κ=>g82 Lv2 (g82 Lv1 (g84 Lv0 κ)) en
def S148:DsF:=fun v=>s82 Lv2 (s82 Lv1 (s84 Lv0 (sB AV v)))
def G149:XF:=fun en κ=>g82 Lv2 (g82 Lv1 (g85 Lv0 κ)) en
def S149:DsF:=fun v=>s82 Lv2 (s82 Lv1 (s85 Lv0 (sB AV v)))
def G150:XF:=fun en κ=>g82 Lv2 (g82 Lv1 (g86 Lv0 κ)) en
def S150:DsF:=fun v=>s82 Lv2 (s82 Lv1 (s86 Lv0 (sB AV v)))
def G151:XF:=fun en κ=>g82 Lv2 (g82 Lv1 (g87 Lv0 κ)) en
def S151:DsF:=fun v=>s82 Lv2 (s82 Lv1 (s87 Lv0 (sB AV v)))
def G152:XF:=fun en κ=>g82 Lv2 (g83 Lv1 (g80 Lv0 κ)) en
def S152:DsF:=fun v=>s82 Lv2 (s83 Lv1 (s80 Lv0 (sB AV v)))
def G153:XF:=fun en κ=>g82 Lv2 (g83 Lv1 (g81 Lv0 κ)) en
def S153:DsF:=fun v=>s82 Lv2 (s83 Lv1 (s81 Lv0 (sB AV v)))
def G154:XF:=fun en κ=>g82 Lv2 (g83 Lv1 (g82 Lv0 κ)) en
def S154:DsF:=fun v=>s82 Lv2 (s83 Lv1 (s82 Lv0 (sB AV v)))
def G155:XF:=fun en κ=>g82 Lv2 (g83 Lv1 (g83 Lv0 κ)) en
def S155:DsF:=fun v=>s82 Lv2 (s83 Lv1 (s83 Lv0 (sB AV v)))
def G156:XF:=fun en κ=>g82 Lv2 (g83 Lv1 (g84 Lv0 κ)) en
def S156:DsF:=fun v=>s82 Lv2 (s83 Lv1 (s84 Lv0 (sB AV v)))
def G157:XF:=fun en κ=>g82 Lv2 (g83 Lv1 (g85 Lv0 κ)) en
def S157:DsF:=fun v=>s82 Lv2 (s83 Lv1 (s85 Lv0 (sB AV v)))
def G158:XF:=fun en κ=>g82 Lv2 (g83 Lv1 (g86 Lv0 κ)) en
def S158:DsF:=fun v=>s82 Lv2 (s83 Lv1 (s86 Lv0 (sB AV v)))
def G159:XF:=fun en κ=>g82 Lv2 (g83 Lv1 (g87 Lv0 κ)) en
def S159:DsF:=fun v=>s82 Lv2 (s83 Lv1 (s87 Lv0 (sB AV v)))
def G160:XF:=fun en κ=>g82 Lv2 (g84 Lv1 (g80 Lv0 κ)) en
def S160:DsF:=fun v=>s82 Lv2 (s84 Lv1 (s80 Lv0 (sB AV v)))
def G161:XF:=fun en κ=>g82 Lv2 (g84 Lv1 (g81 Lv0 κ)) en
def S161:DsF:=fun v=>s82 Lv2 (s84 Lv1 (s81 Lv0 (sB AV v)))
def G162:XF:=fun en κ=>g82 Lv2 (g84 Lv1 (g82 Lv0 κ)) en
def S162:DsF:=fun v=>s82 Lv2 (s84 Lv1 (s82 Lv0 (sB AV v)))
def G163:XF:=fun en κ=>g82 Lv2 (g84 Lv1 (g83 Lv0 κ)) en
def S163:DsF:=fun v=>s82 Lv2 (s84 Lv1 (s83 Lv0 (sB AV v)))
def G164:XF:=fun en κ=>g82 Lv2 (g84 Lv1 (g84 Lv0 κ)) en
def S164:DsF:=fun v=>s82 Lv2 (s84 Lv1 (s84 Lv0 (sB AV v)))
def G165:XF:=fun en κ=>g82 Lv2 (g84 Lv1 (g85 Lv0 κ)) en
def S165:DsF:=fun v=>s82 Lv2 (s84 Lv1 (s85 Lv0 (sB AV v)))
def G166:XF:=fun en κ=>g82 Lv2 (g84 Lv1 (g86 Lv0 κ)) en
def S166:DsF:=fun v=>s82 Lv2 (s84 Lv1 (s86 Lv0 (sB AV v)))
def G167:XF:=fun en κ=>g82 Lv2 (g84 Lv1 (g87 Lv0 κ)) en
def S167:DsF:=fun v=>s82 Lv2 (s84 Lv1 (s87 Lv0 (sB AV v)))
def G168:XF:=fun en κ=>g82 Lv2 (g85 Lv1 (g80 Lv0 κ)) en
def S168:DsF:=fun v=>s82 Lv2 (s85 Lv1 (s80 Lv0 (sB AV v)))
def G169:XF:=fun en κ=>g82 Lv2 (g85 Lv1 (g81 Lv0 κ)) en
def S169:DsF:=fun v=>s82 Lv2 (s85 Lv1 (s81 Lv0 (sB AV v)))
def G170:XF:=fun en κ=>g82 Lv2 (g85 Lv1 (g82 Lv0 κ)) en
def S170:DsF:=fun v=>s82 Lv2 (s85 Lv1 (s82 Lv0 (sB AV v)))
def G171:XF:=fun en κ=>g82 Lv2 (g85 Lv1 (g83 Lv0 κ)) en
def S171:DsF:=fun v=>s82 Lv2 (s85 Lv1 (s83 Lv0 (sB AV v)))
def G172:XF:=fun en κ=>g82 Lv2 (g85 Lv1 (g84 Lv0 κ)) en
def S172:DsF:=fun v=>s82 Lv2 (s85 Lv1 (s84 Lv0 (sB AV v)))
def G173:XF:=fun en κ=>g82 Lv2 (g85 Lv1 (g85 Lv0 κ)) en
def S173:DsF:=fun v=>s82 Lv2 (s85 Lv1 (s85 Lv0 (sB AV v)))
def G174:XF:=fun en κ=>g82 Lv2 (g85 Lv1 (g86 Lv0 κ)) en
def S174:DsF:=fun v=>s82 Lv2 (s85 Lv1 (s86 Lv0 (sB AV v)))
def G175:XF:=fun en κ=>g82 Lv2 (g85 Lv1 (g87 Lv0 κ)) en
def S175:DsF:=fun v=>s82 Lv2 (s85 Lv1 (s87 Lv0 (sB AV v)))
def G176:XF:=fun en κ=>g82 Lv2 (g86 Lv1 (g80 Lv0 κ)) en
def S176:DsF:=fun v=>s82 Lv2 (s86 Lv1 (s80 Lv0 (sB AV v)))
def G177:XF:=fun en κ=>g82 Lv2 (g86 Lv1 (g81 Lv0 κ)) en
def S177:DsF:=fun v=>s82 Lv2 (s86 Lv1 (s81 Lv0 (sB AV v)))
def G178:XF:=fun en κ=>g82 Lv2 (g86 Lv1 (g82 Lv0 κ)) en
def S178:DsF:=fun v=>s82 Lv2 (s86 Lv1 (s82 Lv0 (sB AV v)))
def G179:XF:=fun en κ=>g82 Lv2 (g86 Lv1 (g83 Lv0 κ)) en
def S179:DsF:=fun v=>s82 Lv2 (s86 Lv1 (s83 Lv0 (sB AV v)))
def G180:XF:=fun en κ=>g82 Lv2 (g86 Lv1 (g84 Lv0 κ)) en
def S180:DsF:=fun v=>s82 Lv2 (s86 Lv1 (s84 Lv0 (sB AV v)))
def G181:XF:=fun en κ=>g82 Lv2 (g86 Lv1 (g85 Lv0 κ)) en
def S181:DsF:=fun v=>s82 Lv2 (s86 Lv1 (s85 Lv0 (sB AV v)))
def G182:XF:=fun en κ=>g82 Lv2 (g86 Lv1 (g86 Lv0 κ)) en
def S182:DsF:=fun v=>s82 Lv2 (s86 Lv1 (s86 Lv0 (sB AV v)))
def G183:XF:=fun en κ=>g82 Lv2 (g86 Lv1 (g87 Lv0 κ)) en
def S183:DsF:=fun v=>s82 Lv2 (s86 Lv1 (s87 Lv0 (sB AV v)))
def G184:XF:=fun en κ=>g82 Lv2 (g87 Lv1 (g80 Lv0 κ)) en
def S184:DsF:=fun v=>s82 Lv2 (s87 Lv1 (s80 Lv0 (sB AV v)))
def G185:XF:=fun en κ=>g82 Lv2 (g87 Lv1 (g81 Lv0 κ)) en
def S185:DsF:=fun v=>s82 Lv2 (s87 Lv1 (s81 Lv0 (sB AV v)))
def G186:XF:=fun en κ=>g82 Lv2 (g87 Lv1 (g82 Lv0 κ)) en
def S186:DsF:=fun v=>s82 Lv2 (s87 Lv1 (s82 Lv0 (sB AV v)))
def G187:XF:=fun en κ=>g82 Lv2 (g87 Lv1 (g83 Lv0 κ)) en
def S187:DsF:=fun v=>s82 Lv2 (s87 Lv1 (s83 Lv0 (sB AV v)))
def G188:XF:=fun en κ=>g82 Lv2 (g87 Lv1 (g84 Lv0 κ)) en
def S188:DsF:=fun v=>s82 Lv2 (s87 Lv1 (s84 Lv0 (sB AV v)))
def G189:XF:=fun en κ=>g82 Lv2 (g87 Lv1 (g85 Lv0 κ)) en
def S189:DsF:=fun v=>s82 Lv2 (s87 Lv1 (s85 Lv0 (sB AV v)))
def G190:XF:=fun en κ=>g82 Lv2 (g87 Lv1 (g86 Lv0 κ)) en
def S190:DsF:=fun v=>s82 Lv2 (s87 Lv1 (s86 Lv0 (sB AV v)))
def G191:XF:=fun en κ=>g82 Lv2 (g87 Lv1 (g87 Lv0 κ)) en
def S191:DsF:=fun v=>s82 Lv2 (s87 Lv1 (s87 Lv0 (sB AV v)))
def G192:XF:=fun en κ=>g83 Lv2 (g80 Lv1 (g80 Lv0 κ)) en
def S192:DsF:=fun v=>s83 Lv2 (s80 Lv1 (s80 Lv0 (sB AV v)))
def G193:XF:=fun en κ=>g83 Lv2 (g80 Lv1 (g81 Lv0 κ)) en
def S193:DsF:=fun v=>s83 Lv2 (s80 Lv1 (s81 Lv0 (sB AV v)))
def G194:XF:=fun en κ=>g83 Lv2 (g80 Lv1 (g82 Lv0 κ)) en
def S194:DsF:=fun v=>s83 Lv2 (s80 Lv1 (s82 Lv0 (sB AV v)))
def G195:XF:=fun en κ=>g83 Lv2 (g80 Lv1 (g83 Lv0 κ)) en
def S195:DsF:=fun v=>s83 Lv2 (s80 Lv1 (s83 Lv0 (sB AV v)))
end
end Go.AM
