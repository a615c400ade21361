/- A part of the proof of this: the law ShellFalls. Conditions: none. Joined of AmNw, M28Z, M28FG. -/
import Derived.Test.YtnpimhboonddjaaGreatDoorC4
namespace Go.AM
open Go
section
variable {P:Program} {w0 w w':World} {pd:List (Nat × AO)} {θ:Th} {h:H} {nx:Nat}
theorem HR.frame (hr:HR P w0 pd θ h nx w) {o:Nat} {a a':AO} (ho:θ.has o) (ha:obj h o=some a) (hw:a.wr=true) (hsz:w.heap.size≤w'.heap.size) (hh:∀ b,b < w.heap.size→b≠θ.blk o→w'.heap[b]? = w.heap[b]?)
  (hp:w'.os=w.os∧w'.tape=w.tape∧w'.output=w.output) (ha':OR P θ w' o a') (hs':a'.sh=[]):HR P w0 pd θ (killL a.sh (setO h o a')) nx w':=by
 have hlt:=(hr.own o ho).2.2.1
 obtain ⟨ob,hob⟩:∃ ob,w'.heap[θ.blk o]? = some ob:=⟨_,Array.getElem?_eq_getElem (Nat.lt_of_lt_of_le hlt hsz)⟩
 have e1:({ w with heap:=w.heap.setIfInBounds (θ.blk o) ob }:World).heap[θ.blk o]? = w'.heap[θ.blk o]?:=by
  show (w.heap.setIfInBounds (θ.blk o) ob)[θ.blk o]? = _
  rw [Array.getElem?_setIfInBounds_self_of_lt hlt,hob]
 have e2:∀ b,b≠θ.blk o→({ w with heap:=w.heap.setIfInBounds (θ.blk o) ob }:World).heap[b]? = w.heap[b]?:=fun b hb=>by
  show (w.heap.setIfInBounds (θ.blk o) ob)[b]? = _
  rw [Array.getElem?_setIfInBounds_ne (Ne.symm hb)]
 have h1:=hr.upd (w':={ w with heap:=w.heap.setIfInBounds (θ.blk o) ob }) ho ha hw (by simp) e2 ⟨rfl,rfl,rfl⟩ (ha'.mono (.refl θ) ho e1) (by rw [hs'];intro x hx;cases hx)
 refine h1.wider hp (by simpa using hsz) (fun b hb=>?_)
 have hb:b < w.heap.size:=by simpa using hb
 by_cases e:b=θ.blk o
 ·subst e;exact e1.symm
 ·rw [e2 b e];exact hh b hb e
end
def Th.only (b:Nat) (X:Nat→Value) (hX:∀ n,(X n).oneCell' = true):Th:=
 {has:=fun o=>o=0,blk:=fun _=>b,bas:=fun _=>0,siz:=fun _=>0,esz:=fun _=>0,ini:=fun c=>c=b,ext:=X,ext1:=hX,fr:=fun _ _=>.bool false,fr1:=fun _ _=>rfl }
section
variable {P:Program} {w0 w w':World} {pd:List (Nat × AO)} {θ:Th} {h:H} {nx:Nat}
theorem hr_only (hR:HR P w0 pd θ h nx w) {o:Nat} (ho:θ.has o) {X:Nat→Value} {hX:∀ n,(X n).oneCell' = true} {l:List AV} (hor:OR P (Th.only (θ.blk o) X hX) w 0 (.sm l)) :
  HR P w [] (Th.only (θ.blk o) X hX) (setO h0 0 (.sm l)) 1 w where
 lim:=by omega
 own x hx:=by
  obtain rfl:x=0:=hx
  exact ⟨by omega,.inr rfl,(hR.own o ho).2.2.1,.sm l,obj_set _ _ _,hor,fun x hx=>by cases hx⟩
 apart x y _ _ hne hx hy:=absurd (Eq.trans hx (Eq.symm hy)) hne
 size:=Nat.le_refl _
 kept b _ _:=rfl
 plain:=⟨rfl,rfl,rfl⟩
 pend o a h:=by cases h
 nodup:=List.nodup_nil
 fresh p b hp hb:=by
  by_cases e:p=0
  ·omega
  ·rw [obj_set_ne h0 _ (by omega) hp e] at hb
   have:obj h0 p=none:=getL_repL _ 7 p
   rw [this] at hb;cases hb
 glo g hg:=by
  obtain ⟨h1,h2⟩:=hR.glo g hg
  refine ⟨fun e=>?_,hR.gloW g hg⟩
  have e:g=θ.blk o:=e
  have hlt:=cell_lt h2
  rcases (hR.own o ho).2.1 with k | k
  ·omega
  ·exact h1 (e ▸ k)
end
noncomputable def wRun (tb:Tb) (f n:Nat) (Sx Sy:List AV):R:=allN 16 fun r=>enterK tb f [.p 0 0,.xi 0 6 r 16] false [] (setO h0 0 (.sm Sx)) 1 fun s=>runF tb n s fun v h _=>
 nthK AV (fun t=>br (beqV v t) (get 0 h fun a=>match a with | .sm l=>beqVs l Sy | _=>false) false) Sy (Nat.add 3 r)
section
variable {P:Program} {w0 w w':World} {pd:List (Nat × AO)} {θ:Th} {h:H} {nx:Nat}
theorem word_step {tb:Tb} (ht:TbOk tb P) (hm:P.follows .mixedOrders=true) {f n:Nat} {Sx Sy l ly:List AV} (runs:wRun tb f n Sx Sy=true) (hR:HR P w0 pd θ h nx w) {o m:Nat} {a:AO} (ho:θ.has o) (ha:obj h o=some a) (hwr:a.wr=true) (hsh:a.sh=[]) (hor:OR P θ w o (.sm l))
  {X:Nat→Value} {hX:∀ n,(X n).oneCell' = true} (hx:X 0 = .int .u32 (m:Int)) (hlt:m < 4294967296)
  (x1:toVs (Th.only (θ.blk o) X hX) Sx=toVs θ l) (x2:Oks (Th.only (θ.blk o) X hX) Sx) (x3:Sx.all one=true)
  (y1:toVs (Th.only (θ.blk o) X hX) Sy=toVs θ ly) (y2:Oks (Th.only (θ.blk o) X hX) Sy) (y3:Oks θ ly) (y4:ly.all one=true) :
  Calls P f #[.pointer (some ⟨θ.blk o,0,none⟩),.int .u32 (m:Int)] w fun r w'=>∃ u,r = .returned u∧(toVs θ ly)[3 + m % 16]? = some u∧HR P w0 pd θ (setO h o (.sm ly)) nx w':=by
 obtain ⟨ty,g1,g2,g3,g4⟩:=hor
 have hR1:=hr_only hR ho (X:=X) (hX:=hX) (l:=Sx) ⟨ty,by rw [x1];exact g1,rfl,x2,x3⟩
 have hr16:=Nat.mod_lt m (show 16 > 0 by decide)
 have hok:Oks (Th.only (θ.blk o) X hX) [.p 0 0,.xi 0 6 (m % 16) 16]:=⟨rfl,xi_ok (by decide) m (by show xnat (X 0)=_;rw [hx];rfl) rfl hlt,trivial⟩
 have hv:toVs (Th.only (θ.blk o) X hX) [.p 0 0,.xi 0 6 (m % 16) 16]=[.pointer (some ⟨θ.blk o,0,none⟩),.int .u32 (m:Int)]:=by
  show [Value.pointer (some ⟨θ.blk o,0 + 0,none⟩),xiV (X 0) 6]=_
  rw [hx];rfl
 have hc:=go_with ht hm hR1 hok (allN_true runs (m % 16) hr16)
 rw [hv] at hc
 refine hc.mono fun r w' ⟨v,h',nx',θ',u,h1,h2,h3,h4,h5⟩=>?_
 rw [nthK_eq] at h4
 cases ht:Sy[Nat.add 3 (m % 16)]? with
 | none=>rw [ht] at h4;cases h4
 | some t=>
  rw [ht] at h4
  obtain ⟨b1,h6⟩:=br_t (show br (beqV v t) (get 0 h' fun a=>match a with | .sm l=>beqVs l Sy | _=>false) false=true from h4)
  clear h4
  have b1:=beqV_eq _ _ b1
  subst b1
  obtain ⟨a,hob,h7⟩:=get_true h6
  have hhas:θ'.has 0:=h5.has 0 rfl
  obtain ⟨_,_,k3,a2,hob2,hor2,_⟩:=h3.own 0 hhas
  rw [hob] at hob2;injection hob2 with hob2;subst hob2
  cases a with
  | sm l2=>
   have h8:=beqVs_eq _ _ (show beqVs l2 Sy=true from h7)
   subst h8
   obtain ⟨ty2,q1,q2,q3,q4⟩:=hor2
   have hblk:θ'.blk 0=θ.blk o:=h5.blk 0 rfl
   have hm2:=monos h5 l2 y2
   refine ⟨u,h1,?_,?_⟩
   ·rw [← y1,← hm2.1,toVs_get]
    show Option.map (toV θ') l2[Nat.add 3 (m % 16)]? = some u
    rw [ht,h2.2]
    rfl
   ·have hi:∀ b,b≠θ.blk o→¬ θ'.ini b:=fun b hb=>by rw [h5.ini];exact hb
    have:=hR.frame (w':=w') (a':=.sm ly) ho ha hwr h3.size (fun b hb hne=>h3.kept b hb (hi b hne)) h3.plain ⟨ty2,by rw [← y1,← hm2.1,← hblk];exact q1,g2,y3,y4⟩ rfl
    rw [hsh] at this
    exact this
  | _=>cases h7
end
noncomputable def wLan (N:Nat) (κ:AV→R) (r:List AV):R:=match r with
 | .i k n :: r=>br (Nat.blt k 8) (natsK k (.i k n :: r) fun l=>muxK N l fun M=>κ (.l k M)) false
 | _=>false
noncomputable def wDrop (N:Nat) (κ:AV→R) (l:List AV):R:=match l with
 | _ :: _ :: _ :: r=>wLan N κ r
 | _=>false
noncomputable def wIdx (l:List AV) (κ:AV→R) (x:AV):R:=match x with
 | .i k n=>br (Nat.beq k 6) (match n with | .ofNat m=>br (Nat.blt m 4294967296) (nthK AV κ l (Nat.add 3 (Nat.mod m 16))) false | .negSucc _=>false) false
 | .l k N=>br (Nat.beq k 6) (wDrop N κ l) false
 | _=>false
noncomputable def wordS (S0 S1:List AV):SpF:=fun vs h nx κ=>match vs with
 | [p,x]=>(match p with
  | .p o f=>br (Nat.beq f 0) (get o h fun a=>match a with
   | .sm l=>(match l with
    | c :: _=>br (beqV c (.i 6 (.ofNat 1))) (br (Nat.beq (lenN AV l) 19) (wIdx l (fun v=>κ v h nx) x) false)
      (br (beqVs l S0) (put o (.sm S1) h fun h=>wIdx S1 (fun v=>κ v h nx) x) false)
    | _=>false)
   | .ce n es z zl d t top sh=>br (Nat.beq n 19) (br (Nat.beq es 0) (br (Nat.beq zl 0) false (br top (match sh with
    | []=>cellsT z zl d t 19 0 fun l=>br (beqVs l S0) (put o (.sm S1) h fun h=>wIdx S1 (fun v=>κ v h nx) x) false
    | _=>false) false)) false) false
   | _=>false) false
  | _=>false)
 | _=>false
def S1x:List AV:=[.i 6 (.ofNat 1),.x 17,.x 18,.x 1,.x 2,.x 3,.x 4,.x 5,.x 6,.x 7,.x 8,.x 9,.x 10,.x 11,.x 12,.x 13,.x 14,.x 15,.x 16]
def isI:AV→Bool
 | .i _ _=>true
 | _=>false
theorem isI_eq {θ θ':Th}:∀ {l:List AV},l.all isI=true→toVs θ l=toVs θ' l∧Oks θ l∧l.all one=true
 | [],_=>⟨rfl,trivial,rfl⟩
 | v :: l,h=>by
  simp only [List.all_cons,Bool.and_eq_true] at h
  obtain ⟨h1,h2,h3⟩:=isI_eq (θ:=θ) (θ':=θ') h.2
  cases v<;>first | (cases h.1;done) | skip
  exact ⟨by simp only [toVs,h1];rfl,⟨trivial,h2⟩,by simp [h3,one]⟩
theorem wIdx_ok {θ:Th} {l:List AV} {κ:AV→R} {x:AV} (hl:Oks θ l) (hx:Ok θ x) (e:wIdx l κ x=true) :
  ∃ m:Nat,toV θ x = .int .u32 (m:Int)∧m < 4294967296∧∀ u,(toVs θ l)[3 + m % 16]? = some u→∃ v,VR θ v u∧κ v=true:=by
 cases x<;>first | (cases e;done) | skip
 ·rename_i k n
  obtain ⟨b1,e⟩:=br_t (show br (Nat.beq k 6) (match (generalizing:=false) n with | .ofNat m=>br (Nat.blt m 4294967296) (nthK AV κ l (Nat.add 3 (Nat.mod m 16))) false | .negSucc _=>false) false=true from e)
  have b1:=Nat.eq_of_beq_eq_true b1
  subst b1
  cases n with
  | negSucc n=>cases e
  | ofNat m=>
   obtain ⟨b2,e⟩:=br_t (show br (Nat.blt m 4294967296) (nthK AV κ l (Nat.add 3 (Nat.mod m 16))) false=true from e)
   refine ⟨m,rfl,by simpa [Nat.blt_eq] using b2,fun u hu=>?_⟩
   rw [nthK_eq] at e
   rw [toVs_get] at hu
   cases hc:l[3 + m % 16]? with
   | none=>rw [hc] at hu;cases hu
   | some v=>
    rw [show l[Nat.add 3 (Nat.mod m 16)]? = l[3 + m % 16]? from rfl,hc] at e
    rw [hc] at hu
    injection hu with hu
    exact ⟨v,⟨Oks_iff.1 hl v (List.mem_of_getElem? hc),hu.symm⟩,e⟩
 ·rename_i k N
  obtain ⟨b1,e5⟩:=br_t (show br (Nat.beq k 6) (wDrop N κ l) false=true from e)
  clear e
  have b1:=Nat.eq_of_beq_eq_true b1
  subst b1
  have hlim:Lim 4294967296 N:=by
   rcases (show lOk 6 N from hx) with ⟨_,h⟩ | ⟨h,_⟩
   ·exact h
   ·cases h
  refine ⟨ln θ.lane N,rfl,hlim _ θ.lane_lt,fun u hu=>?_⟩
  unfold wDrop at e5
  split at e5
  ·rename_i c0 c1 c2 r
   unfold wLan at e5
   split at e5
   ·rename_i k' n' r'
    obtain ⟨b2,e6⟩:=br_t e5
    have b2:k' < 8:=by simpa [Nat.blt_eq] using b2
    obtain ⟨L,_,e7,n3,n4⟩:=natsK_true e6
    obtain ⟨M,_,e8,m3⟩:=muxK_true e7
    have hr:=hl.2.2.2
    have hall:∀ j,j < 4096→∀ i x:Nat,L[i]? = some x→ln j x < 2 ^ 64:=by
     intro j hj i x hx
     have hi:i < (AV.i k' n' :: r').length:=by rw [← n3];exact (List.getElem?_eq_some_iff.1 hx).1
     exact (n4 θ hr i _ x (List.getElem?_eq_getElem hi) hx).1.all64 j hj
    have hlimM:Lim (khi k') M:=by
     intro j hj
     obtain ⟨y,y1,y2⟩:=m3 j hj (hall j hj)
     have hi:ln j N % 16 < (AV.i k' n' :: r').length:=by rw [← n3];exact (List.getElem?_eq_some_iff.1 y1).1
     rw [y2]
     exact (n4 θ hr _ _ y (List.getElem?_eq_getElem hi) y1).1 j hj
    obtain ⟨y,y1,y2⟩:=m3 θ.lane θ.lane_lt (hall _ θ.lane_lt)
    have hi:ln θ.lane N % 16 < (AV.i k' n' :: r').length:=by rw [← n3];exact (List.getElem?_eq_some_iff.1 y1).1
    have hy:=(n4 θ hr _ _ y (List.getElem?_eq_getElem hi) y1).2
    refine ⟨.l k' M,?_,e8⟩
    have hu2:(toVs θ (c0 :: c1 :: c2 :: AV.i k' n' :: r'))[3 + ln θ.lane N % 16]? = some (toV θ (AV.i k' n' :: r')[ln θ.lane N % 16]):=by
     rw [toVs_get,Nat.add_comm,List.getElem?_cons_succ,List.getElem?_cons_succ,List.getElem?_cons_succ,List.getElem?_eq_getElem hi]
     rfl
    rw [hu2] at hu
    injection hu with hu
    rw [← hu,hy,← y2]
    exact vr_l θ b2 hlimM
   ·cases e5
  ·cases e5
theorem word_ok {P:Program} {tb:Tb} (ht:TbOk tb P) (hm:P.follows .mixedOrders=true) {f n:Nat} {S0 S1:List AV} (i0:S0.all isI=true) (i1:S1.all isI=true) (r0:wRun tb f n S0 S1=true) (r1:wRun tb f n S1x S1x=true):SpOk P f (wordS S0 S1):=by
 intro w0 pd θ h nx w vs κ hR hv e
 match vs,hv,e with
 | [],_,e=>cases e
 | [_],_,e=>cases e
 | _ :: _ :: _ :: _,_,e=>cases e
 | [p,x],hv,e=>
  cases p<;>first | (cases e;done) | skip
  rename_i o f0
  obtain ⟨b1,e⟩:=br_t (show br (Nat.beq f0 0) _ false=true from e)
  have b1:=Nat.eq_of_beq_eq_true b1
  subst b1
  obtain ⟨a,ha,e⟩:=get_true e
  have ho:θ.has o:=hv.1
  obtain ⟨_,_,_,a',ha',hor,_⟩:=hR.own o ho
  rw [ha] at ha';injection ha' with ha';subst ha'
  have hargs:OR P θ w o a→θ.bas o=0→∀ m:Nat,toV θ x = .int .u32 (m:Int)→(toVs θ [.p o 0,x]).toArray = #[.pointer (some ⟨θ.blk o,0,none⟩),.int .u32 (m:Int)]:=fun _ g2 m hxm=>by
   show #[Value.pointer (some ⟨θ.blk o,θ.bas o + 0,none⟩),toV θ x]=_
   rw [g2,hxm]
  have made:a.wr=true→a.sh=[]→OR P θ w o (.sm S0)→(put o (.sm S1) h fun h=>wIdx S1 (fun v=>κ v h nx) x)=true→
    Calls P f (toVs θ [.p o 0,x]).toArray w fun r w'=>∃ v u θ' h' nx',r = .returned u∧θ.le θ'∧VR θ' v u∧HR P w0 pd θ' h' nx' w'∧κ v h' nx' = true:=by
   intro hwr hsh hor0 e
   rw [put_eq] at e
   have j1:=isI_eq (θ:=θ) (θ':=θ) i1
   obtain ⟨m,m1,m2,m3⟩:=wIdx_ok j1.2.1 hv.2.1 e
   rw [hargs hor hor0.choose_spec.2.1 m m1]
   have hX:∀ n,((fun _=>.int .u32 (m:Int):Nat→Value) n).oneCell' = true:=fun _=>rfl
   have j0:=isI_eq (θ:=Th.only (θ.blk o) (fun _=>.int .u32 (m:Int)) hX) (θ':=θ) i0
   have j2:=isI_eq (θ:=Th.only (θ.blk o) (fun _=>.int .u32 (m:Int)) hX) (θ':=θ) i1
   refine (word_step ht hm r0 hR ho ha hwr hsh hor0 (hX:=hX) rfl m2 j0.1 j0.2.1 j0.2.2 j2.1 j2.2.1 j1.2.1 j1.2.2).mono fun rr w' ⟨u,u1,u2,u3⟩=>?_
   obtain ⟨v,v1,v2⟩:=m3 u u2
   exact ⟨v,u,θ,_,nx,u1,.refl θ,v1,u3,v2⟩
  by_cases hce:∃ n es z zl d t top sh,a = .ce n es z zl d t top sh
  ·obtain ⟨n,es,z,zl,d,t,top,sh,rfl⟩:=hce
   obtain ⟨c1,e1⟩:=br_t (show br (Nat.beq n 19) (br (Nat.beq es 0) (br (Nat.beq zl 0) false (br top (match (generalizing:=false) sh with
    | []=>cellsT z zl d t 19 0 fun l=>br (beqVs l S0) (put o (.sm S1) h fun h=>wIdx S1 (fun v=>κ v h nx) x) false
    | _=>false) false)) false) false=true from e)
   obtain ⟨c2,e2⟩:=br_t e1
   obtain ⟨c3,e3⟩:=br_f e2
   obtain ⟨c4,e4⟩:=br_t e3
   have c1:=Nat.eq_of_beq_eq_true c1
   have c2:=Nat.eq_of_beq_eq_true c2
   subst c1 c2 c4
   cases sh with
   | cons=>cases e4
   | nil=>
    have e':(cellsT z zl d t 19 0 fun l=>br (beqVs l S0) (put o (.sm S1) h fun h=>wIdx S1 (fun v=>κ v h nx) x) false)=true:=e4
    obtain ⟨us,q1,q2,q3⟩:=cellsT_true e'
    rw [q3] at e'
    obtain ⟨c5,e5⟩:=br_t e'
    have c5:=beqVs_eq _ _ c5
    subst c5
    obtain ⟨c,ty,fz,o1,o2,o3,o4,o5,_⟩:=hor
    obtain ⟨p1,p2,p3⟩:=o5 rfl
    have hz:zl≠0:=fun hz=>by subst hz;cases c3
    have hfz:=p3 hz
    subst hfz
    have hc:c=(toVs θ us).toArray:=by
     apply Array.ext'
     apply List.ext_getElem?
     intro i
     show c.toList[i]? = (toVs θ us)[i]?
     by_cases hi:i < 19
     ·obtain ⟨v,v1,v2,v3,v4⟩:=o3 i hi
      have hi2:i < us.length:=by rw [q1];exact hi
      have h6:=q2 i _ (List.getElem?_eq_getElem hi2)
      rw [Nat.zero_add,v1] at h6
      injection h6 with h6
      rw [p1,Nat.zero_add] at v4
      rw [Array.getElem?_toList,v4,toVs_get,List.getElem?_eq_getElem hi2,← h6]
      rfl
     ·rw [List.getElem?_eq_none (by rw [Array.length_toList,p2];omega),List.getElem?_eq_none (by rw [toVs_length,q1];omega)]
    have j:=isI_eq (θ:=θ) (θ':=θ) i0
    exact made rfl rfl ⟨ty,by rw [← hc];exact o1,p1,j.2.1,j.2.2⟩ e5
  obtain ⟨l,rfl⟩:∃ l,a = .sm l:=by
   cases a<;>first | exact ⟨_,rfl⟩ | (cases e;done) | exact absurd ⟨_,_,_,_,_,_,_,_,rfl⟩ hce
  have horl:=hor
  obtain ⟨ty,g1,g2,g3,g4⟩:=hor
  cases l with
  | nil=>cases e
  | cons c r=>
   have e:br (beqV c (.i 6 (.ofNat 1))) (br (Nat.beq (lenN AV (c :: r)) 19) (wIdx (c :: r) (fun v=>κ v h nx) x) false) (br (beqVs (c :: r) S0) (put o (.sm S1) h fun h=>wIdx S1 (fun v=>κ v h nx) x) false)=true:=e
   rcases br_true e with ⟨c1,e⟩ | ⟨_,e⟩
   ·have c1:=beqV_eq _ _ c1
    subst c1
    obtain ⟨c2,e⟩:=br_t e
    have c2:=Nat.eq_of_beq_eq_true c2
    rw [lenN_eq] at c2
    obtain ⟨m,m1,m2,m3⟩:=wIdx_ok g3 hv.2.1 e
    rw [hargs horl g2 m m1]
    have hget:∀ j,j < 19→∃ v,(AV.i 6 (Int.ofNat 1) :: r)[j]? = some v:=fun j hj=>⟨_,List.getElem?_eq_getElem (by rw [c2];exact hj)⟩
    have key:∀ X:Nat→Value,(∀ hX:∀ n,(X n).oneCell' = true,toVs (Th.only (θ.blk o) X hX) S1x=toVs θ (AV.i 6 (Int.ofNat 1) :: r))→X 0 = .int .u32 (m:Int)→(∀ n,(X n).oneCell' = true)→
      Calls P f #[.pointer (some ⟨θ.blk o,0,none⟩),.int .u32 (m:Int)] w fun r w'=>∃ v u θ' h' nx',r = .returned u∧θ.le θ'∧VR θ' v u∧HR P w0 pd θ' h' nx' w'∧κ v h' nx' = true:=by
     intro X hS hX0 hX
     have ok1:Oks (Th.only (θ.blk o) X hX) S1x:=by
      refine Oks_iff.2 fun v hv=>?_
      simp only [S1x,List.mem_cons,List.not_mem_nil,or_false] at hv
      rcases hv with rfl | rfl | rfl | rfl | rfl | rfl | rfl | rfl | rfl | rfl | rfl | rfl | rfl | rfl | rfl | rfl | rfl | rfl | rfl<;>first | trivial | exact fun h=>absurd h (by decide)
     refine (word_step ht hm r1 hR ho ha rfl rfl horl (hX:=hX) hX0 m2 (hS hX) ok1 rfl (hS hX) ok1 g3 g4).mono fun rr w' ⟨u,u1,u2,u3⟩=>?_
     obtain ⟨v,v1,v2⟩:=m3 u u2
     have hs:setO h o (.sm (AV.i 6 (Int.ofNat 1) :: r))=h:=setL_same _ 7 o h ha (hR.lt32 ho)
     rw [hs] at u3
     exact ⟨v,u,θ,h,nx,u1,.refl θ,v1,u3,v2⟩
    refine key (fun n=>if n=0 then .int .u32 (m:Int) else if n=17 then toV θ ((AV.i 6 (Int.ofNat 1) :: r).getD 1 (.b false)) else if n=18 then toV θ ((AV.i 6 (Int.ofNat 1) :: r).getD 2 (.b false)) else
     toV θ (if one ((AV.i 6 (Int.ofNat 1) :: r).getD (n + 2) (.b false))=true then (AV.i 6 (Int.ofNat 1) :: r).getD (n + 2) (.b false) else .b false)) (fun hX=>?_) rfl (fun n=>?_)
    ·match r,c2,g4 with
     | [a1,a2,a3,a4,a5,a6,a7,a8,a9,a10,a11,a12,a13,a14,a15,a16,a17,a18],_,g4=>
      simp only [List.all_cons,List.all_nil,Bool.and_true,Bool.and_eq_true] at g4
      obtain ⟨_,k1,k2,k3,k4,k5,k6,k7,k8,k9,k10,k11,k12,k13,k14,k15,k16,k17,k18⟩:=g4
      have hi1:toV (Th.only (θ.blk o) (fun n=>if n=0 then .int .u32 (m:Int) else if n=17 then toV θ ((AV.i 6 (Int.ofNat 1) :: [a1,a2,a3,a4,a5,a6,a7,a8,a9,a10,a11,a12,a13,a14,a15,a16,a17,a18]).getD 1 (.b false)) else if n=18 then toV θ ((AV.i 6 (Int.ofNat 1) :: [a1,a2,a3,a4,a5,a6,a7,a8,a9,a10,a11,a12,a13,a14,a15,a16,a17,a18]).getD 2 (.b false)) else
       toV θ (if one ((AV.i 6 (Int.ofNat 1) :: [a1,a2,a3,a4,a5,a6,a7,a8,a9,a10,a11,a12,a13,a14,a15,a16,a17,a18]).getD (n + 2) (.b false))=true then (AV.i 6 (Int.ofNat 1) :: [a1,a2,a3,a4,a5,a6,a7,a8,a9,a10,a11,a12,a13,a14,a15,a16,a17,a18]).getD (n + 2) (.b false) else .b false)) hX) (.i 6 (.ofNat 1))=toV θ (.i 6 (.ofNat 1)):=rfl
      simp only [S1x,toVs,toV,Th.xv,Th.only]
      simp [k3,k4,k5,k6,k7,k8,k9,k10,k11,k12,k13,k14,k15,k16,k17,k18]
    ·show (if n=0 then _ else if n=17 then _ else if n=18 then _ else _:Value).oneCell' = true
     have h1:one ((AV.i 6 (Int.ofNat 1) :: r).getD 1 (.b false))=true:=by
      obtain ⟨v,hv⟩:=hget 1 (by decide)
      rw [List.getD_eq_getElem?_getD,hv];exact List.all_eq_true.1 g4 v (List.mem_of_getElem? hv)
     have h2:one ((AV.i 6 (Int.ofNat 1) :: r).getD 2 (.b false))=true:=by
      obtain ⟨v,hv⟩:=hget 2 (by decide)
      rw [List.getD_eq_getElem?_getD,hv];exact List.all_eq_true.1 g4 v (List.mem_of_getElem? hv)
     split
     ·rfl
     split
     ·exact toV_one h1
     split
     ·exact toV_one h2
     split
     ·rename_i hh;exact toV_one hh
     ·rfl
   ·obtain ⟨c1,e⟩:=br_t e
    have c1:=beqVs_eq _ _ c1
    exact made rfl rfl (by rw [← c1];exact horl) e
end Go.AM

namespace Go.AM
open Go
noncomputable def tzS:SpF:=fun vs h nx κ=>match vs with
 | [.i k n]=>bif Nat.beq k 7 then (match n with | .ofNat m=>bif Nat.beq m 16 then κ (.i 3 (.ofNat 4)) h nx else false | .negSucc _=>false) else false
 | _=>false
end Go.AM

namespace Go.AM
open Go
noncomputable section
abbrev Lv0:=L AV 0
abbrev Lv1:=L AV 1
abbrev Lv2:=L AV 2
def G0:XF:=fun en κ=>g80 Lv2 (g80 Lv1 (g80 Lv0 κ)) en
def S0:DsF:=fun v=>s80 Lv2 (s80 Lv1 (s80 Lv0 (sB AV v)))
def G1:XF:=fun en κ=>g80 Lv2 (g80 Lv1 (g81 Lv0 κ)) en
def S1:DsF:=fun v=>s80 Lv2 (s80 Lv1 (s81 Lv0 (sB AV v)))
def G2:XF:=fun en κ=>g80 Lv2 (g80 Lv1 (g82 Lv0 κ)) en
def S2:DsF:=fun v=>s80 Lv2 (s80 Lv1 (s82 Lv0 (sB AV v)))
def G3:XF:=fun en κ=>g80 Lv2 (g80 Lv1 (g83 Lv0 κ)) en
def S3:DsF:=fun v=>s80 Lv2 (s80 Lv1 (s83 Lv0 (sB AV v)))
def G4:XF:=fun en κ=>g80 Lv2 (g80 Lv1 (g84 Lv0 κ)) en
def S4:DsF:=fun v=>s80 Lv2 (s80 Lv1 (s84 Lv0 (sB AV v)))
def G5:XF:=fun en κ=>g80 Lv2 (g80 Lv1 (g85 Lv0 κ)) en
def S5:DsF:=fun v=>s80 Lv2 (s80 Lv1 (s85 Lv0 (sB AV v)))
def G6:XF:=fun en κ=>g80 Lv2 (g80 Lv1 (g86 Lv0 κ)) en
def S6:DsF:=fun v=>s80 Lv2 (s80 Lv1 (s86 Lv0 (sB AV v)))
def G7:XF:=fun en κ=>g80 Lv2 (g80 Lv1 (g87 Lv0 κ)) en
def S7:DsF:=fun v=>s80 Lv2 (s80 Lv1 (s87 Lv0 (sB AV v)))
def G8:XF:=fun en κ=>g80 Lv2 (g81 Lv1 (g80 Lv0 κ)) en
def S8:DsF:=fun v=>s80 Lv2 (s81 Lv1 (s80 Lv0 (sB AV v)))
def G9:XF:=fun en κ=>g80 Lv2 (g81 Lv1 (g81 Lv0 κ)) en
def S9:DsF:=fun v=>s80 Lv2 (s81 Lv1 (s81 Lv0 (sB AV v)))
def G10:XF:=fun en κ=>g80 Lv2 (g81 Lv1 (g82 Lv0 κ)) en
def S10:DsF:=fun v=>s80 Lv2 (s81 Lv1 (s82 Lv0 (sB AV v)))
def G11:XF:=fun en κ=>g80 Lv2 (g81 Lv1 (g83 Lv0 κ)) en
def S11:DsF:=fun v=>s80 Lv2 (s81 Lv1 (s83 Lv0 (sB AV v)))
def G12:XF:=fun en κ=>g80 Lv2 (g81 Lv1 (g84 Lv0 κ)) en
def S12:DsF:=fun v=>s80 Lv2 (s81 Lv1 (s84 Lv0 (sB AV v)))
def G13:XF:=fun en κ=>g80 Lv2 (g81 Lv1 (g85 Lv0 κ)) en
def S13:DsF:=fun v=>s80 Lv2 (s81 Lv1 (s85 Lv0 (sB AV v)))
def G14:XF:=fun en κ=>g80 Lv2 (g81 Lv1 (g86 Lv0 κ)) en
def S14:DsF:=fun v=>s80 Lv2 (s81 Lv1 (s86 Lv0 (sB AV v)))
def G15:XF:=fun en κ=>g80 Lv2 (g81 Lv1 (g87 Lv0 κ)) en
def S15:DsF:=fun v=>s80 Lv2 (s81 Lv1 (s87 Lv0 (sB AV v)))
def G16:XF:=fun en κ=>g80 Lv2 (g82 Lv1 (g80 Lv0 κ)) en
def S16:DsF:=fun v=>s80 Lv2 (s82 Lv1 (s80 Lv0 (sB AV v)))
def G17:XF:=fun en κ=>g80 Lv2 (g82 Lv1 (g81 Lv0 κ)) en
def S17:DsF:=fun v=>s80 Lv2 (s82 Lv1 (s81 Lv0 (sB AV v)))
def G18:XF:=fun en κ=>g80 Lv2 (g82 Lv1 (g82 Lv0 κ)) en
def S18:DsF:=fun v=>s80 Lv2 (s82 Lv1 (s82 Lv0 (sB AV v)))
def G19:XF:=fun en κ=>g80 Lv2 (g82 Lv1 (g83 Lv0 κ)) en
def S19:DsF:=fun v=>s80 Lv2 (s82 Lv1 (s83 Lv0 (sB AV v)))
def G20:XF:=fun en κ=>g80 Lv2 (g82 Lv1 (g84 Lv0 κ)) en
def S20:DsF:=fun v=>s80 Lv2 (s82 Lv1 (s84 Lv0 (sB AV v)))
def G21:XF:=fun en κ=>g80 Lv2 (g82 Lv1 (g85 Lv0 κ)) en
def S21:DsF:=fun v=>s80 Lv2 (s82 Lv1 (s85 Lv0 (sB AV v)))
def G22:XF:=fun en κ=>g80 Lv2 (g82 Lv1 (g86 Lv0 κ)) en
def S22:DsF:=fun v=>s80 Lv2 (s82 Lv1 (s86 Lv0 (sB AV v)))
def G23:XF:=fun en κ=>g80 Lv2 (g82 Lv1 (g87 Lv0 κ)) en
def S23:DsF:=fun v=>s80 Lv2 (s82 Lv1 (s87 Lv0 (sB AV v)))
def G24:XF:=fun en κ=>g80 Lv2 (g83 Lv1 (g80 Lv0 κ)) en
def S24:DsF:=fun v=>s80 Lv2 (s83 Lv1 (s80 Lv0 (sB AV v)))
def G25:XF:=fun en κ=>g80 Lv2 (g83 Lv1 (g81 Lv0 κ)) en
def S25:DsF:=fun v=>s80 Lv2 (s83 Lv1 (s81 Lv0 (sB AV v)))
def G26:XF:=fun en κ=>g80 Lv2 (g83 Lv1 (g82 Lv0 κ)) en
def S26:DsF:=fun v=>s80 Lv2 (s83 Lv1 (s82 Lv0 (sB AV v)))
def G27:XF:=fun en κ=>g80 Lv2 (g83 Lv1 (g83 Lv0 κ)) en
def S27:DsF:=fun v=>s80 Lv2 (s83 Lv1 (s83 Lv0 (sB AV v)))
def G28:XF:=fun en κ=>g80 Lv2 (g83 Lv1 (g84 Lv0 κ)) en
def S28:DsF:=fun v=>s80 Lv2 (s83 Lv1 (s84 Lv0 (sB AV v)))
def G29:XF:=fun en κ=>g80 Lv2 (g83 Lv1 (g85 Lv0 κ)) en
def S29:DsF:=fun v=>s80 Lv2 (s83 Lv1 (s85 Lv0 (sB AV v)))
def G30:XF:=fun en κ=>g80 Lv2 (g83 Lv1 (g86 Lv0 κ)) en
def S30:DsF:=fun v=>s80 Lv2 (s83 Lv1 (s86 Lv0 (sB AV v)))
def G31:XF:=fun en κ=>g80 Lv2 (g83 Lv1 (g87 Lv0 κ)) en
def S31:DsF:=fun v=>s80 Lv2 (s83 Lv1 (s87 Lv0 (sB AV v)))
def G32:XF:=fun en κ=>g80 Lv2 (g84 Lv1 (g80 Lv0 κ)) en
def S32:DsF:=fun v=>s80 Lv2 (s84 Lv1 (s80 Lv0 (sB AV v)))
def G33:XF:=fun en κ=>g80 Lv2 (g84 Lv1 (g81 Lv0 κ)) en
def S33:DsF:=fun v=>s80 Lv2 (s84 Lv1 (s81 Lv0 (sB AV v)))
def G34:XF:=fun en κ=>g80 Lv2 (g84 Lv1 (g82 Lv0 κ)) en
def S34:DsF:=fun v=>s80 Lv2 (s84 Lv1 (s82 Lv0 (sB AV v)))
def G35:XF:=fun en κ=>g80 Lv2 (g84 Lv1 (g83 Lv0 κ)) en
def S35:DsF:=fun v=>s80 Lv2 (s84 Lv1 (s83 Lv0 (sB AV v)))
def G36:XF:=fun en κ=>g80 Lv2 (g84 Lv1 (g84 Lv0 κ)) en
def S36:DsF:=fun v=>s80 Lv2 (s84 Lv1 (s84 Lv0 (sB AV v)))
def G37:XF:=fun en κ=>g80 Lv2 (g84 Lv1 (g85 Lv0 κ)) en
def S37:DsF:=fun v=>s80 Lv2 (s84 Lv1 (s85 Lv0 (sB AV v)))
def G38:XF:=fun en κ=>g80 Lv2 (g84 Lv1 (g86 Lv0 κ)) en
def S38:DsF:=fun v=>s80 Lv2 (s84 Lv1 (s86 Lv0 (sB AV v)))
def G39:XF:=fun en κ=>g80 Lv2 (g84 Lv1 (g87 Lv0 κ)) en
def S39:DsF:=fun v=>s80 Lv2 (s84 Lv1 (s87 Lv0 (sB AV v)))
def G40:XF:=fun en κ=>g80 Lv2 (g85 Lv1 (g80 Lv0 κ)) en
def S40:DsF:=fun v=>s80 Lv2 (s85 Lv1 (s80 Lv0 (sB AV v)))
def G41:XF:=fun en κ=>g80 Lv2 (g85 Lv1 (g81 Lv0 κ)) en
def S41:DsF:=fun v=>s80 Lv2 (s85 Lv1 (s81 Lv0 (sB AV v)))
def G42:XF:=fun en κ=>g80 Lv2 (g85 Lv1 (g82 Lv0 κ)) en
def S42:DsF:=fun v=>s80 Lv2 (s85 Lv1 (s82 Lv0 (sB AV v)))
def G43:XF:=fun en κ=>g80 Lv2 (g85 Lv1 (g83 Lv0 κ)) en
def S43:DsF:=fun v=>s80 Lv2 (s85 Lv1 (s83 Lv0 (sB AV v)))
def G44:XF:=fun en κ=>g80 Lv2 (g85 Lv1 (g84 Lv0 κ)) en
def S44:DsF:=fun v=>s80 Lv2 (s85 Lv1 (s84 Lv0 (sB AV v)))
def G45:XF:=fun en κ=>g80 Lv2 (g85 Lv1 (g85 Lv0 κ)) en
def S45:DsF:=fun v=>s80 Lv2 (s85 Lv1 (s85 Lv0 (sB AV v)))
def G46:XF:=fun en κ=>g80 Lv2 (g85 Lv1 (g86 Lv0 κ)) en
def S46:DsF:=fun v=>s80 Lv2 (s85 Lv1 (s86 Lv0 (sB AV v)))
def G47:XF:=fun en κ=>g80 Lv2 (g85 Lv1 (g87 Lv0 κ)) en
def S47:DsF:=fun v=>s80 Lv2 (s85 Lv1 (s87 Lv0 (sB AV v)))
def G48:XF:=fun en κ=>g80 Lv2 (g86 Lv1 (g80 Lv0 κ)) en
def S48:DsF:=fun v=>s80 Lv2 (s86 Lv1 (s80 Lv0 (sB AV v)))
def G49:XF:=fun en κ=>g80 Lv2 (g86 Lv1 (g81 Lv0 κ)) en
def S49:DsF:=fun v=>s80 Lv2 (s86 Lv1 (s81 Lv0 (sB AV v)))
def G50:XF:=fun en κ=>g80 Lv2 (g86 Lv1 (g82 Lv0 κ)) en
def S50:DsF:=fun v=>s80 Lv2 (s86 Lv1 (s82 Lv0 (sB AV v)))
def G51:XF:=fun en κ=>g80 Lv2 (g86 Lv1 (g83 Lv0 κ)) en
def S51:DsF:=fun v=>s80 Lv2 (s86 Lv1 (s83 Lv0 (sB AV v)))
def G52:XF:=fun en κ=>g80 Lv2 (g86 Lv1 (g84 Lv0 κ)) en
def S52:DsF:=fun v=>s80 Lv2 (s86 Lv1 (s84 Lv0 (sB AV v)))
def G53:XF:=fun en κ=>g80 Lv2 (g86 Lv1 (g85 Lv0 κ)) en
def S53:DsF:=fun v=>s80 Lv2 (s86 Lv1 (s85 Lv0 (sB AV v)))
def G54:XF:=fun en κ=>g80 Lv2 (g86 Lv1 (g86 Lv0 κ)) en
def S54:DsF:=fun v=>s80 Lv2 (s86 Lv1 (s86 Lv0 (sB AV v)))
def G55:XF:=fun en κ=>g80 Lv2 (g86 Lv1 (g87 Lv0 κ)) en
def S55:DsF:=fun v=>s80 Lv2 (s86 Lv1 (s87 Lv0 (sB AV v)))
def G56:XF:=fun en κ=>g80 Lv2 (g87 Lv1 (g80 Lv0 κ)) en
def S56:DsF:=fun v=>s80 Lv2 (s87 Lv1 (s80 Lv0 (sB AV v)))
def G57:XF:=fun en κ=>g80 Lv2 (g87 Lv1 (g81 Lv0 κ)) en
def S57:DsF:=fun v=>s80 Lv2 (s87 Lv1 (s81 Lv0 (sB AV v)))
def G58:XF:=fun en κ=>g80 Lv2 (g87 Lv1 (g82 Lv0 κ)) en
def S58:DsF:=fun v=>s80 Lv2 (s87 Lv1 (s82 Lv0 (sB AV v)))
def G59:XF:=fun en κ=>g80 Lv2 (g87 Lv1 (g83 Lv0 κ)) en
def S59:DsF:=fun v=>s80 Lv2 (s87 Lv1 (s83 Lv0 (sB AV v)))
def G60:XF:=fun en κ=>g80 Lv2 (g87 Lv1 (g84 Lv0 κ)) en
def S60:DsF:=fun v=>s80 Lv2 (s87 Lv1 (s84 Lv0 (sB AV v)))
def G61:XF:=fun en κ=>g80 Lv2 (g87 Lv1 (g85 Lv0 κ)) en
def S61:DsF:=fun v=>s80 Lv2 (s87 Lv1 (s85 Lv0 (sB AV v)))
def G62:XF:=fun en κ=>g80 Lv2 (g87 Lv1 (g86 Lv0 κ)) en
def S62:DsF:=fun v=>s80 Lv2 (s87 Lv1 (s86 Lv0 (sB AV v)))
def G63:XF:=fun en κ=>g80 Lv2 (g87 Lv1 (g87 Lv0 κ)) en
def S63:DsF:=fun v=>s80 Lv2 (s87 Lv1 (s87 Lv0 (sB AV v)))
def G64:XF:=fun en κ=>g81 Lv2 (g80 Lv1 (g80 Lv0 κ)) en
def S64:DsF:=fun v=>s81 Lv2 (s80 Lv1 (s80 Lv0 (sB AV v)))
def G65:XF:=fun en κ=>g81 Lv2 (g80 Lv1 (g81 Lv0 κ)) en
def S65:DsF:=fun v=>s81 Lv2 (s80 Lv1 (s81 Lv0 (sB AV v)))
def G66:XF:=fun en κ=>g81 Lv2 (g80 Lv1 (g82 Lv0 κ)) en
def S66:DsF:=fun v=>s81 Lv2 (s80 Lv1 (s82 Lv0 (sB AV v)))
def G67:XF:=fun en κ=>g81 Lv2 (g80 Lv1 (g83 Lv0 κ)) en
def S67:DsF:=fun v=>s81 Lv2 (s80 Lv1 (s83 Lv0 (sB AV v)))
def G68:XF:=fun en κ=>g81 Lv2 (g80 Lv1 (g84 Lv0 κ)) en
def S68:DsF:=fun v=>s81 Lv2 (s80 Lv1 (s84 Lv0 (sB AV v)))
def G69:XF:=fun en κ=>g81 Lv2 (g80 Lv1 (g85 Lv0 κ)) en
def S69:DsF:=fun v=>s81 Lv2 (s80 Lv1 (s85 Lv0 (sB AV v)))
def G70:XF:=fun en κ=>g81 Lv2 (g80 Lv1 (g86 Lv0 κ)) en
def S70:DsF:=fun v=>s81 Lv2 (s80 Lv1 (s86 Lv0 (sB AV v)))
def G71:XF:=fun en κ=>g81 Lv2 (g80 Lv1 (g87 Lv0 κ)) en
def S71:DsF:=fun v=>s81 Lv2 (s80 Lv1 (s87 Lv0 (sB AV v)))
def G72:XF:=fun en κ=>g81 Lv2 (g81 Lv1 (g80 Lv0 κ)) en
def S72:DsF:=fun v=>s81 Lv2 (s81 Lv1 (s80 Lv0 (sB AV v)))
def G73:XF:=fun en κ=>g81 Lv2 (g81 Lv1 (g81 Lv0 κ)) en
def S73:DsF:=fun v=>s81 Lv2 (s81 Lv1 (s81 Lv0 (sB AV v)))
def G74:XF:=fun en κ=>g81 Lv2 (g81 Lv1 (g82 Lv0 κ)) en
def S74:DsF:=fun v=>s81 Lv2 (s81 Lv1 (s82 Lv0 (sB AV v)))
def G75:XF:=fun en κ=>g81 Lv2 (g81 Lv1 (g83 Lv0 κ)) en
def S75:DsF:=fun v=>s81 Lv2 (s81 Lv1 (s83 Lv0 (sB AV v)))
def G76:XF:=fun en κ=>g81 Lv2 (g81 Lv1 (g84 Lv0 κ)) en
def S76:DsF:=fun v=>s81 Lv2 (s81 Lv1 (s84 Lv0 (sB AV v)))
def G77:XF:=fun en κ=>g81 Lv2 (g81 Lv1 (g85 Lv0 κ)) en
def S77:DsF:=fun v=>s81 Lv2 (s81 Lv1 (s85 Lv0 (sB AV v)))
def G78:XF:=fun en κ=>g81 Lv2 (g81 Lv1 (g86 Lv0 κ)) en
def S78:DsF:=fun v=>s81 Lv2 (s81 Lv1 (s86 Lv0 (sB AV v)))
def G79:XF:=fun en κ=>g81 Lv2 (g81 Lv1 (g87 Lv0 κ)) en
def S79:DsF:=fun v=>s81 Lv2 (s81 Lv1 (s87 Lv0 (sB AV v)))
def G80:XF:=fun en κ=>g81 Lv2 (g82 Lv1 (g80 Lv0 κ)) en
def S80:DsF:=fun v=>s81 Lv2 (s82 Lv1 (s80 Lv0 (sB AV v)))
def G81:XF:=fun en κ=>g81 Lv2 (g82 Lv1 (g81 Lv0 κ)) en
def S81:DsF:=fun v=>s81 Lv2 (s82 Lv1 (s81 Lv0 (sB AV v)))
def G82:XF:=fun en κ=>g81 Lv2 (g82 Lv1 (g82 Lv0 κ)) en
def S82:DsF:=fun v=>s81 Lv2 (s82 Lv1 (s82 Lv0 (sB AV v)))
def G83:XF:=fun en κ=>g81 Lv2 (g82 Lv1 (g83 Lv0 κ)) en
def S83:DsF:=fun v=>s81 Lv2 (s82 Lv1 (s83 Lv0 (sB AV v)))
def G84:XF:=fun en κ=>g81 Lv2 (g82 Lv1 (g84 Lv0 κ)) en
def S84:DsF:=fun v=>s81 Lv2 (s82 Lv1 (s84 Lv0 (sB AV v)))
def G85:XF:=fun en κ=>g81 Lv2 (g82 Lv1 (g85 Lv0 κ)) en
def S85:DsF:=fun v=>s81 Lv2 (s82 Lv1 (s85 Lv0 (sB AV v)))
def G86:XF:=fun en κ=>g81 Lv2 (g82 Lv1 (g86 Lv0 κ)) en
def S86:DsF:=fun v=>s81 Lv2 (s82 Lv1 (s86 Lv0 (sB AV v)))
def G87:XF:=fun en κ=>g81 Lv2 (g82 Lv1 (g87 Lv0 κ)) en
def S87:DsF:=fun v=>s81 Lv2 (s82 Lv1 (s87 Lv0 (sB AV v)))
def G88:XF:=fun en κ=>g81 Lv2 (g83 Lv1 (g80 Lv0 κ)) en
def S88:DsF:=fun v=>s81 Lv2 (s83 Lv1 (s80 Lv0 (sB AV v)))
def G89:XF:=fun en κ=>g81 Lv2 (g83 Lv1 (g81 Lv0 κ)) en
def S89:DsF:=fun v=>s81 Lv2 (s83 Lv1 (s81 Lv0 (sB AV v)))
def G90:XF:=fun en κ=>g81 Lv2 (g83 Lv1 (g82 Lv0 κ)) en
def S90:DsF:=fun v=>s81 Lv2 (s83 Lv1 (s82 Lv0 (sB AV v)))
def G91:XF:=fun en κ=>g81 Lv2 (g83 Lv1 (g83 Lv0 κ)) en
def S91:DsF:=fun v=>s81 Lv2 (s83 Lv1 (s83 Lv0 (sB AV v)))
def G92:XF:=fun en κ=>g81 Lv2 (g83 Lv1 (g84 Lv0 κ)) en
def S92:DsF:=fun v=>s81 Lv2 (s83 Lv1 (s84 Lv0 (sB AV v)))
def G93:XF:=fun en κ=>g81 Lv2 (g83 Lv1 (g85 Lv0 κ)) en
def S93:DsF:=fun v=>s81 Lv2 (s83 Lv1 (s85 Lv0 (sB AV v)))
def G94:XF:=fun en κ=>g81 Lv2 (g83 Lv1 (g86 Lv0 κ)) en
def S94:DsF:=fun v=>s81 Lv2 (s83 Lv1 (s86 Lv0 (sB AV v)))
def G95:XF:=fun en κ=>g81 Lv2 (g83 Lv1 (g87 Lv0 κ)) en
def S95:DsF:=fun v=>s81 Lv2 (s83 Lv1 (s87 Lv0 (sB AV v)))
def G96:XF:=fun en κ=>g81 Lv2 (g84 Lv1 (g80 Lv0 κ)) en
def S96:DsF:=fun v=>s81 Lv2 (s84 Lv1 (s80 Lv0 (sB AV v)))
def G97:XF:=fun en κ=>g81 Lv2 (g84 Lv1 (g81 Lv0 κ)) en
def S97:DsF:=fun v=>s81 Lv2 (s84 Lv1 (s81 Lv0 (sB AV v)))
def G98:XF:=fun en κ=>g81 Lv2 (g84 Lv1 (g82 Lv0 κ)) en
def S98:DsF:=fun v=>s81 Lv2 (s84 Lv1 (s82 Lv0 (sB AV v)))
def G99:XF:=fun en κ=>g81 Lv2 (g84 Lv1 (g83 Lv0 κ)) en
def S99:DsF:=fun v=>s81 Lv2 (s84 Lv1 (s83 Lv0 (sB AV v)))
def G100:XF:=fun en κ=>g81 Lv2 (g84 Lv1 (g84 Lv0 κ)) en
def S100:DsF:=fun v=>s81 Lv2 (s84 Lv1 (s84 Lv0 (sB AV v)))
def G101:XF:=fun en κ=>g81 Lv2 (g84 Lv1 (g85 Lv0 κ)) en
def S101:DsF:=fun v=>s81 Lv2 (s84 Lv1 (s85 Lv0 (sB AV v)))
def G102:XF:=fun en κ=>g81 Lv2 (g84 Lv1 (g86 Lv0 κ)) en
def S102:DsF:=fun v=>s81 Lv2 (s84 Lv1 (s86 Lv0 (sB AV v)))
def G103:XF:=fun en κ=>g81 Lv2 (g84 Lv1 (g87 Lv0 κ)) en
def S103:DsF:=fun v=>s81 Lv2 (s84 Lv1 (s87 Lv0 (sB AV v)))
def G104:XF:=fun en κ=>g81 Lv2 (g85 Lv1 (g80 Lv0 κ)) en
def S104:DsF:=fun v=>s81 Lv2 (s85 Lv1 (s80 Lv0 (sB AV v)))
def G105:XF:=fun en κ=>g81 Lv2 (g85 Lv1 (g81 Lv0 κ)) en
def S105:DsF:=fun v=>s81 Lv2 (s85 Lv1 (s81 Lv0 (sB AV v)))
def G106:XF:=fun en κ=>g81 Lv2 (g85 Lv1 (g82 Lv0 κ)) en
def S106:DsF:=fun v=>s81 Lv2 (s85 Lv1 (s82 Lv0 (sB AV v)))
def G107:XF:=fun en κ=>g81 Lv2 (g85 Lv1 (g83 Lv0 κ)) en
def S107:DsF:=fun v=>s81 Lv2 (s85 Lv1 (s83 Lv0 (sB AV v)))
def G108:XF:=fun en κ=>g81 Lv2 (g85 Lv1 (g84 Lv0 κ)) en
def S108:DsF:=fun v=>s81 Lv2 (s85 Lv1 (s84 Lv0 (sB AV v)))
def G109:XF:=fun en κ=>g81 Lv2 (g85 Lv1 (g85 Lv0 κ)) en
def S109:DsF:=fun v=>s81 Lv2 (s85 Lv1 (s85 Lv0 (sB AV v)))
def G110:XF:=fun en κ=>g81 Lv2 (g85 Lv1 (g86 Lv0 κ)) en
def S110:DsF:=fun v=>s81 Lv2 (s85 Lv1 (s86 Lv0 (sB AV v)))
def G111:XF:=fun en κ=>g81 Lv2 (g85 Lv1 (g87 Lv0 κ)) en
def S111:DsF:=fun v=>s81 Lv2 (s85 Lv1 (s87 Lv0 (sB AV v)))
def G112:XF:=fun en κ=>g81 Lv2 (g86 Lv1 (g80 Lv0 κ)) en
def S112:DsF:=fun v=>s81 Lv2 (s86 Lv1 (s80 Lv0 (sB AV v)))
def G113:XF:=fun en κ=>g81 Lv2 (g86 Lv1 (g81 Lv0 κ)) en
def S113:DsF:=fun v=>s81 Lv2 (s86 Lv1 (s81 Lv0 (sB AV v)))
def G114:XF:=fun en κ=>g81 Lv2 (g86 Lv1 (g82 Lv0 κ)) en
def S114:DsF:=fun v=>s81 Lv2 (s86 Lv1 (s82 Lv0 (sB AV v)))
def G115:XF:=fun en κ=>g81 Lv2 (g86 Lv1 (g83 Lv0 κ)) en
def S115:DsF:=fun v=>s81 Lv2 (s86 Lv1 (s83 Lv0 (sB AV v)))
def G116:XF:=fun en κ=>g81 Lv2 (g86 Lv1 (g84 Lv0 κ)) en
def S116:DsF:=fun v=>s81 Lv2 (s86 Lv1 (s84 Lv0 (sB AV v)))
def G117:XF:=fun en κ=>g81 Lv2 (g86 Lv1 (g85 Lv0 κ)) en
def S117:DsF:=fun v=>s81 Lv2 (s86 Lv1 (s85 Lv0 (sB AV v)))
def G118:XF:=fun en κ=>g81 Lv2 (g86 Lv1 (g86 Lv0 κ)) en
def S118:DsF:=fun v=>s81 Lv2 (s86 Lv1 (s86 Lv0 (sB AV v)))
def G119:XF:=fun en κ=>g81 Lv2 (g86 Lv1 (g87 Lv0 κ)) en
def S119:DsF:=fun v=>s81 Lv2 (s86 Lv1 (s87 Lv0 (sB AV v)))
def G120:XF:=fun en κ=>g81 Lv2 (g87 Lv1 (g80 Lv0 κ)) en
def S120:DsF:=fun v=>s81 Lv2 (s87 Lv1 (s80 Lv0 (sB AV v)))
def G121:XF:=fun en κ=>g81 Lv2 (g87 Lv1 (g81 Lv0 κ)) en
def S121:DsF:=fun v=>s81 Lv2 (s87 Lv1 (s81 Lv0 (sB AV v)))
def G122:XF:=fun en κ=>g81 Lv2 (g87 Lv1 (g82 Lv0 κ)) en
def S122:DsF:=fun v=>s81 Lv2 (s87 Lv1 (s82 Lv0 (sB AV v)))
def G123:XF:=fun en κ=>g81 Lv2 (g87 Lv1 (g83 Lv0 κ)) en
def S123:DsF:=fun v=>s81 Lv2 (s87 Lv1 (s83 Lv0 (sB AV v)))
def G124:XF:=fun en κ=>g81 Lv2 (g87 Lv1 (g84 Lv0 κ)) en
def S124:DsF:=fun v=>s81 Lv2 (s87 Lv1 (s84 Lv0 (sB AV v)))
def G125:XF:=fun en κ=>g81 Lv2 (g87 Lv1 (g85 Lv0 κ)) en
def S125:DsF:=fun v=>s81 Lv2 (s87 Lv1 (s85 Lv0 (sB AV v)))
def G126:XF:=fun en κ=>g81 Lv2 (g87 Lv1 (g86 Lv0 κ)) en
def S126:DsF:=fun v=>s81 Lv2 (s87 Lv1 (s86 Lv0 (sB AV v)))
def G127:XF:=fun en κ=>g81 Lv2 (g87 Lv1 (g87 Lv0 κ)) en
def S127:DsF:=fun v=>s81 Lv2 (s87 Lv1 (s87 Lv0 (sB AV v)))
def G128:XF:=fun en κ=>g82 Lv2 (g80 Lv1 (g80 Lv0 κ)) en
def S128:DsF:=fun v=>s82 Lv2 (s80 Lv1 (s80 Lv0 (sB AV v)))
def G129:XF:=fun en κ=>g82 Lv2 (g80 Lv1 (g81 Lv0 κ)) en
def S129:DsF:=fun v=>s82 Lv2 (s80 Lv1 (s81 Lv0 (sB AV v)))
def G130:XF:=fun en κ=>g82 Lv2 (g80 Lv1 (g82 Lv0 κ)) en
def S130:DsF:=fun v=>s82 Lv2 (s80 Lv1 (s82 Lv0 (sB AV v)))
def G131:XF:=fun en κ=>g82 Lv2 (g80 Lv1 (g83 Lv0 κ)) en
def S131:DsF:=fun v=>s82 Lv2 (s80 Lv1 (s83 Lv0 (sB AV v)))
def G132:XF:=fun en κ=>g82 Lv2 (g80 Lv1 (g84 Lv0 κ)) en
def S132:DsF:=fun v=>s82 Lv2 (s80 Lv1 (s84 Lv0 (sB AV v)))
def G133:XF:=fun en κ=>g82 Lv2 (g80 Lv1 (g85 Lv0 κ)) en
def S133:DsF:=fun v=>s82 Lv2 (s80 Lv1 (s85 Lv0 (sB AV v)))
def G134:XF:=fun en κ=>g82 Lv2 (g80 Lv1 (g86 Lv0 κ)) en
def S134:DsF:=fun v=>s82 Lv2 (s80 Lv1 (s86 Lv0 (sB AV v)))
def G135:XF:=fun en κ=>g82 Lv2 (g80 Lv1 (g87 Lv0 κ)) en
def S135:DsF:=fun v=>s82 Lv2 (s80 Lv1 (s87 Lv0 (sB AV v)))
def G136:XF:=fun en κ=>g82 Lv2 (g81 Lv1 (g80 Lv0 κ)) en
def S136:DsF:=fun v=>s82 Lv2 (s81 Lv1 (s80 Lv0 (sB AV v)))
def G137:XF:=fun en κ=>g82 Lv2 (g81 Lv1 (g81 Lv0 κ)) en
def S137:DsF:=fun v=>s82 Lv2 (s81 Lv1 (s81 Lv0 (sB AV v)))
def G138:XF:=fun en κ=>g82 Lv2 (g81 Lv1 (g82 Lv0 κ)) en
def S138:DsF:=fun v=>s82 Lv2 (s81 Lv1 (s82 Lv0 (sB AV v)))
def G139:XF:=fun en κ=>g82 Lv2 (g81 Lv1 (g83 Lv0 κ)) en
def S139:DsF:=fun v=>s82 Lv2 (s81 Lv1 (s83 Lv0 (sB AV v)))
def G140:XF:=fun en κ=>g82 Lv2 (g81 Lv1 (g84 Lv0 κ)) en
def S140:DsF:=fun v=>s82 Lv2 (s81 Lv1 (s84 Lv0 (sB AV v)))
def G141:XF:=fun en κ=>g82 Lv2 (g81 Lv1 (g85 Lv0 κ)) en
def S141:DsF:=fun v=>s82 Lv2 (s81 Lv1 (s85 Lv0 (sB AV v)))
def G142:XF:=fun en κ=>g82 Lv2 (g81 Lv1 (g86 Lv0 κ)) en
def S142:DsF:=fun v=>s82 Lv2 (s81 Lv1 (s86 Lv0 (sB AV v)))
def G143:XF:=fun en κ=>g82 Lv2 (g81 Lv1 (g87 Lv0 κ)) en
def S143:DsF:=fun v=>s82 Lv2 (s81 Lv1 (s87 Lv0 (sB AV v)))
def G144:XF:=fun en κ=>g82 Lv2 (g82 Lv1 (g80 Lv0 κ)) en
def S144:DsF:=fun v=>s82 Lv2 (s82 Lv1 (s80 Lv0 (sB AV v)))
def G145:XF:=fun en κ=>g82 Lv2 (g82 Lv1 (g81 Lv0 κ)) en
def S145:DsF:=fun v=>s82 Lv2 (s82 Lv1 (s81 Lv0 (sB AV v)))
def G146:XF:=fun en κ=>g82 Lv2 (g82 Lv1 (g82 Lv0 κ)) en
def S146:DsF:=fun v=>s82 Lv2 (s82 Lv1 (s82 Lv0 (sB AV v)))
def G147:XF:=fun en κ=>g82 Lv2 (g82 Lv1 (g83 Lv0 κ)) en
def S147:DsF:=fun v=>s82 Lv2 (s82 Lv1 (s83 Lv0 (sB AV v)))
def G148:XF:=fun en κ=>g82 Lv2 (g82 Lv1 (g84 Lv0 κ)) en
def S148:DsF:=fun v=>s82 Lv2 (s82 Lv1 (s84 Lv0 (sB AV v)))
def G149:XF:=fun en κ=>g82 Lv2 (g82 Lv1 (g85 Lv0 κ)) en
def S149:DsF:=fun v=>s82 Lv2 (s82 Lv1 (s85 Lv0 (sB AV v)))
def G150:XF:=fun en κ=>g82 Lv2 (g82 Lv1 (g86 Lv0 κ)) en
def S150:DsF:=fun v=>s82 Lv2 (s82 Lv1 (s86 Lv0 (sB AV v)))
def G151:XF:=fun en κ=>g82 Lv2 (g82 Lv1 (g87 Lv0 κ)) en
def S151:DsF:=fun v=>s82 Lv2 (s82 Lv1 (s87 Lv0 (sB AV v)))
def G152:XF:=fun en κ=>g82 Lv2 (g83 Lv1 (g80 Lv0 κ)) en
def S152:DsF:=fun v=>s82 Lv2 (s83 Lv1 (s80 Lv0 (sB AV v)))
def G153:XF:=fun en κ=>g82 Lv2 (g83 Lv1 (g81 Lv0 κ)) en
def S153:DsF:=fun v=>s82 Lv2 (s83 Lv1 (s81 Lv0 (sB AV v)))
def G154:XF:=fun en κ=>g82 Lv2 (g83 Lv1 (g82 Lv0 κ)) en
def S154:DsF:=fun v=>s82 Lv2 (s83 Lv1 (s82 Lv0 (sB AV v)))
def G155:XF:=fun en κ=>g82 Lv2 (g83 Lv1 (g83 Lv0 κ)) en
def S155:DsF:=fun v=>s82 Lv2 (s83 Lv1 (s83 Lv0 (sB AV v)))
def G156:XF:=fun en κ=>g82 Lv2 (g83 Lv1 (g84 Lv0 κ)) en
def S156:DsF:=fun v=>s82 Lv2 (s83 Lv1 (s84 Lv0 (sB AV v)))
def G157:XF:=fun en κ=>g82 Lv2 (g83 Lv1 (g85 Lv0 κ)) en
def S157:DsF:=fun v=>s82 Lv2 (s83 Lv1 (s85 Lv0 (sB AV v)))
def G158:XF:=fun en κ=>g82 Lv2 (g83 Lv1 (g86 Lv0 κ)) en
def S158:DsF:=fun v=>s82 Lv2 (s83 Lv1 (s86 Lv0 (sB AV v)))
def G159:XF:=fun en κ=>g82 Lv2 (g83 Lv1 (g87 Lv0 κ)) en
def S159:DsF:=fun v=>s82 Lv2 (s83 Lv1 (s87 Lv0 (sB AV v)))
def G160:XF:=fun en κ=>g82 Lv2 (g84 Lv1 (g80 Lv0 κ)) en
def S160:DsF:=fun v=>s82 Lv2 (s84 Lv1 (s80 Lv0 (sB AV v)))
def G161:XF:=fun en κ=>g82 Lv2 (g84 Lv1 (g81 Lv0 κ)) en
def S161:DsF:=fun v=>s82 Lv2 (s84 Lv1 (s81 Lv0 (sB AV v)))
def G162:XF:=fun en κ=>g82 Lv2 (g84 Lv1 (g82 Lv0 κ)) en
def S162:DsF:=fun v=>s82 Lv2 (s84 Lv1 (s82 Lv0 (sB AV v)))
def G163:XF:=fun en κ=>g82 Lv2 (g84 Lv1 (g83 Lv0 κ)) en
def S163:DsF:=fun v=>s82 Lv2 (s84 Lv1 (s83 Lv0 (sB AV v)))
def G164:XF:=fun en κ=>g82 Lv2 (g84 Lv1 (g84 Lv0 κ)) en
def S164:DsF:=fun v=>s82 Lv2 (s84 Lv1 (s84 Lv0 (sB AV v)))
def G165:XF:=fun en κ=>g82 Lv2 (g84 Lv1 (g85 Lv0 κ)) en
def S165:DsF:=fun v=>s82 Lv2 (s84 Lv1 (s85 Lv0 (sB AV v)))
def G166:XF:=fun en κ=>g82 Lv2 (g84 Lv1 (g86 Lv0 κ)) en
def S166:DsF:=fun v=>s82 Lv2 (s84 Lv1 (s86 Lv0 (sB AV v)))
def G167:XF:=fun en κ=>g82 Lv2 (g84 Lv1 (g87 Lv0 κ)) en
def S167:DsF:=fun v=>s82 Lv2 (s84 Lv1 (s87 Lv0 (sB AV v)))
def G168:XF:=fun en κ=>g82 Lv2 (g85 Lv1 (g80 Lv0 κ)) en
def S168:DsF:=fun v=>s82 Lv2 (s85 Lv1 (s80 Lv0 (sB AV v)))
def G169:XF:=fun en κ=>g82 Lv2 (g85 Lv1 (g81 Lv0 κ)) en
def S169:DsF:=fun v=>s82 Lv2 (s85 Lv1 (s81 Lv0 (sB AV v)))
def G170:XF:=fun en κ=>g82 Lv2 (g85 Lv1 (g82 Lv0 κ)) en
def S170:DsF:=fun v=>s82 Lv2 (s85 Lv1 (s82 Lv0 (sB AV v)))
def G171:XF:=fun en κ=>g82 Lv2 (g85 Lv1 (g83 Lv0 κ)) en
def S171:DsF:=fun v=>s82 Lv2 (s85 Lv1 (s83 Lv0 (sB AV v)))
def G172:XF:=fun en κ=>g82 Lv2 (g85 Lv1 (g84 Lv0 κ)) en
def S172:DsF:=fun v=>s82 Lv2 (s85 Lv1 (s84 Lv0 (sB AV v)))
def G173:XF:=fun en κ=>g82 Lv2 (g85 Lv1 (g85 Lv0 κ)) en
def S173:DsF:=fun v=>s82 Lv2 (s85 Lv1 (s85 Lv0 (sB AV v)))
def G174:XF:=fun en κ=>g82 Lv2 (g85 Lv1 (g86 Lv0 κ)) en
def S174:DsF:=fun v=>s82 Lv2 (s85 Lv1 (s86 Lv0 (sB AV v)))
def G175:XF:=fun en κ=>g82 Lv2 (g85 Lv1 (g87 Lv0 κ)) en
def S175:DsF:=fun v=>s82 Lv2 (s85 Lv1 (s87 Lv0 (sB AV v)))
def G176:XF:=fun en κ=>g82 Lv2 (g86 Lv1 (g80 Lv0 κ)) en
def S176:DsF:=fun v=>s82 Lv2 (s86 Lv1 (s80 Lv0 (sB AV v)))
def G177:XF:=fun en κ=>g82 Lv2 (g86 Lv1 (g81 Lv0 κ)) en
def S177:DsF:=fun v=>s82 Lv2 (s86 Lv1 (s81 Lv0 (sB AV v)))
def G178:XF:=fun en κ=>g82 Lv2 (g86 Lv1 (g82 Lv0 κ)) en
def S178:DsF:=fun v=>s82 Lv2 (s86 Lv1 (s82 Lv0 (sB AV v)))
def G179:XF:=fun en κ=>g82 Lv2 (g86 Lv1 (g83 Lv0 κ)) en
def S179:DsF:=fun v=>s82 Lv2 (s86 Lv1 (s83 Lv0 (sB AV v)))
def G180:XF:=fun en κ=>g82 Lv2 (g86 Lv1 (g84 Lv0 κ)) en
def S180:DsF:=fun v=>s82 Lv2 (s86 Lv1 (s84 Lv0 (sB AV v)))
def G181:XF:=fun en κ=>g82 Lv2 (g86 Lv1 (g85 Lv0 κ)) en
def S181:DsF:=fun v=>s82 Lv2 (s86 Lv1 (s85 Lv0 (sB AV v)))
def G182:XF:=fun en κ=>g82 Lv2 (g86 Lv1 (g86 Lv0 κ)) en
def S182:DsF:=fun v=>s82 Lv2 (s86 Lv1 (s86 Lv0 (sB AV v)))
def G183:XF:=fun en κ=>g82 Lv2 (g86 Lv1 (g87 Lv0 κ)) en
def S183:DsF:=fun v=>s82 Lv2 (s86 Lv1 (s87 Lv0 (sB AV v)))
def G184:XF:=fun en κ=>g82 Lv2 (g87 Lv1 (g80 Lv0 κ)) en
def S184:DsF:=fun v=>s82 Lv2 (s87 Lv1 (s80 Lv0 (sB AV v)))
def G185:XF:=fun en κ=>g82 Lv2 (g87 Lv1 (g81 Lv0 κ)) en
def S185:DsF:=fun v=>s82 Lv2 (s87 Lv1 (s81 Lv0 (sB AV v)))
def G186:XF:=fun en κ=>g82 Lv2 (g87 Lv1 (g82 Lv0 κ)) en
def S186:DsF:=fun v=>s82 Lv2 (s87 Lv1 (s82 Lv0 (sB AV v)))
def G187:XF:=fun en κ=>g82 Lv2 (g87 Lv1 (g83 Lv0 κ)) en
def S187:DsF:=fun v=>s82 Lv2 (s87 Lv1 (s83 Lv0 (sB AV v)))
def G188:XF:=fun en κ=>g82 Lv2 (g87 Lv1 (g84 Lv0 κ)) en
def S188:DsF:=fun v=>s82 Lv2 (s87 Lv1 (s84 Lv0 (sB AV v)))
def G189:XF:=fun en κ=>g82 Lv2 (g87 Lv1 (g85 Lv0 κ)) en
def S189:DsF:=fun v=>s82 Lv2 (s87 Lv1 (s85 Lv0 (sB AV v)))
def G190:XF:=fun en κ=>g82 Lv2 (g87 Lv1 (g86 Lv0 κ)) en
def S190:DsF:=fun v=>s82 Lv2 (s87 Lv1 (s86 Lv0 (sB AV v)))
def G191:XF:=fun en κ=>g82 Lv2 (g87 Lv1 (g87 Lv0 κ)) en
def S191:DsF:=fun v=>s82 Lv2 (s87 Lv1 (s87 Lv0 (sB AV v)))
def G192:XF:=fun en κ=>g83 Lv2 (g80 Lv1 (g80 Lv0 κ)) en
def S192:DsF:=fun v=>s83 Lv2 (s80 Lv1 (s80 Lv0 (sB AV v)))
def G193:XF:=fun en κ=>g83 Lv2 (g80 Lv1 (g81 Lv0 κ)) en
def S193:DsF:=fun v=>s83 Lv2 (s80 Lv1 (s81 Lv0 (sB AV v)))
def G194:XF:=fun en κ=>g83 Lv2 (g80 Lv1 (g82 Lv0 κ)) en
def S194:DsF:=fun v=>s83 Lv2 (s80 Lv1 (s82 Lv0 (sB AV v)))
def G195:XF:=fun en κ=>g83 Lv2 (g80 Lv1 (g83 Lv0 κ)) en
def S195:DsF:=fun v=>s83 Lv2 (s80 Lv1 (s83 Lv0 (sB AV v)))
end
end Go.AM
