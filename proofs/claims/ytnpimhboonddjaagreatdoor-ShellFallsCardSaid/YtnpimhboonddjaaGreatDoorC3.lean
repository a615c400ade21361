/- A part of the proof of this: the law ShellFalls. Conditions: none. Joined of AmO, AmNb, AmP, AmQ, AmQa, AmQb, AmR, AmS, AmU, AmV, AmW, AmX. -/
import Derived.Test.YtnpimhboonddjaaGreatDoorC2
import Derived.Laws.Small
import Derived.Laws.Slices
import Derived.KernelRfl
import Derived.Lib.Builder
import Derived.Lib.UnsafeStr
import Derived.Lib.MakeNoZero
import Derived.Lib.Bytealg
import Derived.CallsIn
import Derived.Orders
import Derived.Defers
import Derived.RangeFuncIn
namespace Go.AM
open Go
section
variable {P:Program} {o:Oper} {x y z:XF} {X Y Z:Operand}
def BdOk (b:BdF) (y:Option Operand):Prop:=∀ en d κ,b en d κ=true→∃ n,(∀ κ',b en d κ' = κ' n)∧κ n=true∧((y=none∧n=d)∨∃ Y,y=some Y∧∀ θ (a:Act),ER θ en a.tmps→∃ k,a.eval Y = .int k (n:Int))
theorem bd_ok {y:Option Operand} {x:Option AM.X} (h:optX y=some x):BdOk (dB x) y:=by
 unfold optX at h
 split at h
 ·injection h with h;subst h
  exact fun en d κ e=>⟨d,fun _=>rfl,e,.inl ⟨rfl,rfl⟩⟩
 ·rename_i y
  cases hx:trX y with
  | none=>rw [hx] at h;cases h
  | some x=>
   rw [hx] at h;injection h with h;subst h
   intro en d κ e
   obtain ⟨v,hv,hr⟩:=x_ok hx en
   have e:dX x en (asN κ)=true:=e
   rw [hv] at e
   obtain ⟨k,n,rfl,e1⟩:=asN_true e
   exact ⟨n,fun κ'=>hv _,e1,.inr ⟨y,rfl,fun θ a hE=>⟨_,(hr θ a hE).i⟩⟩⟩
theorem run_bnds {a:Act} {w:World} {isSlice:Bool} {len cap:Nat} {lo hi mx:Option Operand} {l h m:Nat}
  (hl:(lo=none∧l=0)∨∃ Y,lo=some Y∧∃ k,a.eval Y = .int k (l:Int)) (hh:(hi=none∧h=len)∨∃ Y,hi=some Y∧∃ k,a.eval Y = .int k (h:Int)) (hm:(mx=none∧m=cap)∨∃ Y,mx=some Y∧∃ k,a.eval Y = .int k (m:Int))
  (hmh:hi=none→mx=none) (h1:l≤h) (h2:h≤m) (h3:m≤cap):(Instr.sliceBounds isSlice len cap (lo.map a.eval) (hi.map a.eval) (mx.map a.eval)).run P w = .ok (l,h,m) w:=by
 have bound:∀ (k:IntKind) (i y:Nat) (code:BoundsCode),i≤y→(Instr.sliceBound (.int k (i:Int)) y code).run P w = .ok i w:=fun k i y code h1=>run_sliceBound w k i y code (by omega) (by omega)
 rcases hm with ⟨rfl,rfl⟩ | ⟨ym,rfl,km,em⟩
 ·rcases hh with ⟨rfl,rfl⟩ | ⟨yh,rfl,kh,eh⟩
  ·rcases hl with ⟨rfl,rfl⟩ | ⟨yl,rfl,kl,el⟩
   ·simp [Instr.sliceBounds]
   ·simp [Instr.sliceBounds,el,bound kl l h _ h1]
  ·rcases hl with ⟨rfl,rfl⟩ | ⟨yl,rfl,kl,el⟩
   ·simp [Instr.sliceBounds,eh,bound kh h m _ h2]
   ·simp [Instr.sliceBounds,eh,el,bound kh h m _ h2,bound kl l h _ h1]
 ·rcases hh with ⟨rfl,rfl⟩ | ⟨yh,rfl,kh,eh⟩
  ·exact absurd (hmh rfl) (by simp)
  ·rcases hl with ⟨rfl,rfl⟩ | ⟨yl,rfl,kl,el⟩
   ·simp [Instr.sliceBounds,em,eh,bound km m cap _ h3,bound kh h m _ h2]
   ·simp [Instr.sliceBounds,em,eh,el,bound km m cap _ h3,bound kh h m _ h2,bound kl l h _ h1]
theorem p_sls {t:TypeId} {lo hi:Option Operand} {bl bh:BdF} (hx:XOk x X) (hl:BdOk bl lo) (hh:BdOk bh hi) (hu:P.underlying t=some .string) (ho:o.op = .slice t X lo hi none):PureOk P o (oSls x bl bh):=by
 intro en h nx κ e
 obtain ⟨v,hv,hr⟩:=hx en
 by_cases ht:∃ s,v = .t s
 ·obtain ⟨s,rfl⟩:=ht
  simp only [oSls,hv] at e
  obtain ⟨l,l1,e2,l2⟩:=hl _ _ _ e
  rw [fnat_eq,lenN_eq] at e2
  obtain ⟨q,q1,e3,q2⟩:=hh _ _ _ e2
  obtain ⟨c1,e4⟩:=br_t e3
  obtain ⟨c2,e5⟩:=br_t e4
  have c1':l≤q:=Nat.le_of_ble_eq_true c1
  have c2':q≤s.length:=Nat.le_of_ble_eq_true c2
  have hlen:q - l≤(s.drop l).length:=by simp;omega
  have e5:takeK AV (q - l) (dropL AV l s) (fun s=>mkTx s fun v=>κ v h nx)=true:=e5
  rw [dropL_eq,takeK_eq,if_pos hlen] at e5
  obtain ⟨u,u1,_,u3⟩:=mkTx_true e5
  refine ⟨u,fun h' nx' κ'=>?_,fun θ a w hE=>⟨_,u3 θ (fun c hc=>(hr θ a hE).1 c (List.mem_of_mem_drop (List.mem_of_mem_take hc))),?_⟩⟩
  ·simp only [oSls,hv]
   rw [l1,fnat_eq,lenN_eq,q1,c1,c2]
   show takeK AV (q - l) (dropL AV l s) _=_
   rw [dropL_eq,takeK_eq,if_pos hlen,u1]
  ·have hX:a.eval X = .string (txV θ s):=(hr θ a hE).2
   have hb:=run_bnds (P:=P) (a:=a) (w:=w) (isSlice:=false) (len:=(txV θ s).size) (cap:=(txV θ s).size) (lo:=lo) (hi:=hi) (mx:=none) (l:=l) (h:=q) (m:=(txV θ s).size)
    (l2.imp id fun ⟨Y,h1,h2⟩=>⟨Y,h1,h2 θ a hE⟩) (by rw [tx_size];exact q2.imp id fun ⟨Y,h1,h2⟩=>⟨Y,h1,h2 θ a hE⟩) (.inl ⟨rfl,rfl⟩) (fun _=>rfl) c1' (by rw [tx_size];exact c2') (Nat.le_refl _)
   have hex:(txV θ s).extract l q=txV θ ((s.drop l).take (q - l)):=by
    have hj:∀ x y:ByteArray,x.data=y.data→x=y:=fun x y h=>by cases x;cases y;cases h;rfl
    apply hj
    rw [ByteArray.data_extract]
    apply Array.ext'
    simp [txV,List.extract_eq_take_drop,List.map_take,List.map_drop]
   simp only [Option.map_none] at hb
   simp [execOp,ho,hX,Instr.sliceAt,Instr.slice,run_underlying hu,hb,hex]
 have hsame:∀ h nx κ,oSls x bl bh en h nx κ=asS (fun s=>bl en 0 fun l=>fnat (lenN Nat s) fun n=>bh en n fun hh=>
   br (Nat.ble l hh) (br (Nat.ble hh n) (takeK Nat (Nat.sub hh l) (dropL Nat l s) fun s=>κ (.s s) h nx) false) false) v:=by
  intro h nx κ
  simp only [oSls,hv]
  cases v<;>first | rfl | exact absurd ⟨_,rfl⟩ ht
 rw [hsame] at e
 obtain ⟨s,rfl,e1⟩:=asS_true e
 obtain ⟨l,l1,e2,l2⟩:=hl _ _ _ e1
 rw [fnat_eq,lenN_eq] at e2
 obtain ⟨q,q1,e3,q2⟩:=hh _ _ _ e2
 obtain ⟨c1,e4⟩:=br_t e3
 obtain ⟨c2,e5⟩:=br_t e4
 have c1':l≤q:=Nat.le_of_ble_eq_true c1
 have c2':q≤s.length:=Nat.le_of_ble_eq_true c2
 refine ⟨.s ((s.drop l).take (q - l)),fun h' nx' κ'=>?_,fun θ a w hE=>⟨_,⟨?_,rfl⟩,?_⟩⟩
 ·rw [hsame]
  show bl en 0 _=_
  rw [l1,fnat_eq,lenN_eq,q1,c1,c2]
  show takeK Nat (q - l) (dropL Nat l s) _=_
  rw [dropL_eq,takeK_eq,if_pos (by simp;omega)]
 ·intro c hc
  exact (hr θ a hE).s.2 c (List.mem_of_mem_drop (List.mem_of_mem_take hc))
 ·have hX:=(hr θ a hE).s.1
  have hb:=run_bnds (P:=P) (a:=a) (w:=w) (isSlice:=false) (len:=(bytesOf s).size) (cap:=(bytesOf s).size) (lo:=lo) (hi:=hi) (mx:=none) (l:=l) (h:=q) (m:=(bytesOf s).size)
   (l2.imp id fun ⟨Y,h1,h2⟩=>⟨Y,h1,h2 θ a hE⟩) (by rw [bytes_size];exact q2.imp id fun ⟨Y,h1,h2⟩=>⟨Y,h1,h2 θ a hE⟩) (.inl ⟨rfl,rfl⟩) (fun _=>rfl) c1' (by rw [bytes_size];exact c2') (Nat.le_refl _)
  have hex:(bytesOf s).extract l q=bytesOf ((s.drop l).take (q - l)):=by
   have hj:∀ x y:ByteArray,x.data=y.data→x=y:=fun x y h=>by cases x;cases y;cases h;rfl
   apply hj
   rw [ByteArray.data_extract]
   apply Array.ext'
   simp [bytesOf,List.extract_eq_take_drop,List.map_take,List.map_drop]
  simp only [Option.map_none] at hb
  simp [execOp,ho,hX,Instr.sliceAt,Instr.slice,run_underlying hu,hb,hex,toV]
theorem cut_known {θ:Th} {ob off c l q m size len:Nat} {h:H} {nx:Nat} {κ:K} (e:cutK ob off len c l q m size h nx κ=true) (hlq:l≤q) (hh:θ.has ob) :
  q≤m∧m≤c∧∃ v,κ v h nx=true∧VR θ v (.slice (some (if m=l then (⟨θ.blk ob,θ.bas ob + off,none⟩:Addr) else (⟨θ.blk ob,θ.bas ob + off,none⟩:Addr).add (l * size))) (q - l) (m - l)):=by
 obtain ⟨c1,e1⟩:=br_t e
 obtain ⟨c2,e2⟩:=br_t e1
 have c1:q≤m:=Nat.le_of_ble_eq_true c1
 have c2:m≤c:=Nat.le_of_ble_eq_true c2
 refine ⟨c1,c2,?_⟩
 rcases br_true e2 with ⟨h1,h2⟩ | ⟨h1,h2⟩
 ·have h1:=Nat.eq_of_beq_eq_true h1
  refine ⟨_,h2,hh,?_⟩
  rw [if_pos h1]
  have h3:q - l=0:=by omega
  have h4:m - l=0:=by omega
  rw [h3,h4];rfl
 ·have h1:m≠l:=fun h=>by subst h;simp at h1
  rw [fnat_eq,fnat_eq,fnat_eq] at h2
  refine ⟨_,h2,hh,?_⟩
  rw [if_neg h1,Addr.add_lit]
  show _=Value.slice (some ⟨_,θ.bas ob + (off + l * size),none⟩) _ _
  rw [Nat.add_assoc];rfl
theorem brT (a b:R):br true a b=a:=rfl
theorem brF (a b:R):br false a b=b:=rfl
theorem cut_det {ob off c l q m size len:Nat} {h:H} {nx:Nat} {κ:K} (e:cutK ob off len c l q m size h nx κ=true):∃ v,∀ h' nx' κ',cutK ob off len c l q m size h' nx' κ' = κ' v h' nx':=by
 obtain ⟨c1,e1⟩:=br_t e
 obtain ⟨c2,e2⟩:=br_t e1
 rcases br_true e2 with ⟨h1,h2⟩ | ⟨h1,h2⟩
 ·refine ⟨.sl ob off 0 (some 0),fun h' nx' κ'=>?_⟩
  unfold cutK
  rw [c1,c2,h1];rfl
 ·refine ⟨.sl ob (off + l * size) (q - l) (some (m - l)),fun h' nx' κ'=>?_⟩
  unfold cutK
  rw [c1,c2,h1,brT,brT,brF,fnat_eq,fnat_eq,fnat_eq];rfl
theorem cutM_true {ob off len l q m size:Nat} {h:H} {nx:Nat} {κ:K} (e:cutM ob off len l q m size h nx κ=true):∃ N z zl d t top sh,obj h ob=some (.ce N size z zl d t top sh)∧size≠0∧off + m * size≤N∧cutK ob off len m l q m size h nx κ=true:=by
 obtain ⟨ab,hab,e6⟩:=get_true e
 cases ab<;>first | (cases e6;done) | skip
 rename_i N es z zl d tt top sh
 obtain ⟨b1,e7⟩:=br_t e6
 obtain ⟨b2,e8⟩:=br_f e7
 obtain ⟨b3,e9⟩:=br_t e8
 have b1:=Nat.eq_of_beq_eq_true b1
 have b2:size≠0:=fun h=>by subst h;cases b2
 subst b1
 exact ⟨N,z,zl,d,tt,top,sh,hab,b2,Nat.le_of_ble_eq_true b3,e9⟩
theorem cutM_cap {P:Program} {w0 w:World} {pd:List (Nat × AO)} {θ:Th} {h:H} {nx:Nat} (hR:HR P w0 pd θ h nx w) {ob off m size N zl d:Nat} {z:List AV} {t:L (Option AV) d} {top:Bool} {sh:List Nat} (hh:θ.has ob)
  (hab:obj h ob=some (.ce N size z zl d t top sh)) (hs:size≠0) (hm:off + m * size≤N):θ.esz ob=size∧m≤(θ.siz ob - off) / size:=by
 obtain ⟨cc,ty,fz,o1,o2,o3,o4,o5,o6⟩:=hR.obj_ hh hab
 obtain ⟨p1,p2,p3⟩:=o6 hs
 refine ⟨p1,?_⟩
 rw [Nat.le_div_iff_mul_le (Nat.pos_of_ne_zero hs)];omega
theorem a_slc {t el:TypeId} {lo hi mx:Option Operand} {bl bh bm:BdF} {size:Nat} {nomax:Bool} (hx:XOk x X) (hl:BdOk bl lo) (hh:BdOk bh hi) (hm:BdOk bm mx) (hno:nomax=true→mx=none) (hno2:nomax=false→mx≠none) (hmh:hi=none→mx=none)
  (hu:P.underlying t=some (.slice el)) (hs:sizeT P el=some size) (ho:o.op = .slice t X lo hi mx):OpOk P o (oSlc x bl bh bm nomax size):=by
 intro en h nx κ w0 pd θ a w hE hR e
 obtain ⟨v,hv,hr⟩:=hx en
 simp only [oSlc,hv] at e
 have run:∀ {base:Option Addr} {len cap l q m:Nat},a.eval X = .slice base len cap→((lo=none∧l=0)∨∃ Y,lo=some Y∧∃ k,a.eval Y = .int k (l:Int))→((hi=none∧q=len)∨∃ Y,hi=some Y∧∃ k,a.eval Y = .int k (q:Int))→((mx=none∧m=cap)∨∃ Y,mx=some Y∧∃ k,a.eval Y = .int k (m:Int))→
   l≤q→q≤m→m≤cap→(execOp a.eval o).run P w = .ok (.value (.slice (if m=l then base else base.map (·.add (l * size))) (q - l) (m - l))) w:=by
  intro base len cap l q m hX h1 h2 h3 h4 h5 h6
  have hb:=run_bnds (P:=P) (w:=w) (isSlice:=true) h1 h2 h3 hmh h4 h5 h6
  simp only [execOp,ho,hX,Instr.sliceAt,Instr.slice,Sem.run_bind,run_underlying hu,Result.andThen,hb,run_size hs,Sem.run_pure]
 cases v<;>first | (cases e;done) | skip
 ·rename_i ob off len cap
  have hhas:=(hr θ a hE).1
  obtain ⟨l,l1,e2,l2⟩:=hl _ _ _ e
  obtain ⟨q,q1,e3,q2⟩:=hh _ _ _ e2
  obtain ⟨c1,e4⟩:=br_t e3
  have c1:l≤q:=Nat.le_of_ble_eq_true c1
  cases cap with
  | some c=>
   obtain ⟨m,m1,e5,m2⟩:=hm _ _ _ e4
   obtain ⟨c2,c3,v,k1,k2⟩:=cut_known e5 c1 hhas
   have hX:=(hr θ a hE).sls.1
   have hrun:=run hX (l2.imp id fun ⟨Y,h1,h2⟩=>⟨Y,h1,h2 θ a hE⟩) (q2.imp id fun ⟨Y,h1,h2⟩=>⟨Y,h1,h2 θ a hE⟩) (m2.imp id fun ⟨Y,h1,h2⟩=>⟨Y,h1,h2 θ a hE⟩) c1 c2 c3
   refine ⟨v,_,θ,h,nx,w,_,.refl θ,k2,hR,k1,hrun,?_⟩
   show some _=some _
   congr 2
   split<;>simp
  | none=>
   rcases br_true e4 with ⟨hn,e5⟩ | ⟨hn,e5⟩
   rotate_left
   ·obtain ⟨m,m1,e6,m2⟩:=hm _ _ _ e5
    obtain ⟨N,z,zl,d,tt,top,sh,hab,b2,b3,e7⟩:=cutM_true e6
    obtain ⟨p1,p2⟩:=cutM_cap hR hhas hab b2 b3
    obtain ⟨c2,c3,v,k1,k2⟩:=cut_known e7 c1 hhas
    have hX:=(hr θ a hE).sln.1
    rw [p1] at hX
    have hmm:(mx=none∧m=(θ.siz ob - off) / size)∨∃ Y,mx=some Y∧∃ k,a.eval Y = .int k (m:Int):=m2.elim (fun ⟨h1,_⟩=>absurd h1 (hno2 hn)) fun ⟨Y,h1,h2⟩=>.inr ⟨Y,h1,h2 θ a hE⟩
    have hrun:=run hX (l2.imp id fun ⟨Y,h1,h2⟩=>⟨Y,h1,h2 θ a hE⟩) (q2.imp id fun ⟨Y,h1,h2⟩=>⟨Y,h1,h2 θ a hE⟩) hmm c1 c2 p2
    refine ⟨v,_,θ,h,nx,w,_,.refl θ,k2,hR,k1,hrun,?_⟩
    show some _=some _
    congr 2
    split<;>simp
   have hmx:=hno hn
   obtain ⟨ab,hab,e6⟩:=get_true e5
   cases ab<;>first | (cases e6;done) | skip
   rename_i N es z zl d tt top sh
   obtain ⟨b1,e7⟩:=br_t e6
   obtain ⟨b2,e8⟩:=br_f e7
   obtain ⟨b3,e9⟩:=br_t e8
   have b1:=Nat.eq_of_beq_eq_true b1
   have b2:size≠0:=fun h=>by subst h;cases b2
   have b3:off + q * size≤N:=Nat.le_of_ble_eq_true b3
   subst b1
   obtain ⟨cc,ty,fz,o1,o2,o3,o4,o5,o6⟩:=hR.obj_ hhas hab
   obtain ⟨p1,p2,p3⟩:=o6 b2
   have hX:=(hr θ a hE).sln.1
   rw [p1] at hX
   have hpos:0 < es:=Nat.pos_of_ne_zero b2
   have hcapq:q≤(θ.siz ob - off) / es:=by
    rw [Nat.le_div_iff_mul_le hpos];omega
   have hrun:=run hX (l2.imp id fun ⟨Y,h1,h2⟩=>⟨Y,h1,h2 θ a hE⟩) (q2.imp id fun ⟨Y,h1,h2⟩=>⟨Y,h1,h2 θ a hE⟩) (m:=(θ.siz ob - off) / es) (.inl ⟨hmx,rfl⟩) c1 hcapq (Nat.le_refl _)
   have hlN:off + l * es≤N:=Nat.le_trans (Nat.add_le_add_left (Nat.mul_le_mul_right _ c1) _) b3
   rcases br_true e9 with ⟨g1,g2⟩ | ⟨g1,g2⟩
   ·have g1:off + (l + 1) * es≤N:=Nat.le_of_ble_eq_true g1
    rw [fnat_eq,fnat_eq] at g2
    have hl1:l + 1≤(θ.siz ob - off) / es:=by
     rw [Nat.le_div_iff_mul_le hpos];omega
    refine ⟨.sl ob (off + l * es) (q - l) none,_,θ,h,nx,w,_,.refl θ,⟨hhas,rfl⟩,hR,g2,hrun,?_⟩
    show some _=some _
    rw [if_neg (by omega)]
    simp only [Option.map_some,Addr.add_lit,toV]
    congr 2
    ·show some (Addr.mk _ _ _)=some (Addr.mk _ (θ.bas ob + (off + l * es)) _)
     rw [Nat.add_assoc]
    ·show (θ.siz ob - off) / es - l=(θ.siz ob - (off + l * es)) / θ.esz ob
     rw [p1,Nat.sub_add_eq,Nat.mul_comm l es,Nat.sub_mul_div]
   ·obtain ⟨g3,g4⟩:=br_t g2
    subst g3
    have g1:¬ (off + (l + 1) * es≤N):=fun h=>by
     have:Nat.ble (Nat.add off (Nat.mul (Nat.succ l) es)) N=true:=Nat.ble_eq_true_of_le h
     rw [this] at g1;cases g1
    have hql:q=l:=by
     rcases Nat.lt_or_ge l q with h | h
     ·have:(l + 1) * es≤q * es:=Nat.mul_le_mul_right _ h
      omega
     ·omega
    rw [put_eq] at g4
    obtain ⟨hn',g5⟩:=newK_true g4
    obtain ⟨M,hM⟩:∃ M,M=(θ.siz ob - off) / es:=⟨_,rfl⟩
    rw [← hM] at hrun hcapq
    have hMs:M * es≤θ.siz ob - off:=by rw [hM];exact Nat.div_mul_le_self _ _
    have hls:l * es≤M * es:=Nat.mul_le_mul_right _ (by omega)
    have hsub:(M - l) * es=M * es - l * es:=Nat.sub_mul ..
    obtain ⟨k1,k2⟩:=HR.tail hR hhas hab hn' (es':=es) (bs:=if M=l then θ.bas ob + off else θ.bas ob + off + l * es) (sz:=(M - l) * es) (by split<;>omega)
     ⟨cc,ty,fz,by rw [Th.put_blk];exact o1,by simp,fun i hi=>by omega,o4,fun h=>absurd h b2,fun _=>⟨by simp,Nat.zero_le _,by rw [Th.put_bas,Th.put_siz];split<;>omega⟩⟩
    refine ⟨.sl nx 0 0 none,_,_,_,_,w,_,k2,⟨Th.put_has ..,rfl⟩,k1,g5,hrun,?_⟩
    show some _=some _
    simp only [toV,Th.put_blk,Th.put_bas,Th.put_siz,Th.put_esz,Nat.add_zero,Nat.sub_zero,hql,Nat.sub_self,Nat.mul_div_cancel _ hpos]
    congr 2
    split<;>simp [Addr.add_lit]
 ·obtain ⟨l,l1,e2,l2⟩:=hl _ _ _ e
  obtain ⟨q,q1,e3,q2⟩:=hh _ _ _ e2
  obtain ⟨m,m1,e4,m2⟩:=hm _ _ _ e3
  obtain ⟨c1,e5⟩:=br_t e4
  obtain ⟨c2,e6⟩:=br_t e5
  obtain ⟨c3,e7⟩:=br_t e6
  have c1:=Nat.eq_of_beq_eq_true c1
  have c2:=Nat.eq_of_beq_eq_true c2
  have c3:=Nat.eq_of_beq_eq_true c3
  subst c1 c2 c3
  have hX:a.eval X = .slice none 0 0:=(hr θ a hE).2
  have hrun:=run hX (l2.imp id fun ⟨Y,h1,h2⟩=>⟨Y,h1,h2 θ a hE⟩) (q2.imp id fun ⟨Y,h1,h2⟩=>⟨Y,h1,h2 θ a hE⟩) (m2.imp id fun ⟨Y,h1,h2⟩=>⟨Y,h1,h2 θ a hE⟩) (Nat.le_refl _) (Nat.le_refl _) (Nat.le_refl _)
  exact ⟨.ns,.slice none 0 0,θ,h,nx,w,_,.refl θ,⟨trivial,rfl⟩,hR,e7,hrun,rfl⟩
theorem p_sla {t el:TypeId} {lo hi mx:Option Operand} {bl bh bm:BdF} {size n:Nat} (hx:XOk x X) (hl:BdOk bl lo) (hh:BdOk bh hi) (hm:BdOk bm mx) (hmh:hi=none→mx=none)
  (hu:P.underlying t=some (.array n el)) (hs:sizeT P el=some size) (ho:o.op = .slice t X lo hi mx):PureOk P o (oSla x bl bh bm n size):=by
 intro en h nx κ e
 obtain ⟨v,hv,hr⟩:=hx en
 simp only [oSla,hv] at e
 obtain ⟨ob,off,rfl,e1⟩:=asP_true e
 obtain ⟨l,l1,e2,l2⟩:=hl _ _ _ e1
 obtain ⟨q,q1,e3,q2⟩:=hh _ _ _ e2
 obtain ⟨m,m1,e4,m2⟩:=hm _ _ _ e3
 obtain ⟨c1,e5⟩:=br_t e4
 obtain ⟨v,hdet⟩:=cut_det e5
 refine ⟨v,fun h' nx' κ'=>?_,fun θ a w hE=>?_⟩
 ·simp only [oSla,hv]
  show bl en 0 _=_
  rw [l1,q1,m1,c1]
  exact hdet h' nx' κ'
 ·have c1:l≤q:=Nat.le_of_ble_eq_true c1
  obtain ⟨hX,hhas⟩:=(hr θ a hE).p
  obtain ⟨c2,c3,v',k1,k2⟩:=cut_known (κ:=is1 v) (h:=h) (nx:=nx) (by rw [hdet h nx];simp [is1]) c1 hhas
  have hvv:v' = v:=by simpa [is1] using k1
  subst hvv
  have hb:=run_bnds (P:=P) (w:=w) (isSlice:=false) (l2.imp id fun ⟨Y,h1,h2⟩=>⟨Y,h1,h2 θ a hE⟩) (q2.imp id fun ⟨Y,h1,h2⟩=>⟨Y,h1,h2 θ a hE⟩) (m2.imp id fun ⟨Y,h1,h2⟩=>⟨Y,h1,h2 θ a hE⟩) hmh c1 c2 c3
  refine ⟨_,k2,?_⟩
  simp only [execOp,ho,hX,Instr.sliceAt,Sem.run_bind,run_underlying hu,Result.andThen,Instr.sureAddr,Sem.run_pure,hb,run_size hs]
theorem r_slr {t el:TypeId} {lo hi mx:Option Operand} {bl bh bm:BdF} {size:Nat} {nomax:Bool} (hx:XOk x X) (hl:BdOk bl lo) (hh:BdOk bh hi) (hm:BdOk bm mx) (hno:nomax=true→mx=none) (hno2:nomax=false→mx≠none) (hmh:hi=none→mx=none)
  (hu:P.underlying t=some (.slice el)) (hs:sizeT P el=some size) (ho:o.op = .slice t X lo hi mx):ReadOk P o (oSlr x bl bh bm nomax size):=by
 intro en h nx κ e
 obtain ⟨v,hv,hr⟩:=hx en
 simp only [oSlr,hv] at e
 have run:∀ {a:Act} {w:World} {base:Option Addr} {len cap l q m:Nat},a.eval X = .slice base len cap→((lo=none∧l=0)∨∃ Y,lo=some Y∧∃ k,a.eval Y = .int k (l:Int))→((hi=none∧q=len)∨∃ Y,hi=some Y∧∃ k,a.eval Y = .int k (q:Int))→((mx=none∧m=cap)∨∃ Y,mx=some Y∧∃ k,a.eval Y = .int k (m:Int))→
   l≤q→q≤m→m≤cap→(execOp a.eval o).run P w = .ok (.value (.slice (if m=l then base else base.map (·.add (l * size))) (q - l) (m - l))) w:=by
  intro a w base len cap l q m hX h1 h2 h3 h4 h5 h6
  have hb:=run_bnds (P:=P) (w:=w) (isSlice:=true) h1 h2 h3 hmh h4 h5 h6
  simp only [execOp,ho,hX,Instr.sliceAt,Instr.slice,Sem.run_bind,run_underlying hu,Result.andThen,hb,run_size hs,Sem.run_pure]
 cases v<;>first | (cases e;done) | skip
 ·rename_i ob off len cap
  obtain ⟨l,l1,e2,l2⟩:=hl _ _ _ e
  obtain ⟨q,q1,e3,q2⟩:=hh _ _ _ e2
  obtain ⟨c1,e4⟩:=br_t e3
  have c1':l≤q:=Nat.le_of_ble_eq_true c1
  cases cap with
  | some c=>
   obtain ⟨m,m1,e5,m2⟩:=hm _ _ _ e4
   obtain ⟨v,hdet⟩:=cut_det e5
   refine ⟨v,fun h' _ nx' κ'=>?_,fun θ a w w0 pd nx0 hE hR=>?_⟩
   ·simp only [oSlr,hv]
    rw [l1,q1,c1]
    show bm en c _=_
    rw [m1]
    exact hdet h' nx' κ'
   ·have hhas:=(hr θ a hE).1
    obtain ⟨c2,c3,v',k1,k2⟩:=cut_known (κ:=is1 v) (h:=h) (nx:=nx) (by rw [hdet h nx];simp [is1]) c1' hhas
    have hvv:v' = v:=by simpa [is1] using k1
    subst hvv
    have hX:=(hr θ a hE).sls.1
    have hrun:=run (w:=w) hX (l2.imp id fun ⟨Y,h1,h2⟩=>⟨Y,h1,h2 θ a hE⟩) (q2.imp id fun ⟨Y,h1,h2⟩=>⟨Y,h1,h2 θ a hE⟩) (m2.imp id fun ⟨Y,h1,h2⟩=>⟨Y,h1,h2 θ a hE⟩) c1' c2 c3
    refine ⟨_,k2,hrun.trans ?_⟩
    congr 3
    split<;>simp
  | none=>
   rcases br_true e4 with ⟨hn,e5⟩ | ⟨hn,e5⟩
   rotate_left
   ·obtain ⟨m,m1,e6,m2⟩:=hm _ _ _ e5
    obtain ⟨N,z,zl,d,tt,top,sh,hab,b2,b3,e7⟩:=cutM_true e6
    obtain ⟨v,hdet⟩:=cut_det e7
    refine ⟨v,fun h' hx' nx' κ'=>?_,fun θ a w w0 pd nx0 hE hR=>?_⟩
    ·simp only [oSlr,hv]
     rw [l1,q1,c1]
     show br nomax _ _=_
     rw [hn,brF,m1]
     show cutM ob off len l q m size h' nx' κ' = _
     unfold cutM
     rw [get_is (hx' ob _ hab)]
     show br (Nat.beq size size) (br (Nat.beq size 0) false (br (Nat.ble (off + m * size) N) _ false)) false=_
     have g2:Nat.beq size 0=false:=by
      cases hb:Nat.beq size 0 with
      | false=>rfl
      | true=>exact absurd (Nat.eq_of_beq_eq_true hb) b2
     rw [Nat.beq_refl,g2,Nat.ble_eq_true_of_le b3,brT,brF,brT]
     exact hdet h' nx' κ'
    ·have hhas:=(hr θ a hE).1
     obtain ⟨p1,p2⟩:=cutM_cap hR hhas hab b2 b3
     obtain ⟨c2,c3,v',k1,k2⟩:=cut_known (κ:=is1 v) (h:=h) (nx:=nx) (by rw [hdet h nx];simp [is1]) c1' hhas
     have hvv:v' = v:=by simpa [is1] using k1
     subst hvv
     have hX:=(hr θ a hE).sln.1
     rw [p1] at hX
     have hmm:(mx=none∧m=(θ.siz ob - off) / size)∨∃ Y,mx=some Y∧∃ k,a.eval Y = .int k (m:Int):=m2.elim (fun ⟨h1,_⟩=>absurd h1 (hno2 hn)) fun ⟨Y,h1,h2⟩=>.inr ⟨Y,h1,h2 θ a hE⟩
     have hrun:=run (w:=w) hX (l2.imp id fun ⟨Y,h1,h2⟩=>⟨Y,h1,h2 θ a hE⟩) (q2.imp id fun ⟨Y,h1,h2⟩=>⟨Y,h1,h2 θ a hE⟩) hmm c1' c2 p2
     refine ⟨_,k2,hrun.trans ?_⟩
     congr 3
     split<;>simp
   have hmx:=hno hn
   obtain ⟨ab,hab,e6⟩:=get_true e5
   cases ab<;>first | (cases e6;done) | skip
   case bt tb lb=>
    obtain ⟨b1,e7⟩:=br_t e6
    obtain ⟨b2,e8⟩:=br_t e7
    refine ⟨.sl ob off 0 none,fun h' hx' nx' κ'=>?_,fun θ a w w0 pd nx0 hE hR=>?_⟩
    ·simp only [oSlr,hv]
     rw [l1,q1,c1]
     show br nomax _ _=_
     rw [hn]
     show cutR ob off l q size h' nx' κ' = _
     unfold cutR
     rw [get_is (hx' ob _ hab)]
     show br (Nat.beq l 0) _ _=_
     rw [b1,b2,brT,brT]
    ·have hhas:=(hr θ a hE).1
     have b1:=Nat.eq_of_beq_eq_true b1
     have b2:=Nat.eq_of_beq_eq_true b2
     subst b1 b2
     have hX:=(hr θ a hE).sln.1
     have hrun:=run (w:=w) hX (l2.imp id fun ⟨Y,h1,h2⟩=>⟨Y,h1,h2 θ a hE⟩) (q2.imp id fun ⟨Y,h1,h2⟩=>⟨Y,h1,h2 θ a hE⟩) (m:=(θ.siz ob - off) / θ.esz ob) (.inl ⟨hmx,rfl⟩) c1' (Nat.zero_le _) (Nat.le_refl _)
     refine ⟨_,⟨hhas,rfl⟩,hrun.trans ?_⟩
     split
     ·simp [toV]
     ·simp [toV,Addr.add_lit]
   rename_i N es z zl d tt top sh
   obtain ⟨b1,e7⟩:=br_t e6
   obtain ⟨b2,e8⟩:=br_f e7
   obtain ⟨b3,e9⟩:=br_t e8
   rcases br_true e9 with ⟨g1,e10⟩ | ⟨g1,e10⟩
   rotate_left
   ·obtain ⟨hq,e11⟩:=br_t e10
    refine ⟨.xi ob 12 off l,fun h' hx' nx' κ'=>?_,fun θ a w w0 pd nx0 hE hR=>?_⟩
    ·simp only [oSlr,hv]
     rw [l1,q1,c1]
     show br nomax _ _=_
     rw [hn]
     show cutR ob off l q size h' nx' κ' = _
     unfold cutR
     rw [get_is (hx' ob _ hab)]
     show br (Nat.beq es size) _ _=_
     rw [b1,b2,b3,g1,hq,brT,brF,brT,brF,brT]
    ·have hhas:=(hr θ a hE).1
     have b1:=Nat.eq_of_beq_eq_true b1
     have b2:size≠0:=fun h=>by subst h;cases b2
     have b3:off + q * size≤N:=Nat.le_of_ble_eq_true b3
     have hq:=Nat.eq_of_beq_eq_true hq
     subst b1 hq
     obtain ⟨cc,ty,fz,o1,o2,o3,o4,o5,o6⟩:=hR.obj_ hhas hab
     obtain ⟨p1,p2,p3⟩:=o6 b2
     have hX:=(hr θ a hE).sln.1
     rw [p1] at hX
     have hpos:0 < es:=Nat.pos_of_ne_zero b2
     have hcapq:q≤(θ.siz ob - off) / es:=by
      rw [Nat.le_div_iff_mul_le hpos];omega
     have hrun:=run (w:=w) hX (l2.imp id fun ⟨Y,h1,h2⟩=>⟨Y,h1,h2 θ a hE⟩) (q2.imp id fun ⟨Y,h1,h2⟩=>⟨Y,h1,h2 θ a hE⟩) (m:=(θ.siz ob - off) / es) (.inl ⟨hmx,rfl⟩) c1' hcapq (Nat.le_refl _)
     refine ⟨tailV θ ob off q,⟨.inl ⟨rfl,hhas⟩,rfl⟩,hrun.trans ?_⟩
     unfold tailV
     rw [p1,Nat.sub_self]
     split
     ·rfl
     ·simp only [Option.map_some,Addr.add_lit]
   refine ⟨.sl ob (off + l * size) (q - l) none,fun h' hx' nx' κ'=>?_,fun θ a w w0 pd nx0 hE hR=>?_⟩
   ·simp only [oSlr,hv]
    rw [l1,q1,c1]
    show br nomax _ _=_
    rw [hn]
    show cutR ob off l q size h' nx' κ' = _
    unfold cutR
    rw [get_is (hx' ob _ hab)]
    show br (Nat.beq es size) _ _=_
    rw [b1,b2,b3,g1,brT,brF,brT,brT,fnat_eq,fnat_eq];rfl
   ·have hhas:=(hr θ a hE).1
    have b1:=Nat.eq_of_beq_eq_true b1
    have b2:size≠0:=fun h=>by subst h;cases b2
    have b3:off + q * size≤N:=Nat.le_of_ble_eq_true b3
    subst b1
    obtain ⟨cc,ty,fz,o1,o2,o3,o4,o5,o6⟩:=hR.obj_ hhas hab
    obtain ⟨p1,p2,p3⟩:=o6 b2
    have hX:=(hr θ a hE).sln.1
    rw [p1] at hX
    have hpos:0 < es:=Nat.pos_of_ne_zero b2
    have hcapq:q≤(θ.siz ob - off) / es:=by
     rw [Nat.le_div_iff_mul_le hpos];omega
    have hrun:=run (w:=w) hX (l2.imp id fun ⟨Y,h1,h2⟩=>⟨Y,h1,h2 θ a hE⟩) (q2.imp id fun ⟨Y,h1,h2⟩=>⟨Y,h1,h2 θ a hE⟩) (m:=(θ.siz ob - off) / es) (.inl ⟨hmx,rfl⟩) c1' hcapq (Nat.le_refl _)
    have g1:off + (l + 1) * es≤N:=Nat.le_of_ble_eq_true g1
    have hl1:l + 1≤(θ.siz ob - off) / es:=by
     rw [Nat.le_div_iff_mul_le hpos];omega
    refine ⟨_,⟨hhas,rfl⟩,hrun.trans ?_⟩
    rw [if_neg (by omega)]
    simp only [Option.map_some,Addr.add_lit,toV]
    congr 3
    ·show some (Addr.mk _ _ _)=some (Addr.mk _ (θ.bas ob + (off + l * es)) _)
     rw [Nat.add_assoc]
    ·show (θ.siz ob - off) / es - l=(θ.siz ob - (off + l * es)) / θ.esz ob
     rw [p1,Nat.sub_add_eq,Nat.mul_comm l es,Nat.sub_mul_div]
 ·obtain ⟨l,l1,e2,l2⟩:=hl _ _ _ e
  obtain ⟨q,q1,e3,q2⟩:=hh _ _ _ e2
  obtain ⟨m,m1,e4,m2⟩:=hm _ _ _ e3
  obtain ⟨c1,e5⟩:=br_t e4
  obtain ⟨c2,e6⟩:=br_t e5
  obtain ⟨c3,e7⟩:=br_t e6
  refine ⟨.ns,fun h' _ nx' κ'=>?_,fun θ a w w0 pd nx0 hE hR=>?_⟩
  ·simp only [oSlr,hv]
   rw [l1,q1,m1,c1,c2,c3];rfl
  ·have c1:=Nat.eq_of_beq_eq_true c1
   have c2:=Nat.eq_of_beq_eq_true c2
   have c3:=Nat.eq_of_beq_eq_true c3
   subst c1 c2 c3
   have hX:a.eval X = .slice none 0 0:=(hr θ a hE).2
   have hrun:=run (w:=w) hX (l2.imp id fun ⟨Y,h1,h2⟩=>⟨Y,h1,h2 θ a hE⟩) (q2.imp id fun ⟨Y,h1,h2⟩=>⟨Y,h1,h2 θ a hE⟩) (m2.imp id fun ⟨Y,h1,h2⟩=>⟨Y,h1,h2 θ a hE⟩) (Nat.le_refl _) (Nat.le_refl _) (Nat.le_refl _)
   exact ⟨.slice none 0 0,⟨trivial,rfl⟩,hrun⟩
theorem p_s2a {t el:TypeId} {n:Nat} (hx:XOk x X) (hu:P.underlying t=some (.array n el)) (ho:o.op = .sliceToArrayPointer t X):PureOk P o (oS2a x n):=by
 intro en h nx κ e
 obtain ⟨v,hv,hr⟩:=hx en
 simp only [oS2a,hv] at e
 cases v<;>first | (cases e;done) | skip
 rename_i ob off len cap
 obtain ⟨c1,e1⟩:=br_t (show br (Nat.ble n len) _ false=true from e)
 refine ⟨.p ob off,fun h' nx' κ'=>?_,fun θ a w hE=>?_⟩
 ·simp only [oS2a,hv]
  show br (Nat.ble n len) _ false=_
  rw [c1];rfl
 ·obtain ⟨hh,c,hX⟩:=(hr θ a hE).sl
  have c1:¬ (len < n):=Nat.not_lt.2 (Nat.le_of_ble_eq_true c1)
  refine ⟨_,⟨hh,rfl⟩,?_⟩
  simp only [execOp,ho,hX,Instr.arrayAt,Sem.run_bind,run_underlying hu,Result.andThen,if_neg c1,Sem.run_pure]
  rfl
theorem src_tx {θ:Th} (w:World) {l:List AV} (hb:∀ v ∈ l,byOk v) {tx:TypeId} (hk:(∃ e',P.underlying tx=some (.slice e'))∨P.underlying tx=some .string) :
  Oks θ l∧l.all one=true∧Src P 1 tx (.string (txV θ l)) l.length (toVs θ l) w∧∀ n,n≤l.length→(Builtin.firstCells 1 n (.string (txV θ l))).run P w = .ok (toVs θ (l.take (n * 1))).toArray w:=by
 have hval:∀ v ∈ l,toV θ v = .int .u8 (byV θ v).toNat:=fun v hv=>by
  obtain ⟨_,n,hn,h1,h2⟩:=by_ok (θ:=θ) (hb v hv)
  rw [h1,h2,UInt8.toNat_ofNat',Nat.mod_eq_of_lt hn]
 have hcells:toVs θ l=byteCells (txV θ l):=by
  unfold byteCells
  rw [toVs_map]
  simp only [txV,List.toList_toArray,List.map_map]
  apply List.map_congr_left
  intro v hv
  simp [hval v hv]
 refine ⟨Oks_iff.2 fun v hv=>(by_ok (hb v hv)).1,List.all_eq_true.2 fun v hv=>by rcases hb v hv with ⟨_,rfl,_⟩ | ⟨_,rfl,_⟩ | ⟨_,_,_,rfl⟩<;>rfl,?_⟩
 refine ⟨?_,fun n hn=>?_⟩
 rotate_left
 ·simp only [Builtin.firstCells,Sem.run_pure,Nat.mul_one]
  congr 1
  apply Array.ext'
  have hex:((txV θ l).extract 0 n).data.toList=(l.take n).map (byV θ):=by
   rw [ByteArray.data_extract]
   simp [txV,List.extract_eq_take_drop,List.map_take]
  simp only [Array.toList_map,hex,List.map_map,toVs_map,List.toList_toArray]
  apply List.map_congr_left
  intro v hv
  simp [hval v (List.mem_of_mem_take hv)]
 rw [hcells]
 have hsz:=tx_size θ l
 have f1:=firstCells_string (P:=P) (txV θ l) w
 have f2:=firstCells_string (P:=P) (txV θ l) w.drew
 rw [hsz] at f1 f2
 exact ⟨hk,fun w'=>by rw [← hsz];rfl,f1,f2,by rw [byteCells_length,hsz,Nat.mul_one],fun u hu=>by
  obtain ⟨_,_,rfl⟩:=List.mem_map.1 hu
  rfl⟩
theorem src_ok {w0 w:World} {pd:List (Nat × AO)} {θ:Th} {h:H} {nx:Nat} (hR:HR P w0 pd θ h nx w) {b:AV} {u:Value} (hv:VR θ b u) {size:Nat} {κ:List AV→Nat→R} (e:srcK b size h κ=true) {tx:TypeId}
  (hk:(∃ e',P.underlying tx=some (.slice e'))∨P.underlying tx=some .string) :
  ∃ vs m,κ vs m=true∧vs.length=m * size∧Oks θ vs∧vs.all one=true∧Src P size tx u m (toVs θ vs) w∧∀ n,n≤m→(Builtin.firstCells size n u).run P w = .ok (toVs θ (vs.take (n * size))).toArray w:=by
 cases b<;>first | (cases e;done) | skip
 ·rename_i ob off len cap
  have e:fnat (len * size) (fun n=>rdK ob off n h fun vs=>κ vs len)=true:=e
  rw [fnat_eq] at e
  obtain ⟨hh,c,hu⟩:=hv.sl
  subst hu
  obtain ⟨vs,k1,_,k3,k4,k5,k6⟩:=rd_ok hR hh e
  have hc:∀ (w':World),w'.heap=w.heap→∀ j v,(toVs θ vs)[j]? = some v→w'.cell? ((⟨θ.blk ob,θ.bas ob + off,none⟩:Addr).add j)=some v:=fun w' hw' j v hj=>by
   rw [Addr.add_lit]
   have:=k6 j v hj
   unfold World.cell? at this ⊢
   rw [hw'];exact this
  exact ⟨vs,len,k3,k1,k4,k5,⟨hk,fun _=>rfl,run_firstCells_some w size len _ len c _ (by rw [toVs_length];exact k1) (hc w rfl),run_firstCells_some w.drew size len _ len c _ (by rw [toVs_length];exact k1) (hc w.drew rfl),by rw [toVs_length];exact k1,toVs_one k5⟩,fun n hn=>run_firstCells_some w size n _ len c _ (by rw [toVs_length,List.length_take,k1];have:n * size≤len * size:=Nat.mul_le_mul_right _ hn;omega) (fun j v hj=>hc w rfl j v (by rw [toVs_get] at hj ⊢;rw [List.getElem?_take] at hj;split at hj;exact hj;cases hj))⟩
 ·have hu:u = .slice none 0 0:=hv.2
  subst hu
  exact ⟨[],0,e,by simp,trivial,rfl,⟨hk,fun _=>rfl,run_firstCells_none w size 0 0 0,run_firstCells_none w.drew size 0 0 0,by simp [toVs],(fun _ h=>nomatch h)⟩,fun n hn=>by rw [show n=0 by omega];simp [Builtin.firstCells,toVs]⟩
 ·rename_i l
  obtain ⟨h1,e1⟩:=br_t (show br (Nat.beq size 1) _ false=true from e)
  have h1:=Nat.eq_of_beq_eq_true h1
  subst h1
  rw [ofBytes_eq,fnat_eq,lenN_eq] at e1
  obtain ⟨hu,hb⟩:=hv.s
  subst hu
  obtain ⟨k1,k2,k3,k4⟩:=src_tx (P:=P) (θ:=θ) w (bytes_byOk hb) hk
  rw [tx_bytes] at k3 k4
  rw [List.length_map] at k3 k4
  exact ⟨_,l.length,e1,by simp,k1,k2,k3,k4⟩
 ·rename_i l
  obtain ⟨h1,e1⟩:=br_t (show br (Nat.beq size 1) _ false=true from e)
  have h1:=Nat.eq_of_beq_eq_true h1
  subst h1
  rw [fnat_eq,lenN_eq] at e1
  have hu:u = .string (txV θ l):=hv.2
  subst hu
  obtain ⟨k1,k2,k3,k4⟩:=src_tx (P:=P) (θ:=θ) w hv.1 hk
  exact ⟨_,l.length,e1,by simp,k1,k2,k3,k4⟩
theorem srcN_ok {w0 w:World} {pd:List (Nat × AO)} {θ:Th} {h:H} {nx:Nat} (hR:HR P w0 pd θ h nx w) {b:AV} {u:Value} (hv:VR θ b u) {size lim:Nat} {κ:List AV→Nat→R} (e:srcN b size lim h κ=true) {tx:TypeId}
  (hk:(∃ e',P.underlying tx=some (.slice e'))∨P.underlying tx=some .string) :
  ∃ vs m,κ vs m=true∧Oks θ vs∧vs.all one=true∧(∀ w',(Builtin.lenOf u).run P w' = .ok m w')∧∀ n,n≤m→n≤lim→(Builtin.firstCells size n u).run P w = .ok (toVs θ (vs.take (n * size))).toArray w:=by
 have same:srcK b size h κ=true→∃ vs m,κ vs m=true∧Oks θ vs∧vs.all one=true∧(∀ w',(Builtin.lenOf u).run P w' = .ok m w')∧∀ n,n≤m→n≤lim→(Builtin.firstCells size n u).run P w = .ok (toVs θ (vs.take (n * size))).toArray w:=fun e=>by
  obtain ⟨vs,m,k1,k2,k3,k4,k5,k6⟩:=src_ok hR hv e hk
  exact ⟨vs,m,k1,k3,k4,k5.len,fun n hn _=>k6 n hn⟩
 cases b<;>first | exact same e | (cases e;done) | skip
 rename_i ob off len cap
 have e:fnat (min len lim * size) (fun n=>rdK ob off n h fun vs=>κ vs len)=true:=e
 rw [fnat_eq] at e
 obtain ⟨hh,c,hu⟩:=hv.sl
 subst hu
 obtain ⟨vs,k1,_,k3,k4,k5,k6⟩:=rd_ok hR hh e
 refine ⟨vs,len,k3,k4,k5,fun _=>rfl,fun n hn hl=>run_firstCells_some w size n _ len c _ ?_ (fun j v hj=>?_)⟩
 ·rw [toVs_length,List.length_take,k1]
  have:n * size≤min len lim * size:=Nat.mul_le_mul_right _ (by omega)
  omega
 ·rw [Addr.add_lit]
  refine k6 j v ?_
  rw [toVs_get] at hj ⊢
  rw [List.getElem?_take] at hj
  split at hj
  ·exact hj
  ·cases hj
theorem cells_list {Q:Nat→AV→Prop}:∀ n,(∀ i,i < n→∃ v,Q i v)→∃ l:List AV,l.length=n∧∀ i v,l[i]? = some v→Q i v
 | 0,_=>⟨[],rfl,fun i v h=>by simp at h⟩
 | n + 1,h=>by
  obtain ⟨l,h1,h2⟩:=cells_list n fun i hi=>h i (by omega)
  obtain ⟨v,hv⟩:=h n (by omega)
  refine ⟨l ++ [v],by simp [h1],fun i u hi=>?_⟩
  by_cases hl:i < l.length
  ·rw [List.getElem?_append_left hl] at hi;exact h2 i u hi
  ·rw [List.getElem?_append_right (by omega)] at hi
   have:i - l.length=0:=by
    rcases Nat.eq_zero_or_pos (i - l.length) with h | h
    ·exact h
    ·rw [List.getElem?_eq_none (by simp;omega)] at hi;cases hi
   rw [this] at hi
   have:i=n:=by omega
   subst this
   simp at hi;subst hi;exact hv
structure Apd (P:Program) (t tx ty el:TypeId) (u:Value) (m:Nat) (news:List Value) (w:World):Prop where
 room:∀ {i:TypeInfo} {b off sLen sCap:Nat},P.info? el=some i→sLen + m≤sCap→(∀ j,j < news.length→(w.cell? ⟨b,off + sLen * i.size + j,none⟩).isSome=true)→(∀ j,j < news.length→w.frozen? ⟨b,off + sLen * i.size + j,none⟩=false)→
  (Builtin.append_ #[t,tx] ty #[.slice (some ⟨b,off,none⟩) sLen sCap,u]).run P w = .ok (.slice (some ⟨b,off,none⟩) (sLen + m) sCap) (w.setCells b (off + sLen * i.size) news)
 grow:∀ {i:TypeInfo} {z:Value} {base:Option Addr} {sLen sCap:Nat} {olds:List Value},P.info? el=some i→i.zero=some z→(Builtin.firstCells i.size sLen (.slice base sLen sCap)).run P w.drew = .ok olds.toArray w.drew→
  sCap < sLen + m→((sLen + m:Nat):Int)≤9223372036854775807→Builtin.nextslicecap (sLen + m) sCap * i.bytes≤281474976710656→
  (Builtin.append_ #[t,tx] ty #[.slice base sLen sCap,u]).run P w =
    .ok (.slice (some ⟨w.heap.size,0,none⟩) (sLen + m) (grownCap w (sLen + m) sCap el)) (w.drew.alloc (.cells ((olds ++ news).toArray ++ Builtin.zeroCells z.cells (grownCap w (sLen + m) sCap el - (sLen + m))) el))
 nil:m=0→(Builtin.append_ #[t,tx] ty #[.slice none 0 0,u]).run P w = .ok (.slice none 0 0) w
theorem src_apd {t tx ty el:TypeId} {u:Value} {m:Nat} {news:List Value} {w:World} {ti:TypeInfo} (hu:P.underlying t=some (.slice el)) (i1:P.info? el=some ti) (hs:Src P ti.size tx u m news w):Apd P t tx ty el u m news w where
 room:=by
  intro i b off sLen sCap hi hr hc hf
  have:i=ti:=by rw [i1] at hi;injection hi with hi;exact hi.symm
  subst this
  exact run_append_room_src (P:=P) w t tx ty el i hu i1 b off sLen sCap u m news hs hr hc hf
 grow:=by
  intro i z base sLen sCap olds hi hz hold hcap h63 hfit
  have:i=ti:=by rw [i1] at hi;injection hi with hi;exact hi.symm
  subst this
  exact run_append_grow_src (P:=P) w t tx ty el i z hu i1 hz base sLen sCap olds hold u m news hs hcap h63 hfit
 nil:=by
  intro hm
  subst hm
  have hn:news=[]:=List.eq_nil_of_length_eq_zero (by have:=hs.newsLen;omega)
  subst hn
  rcases hs.kind with ⟨e',hk⟩ | hk<;>simp [Builtin.append_,run_underlying hu,run_underlying hk,sizeOf,typeInfo,i1,hs.len,hs.cells]
theorem grow_new {w0 w:World} {pd:List (Nat × AO)} {θ:Th} {h:H} {nx:Nat} (hR:HR P w0 pd θ h nx w) (hn:nx < 2097152) {t tx ty el:TypeId} {size bytes:Nat} {z:List AV} (hu:P.underlying t=some (.slice el)) (hs:sizeT P el=some size) (hb:bytesT P el=some bytes) (hz:zeroT P el=some z) (hzl:z.length=size)
  {base:Option Addr} {sLen sCap m:Nat} {old new:List AV} {u:Value} (hlo:old.length=sLen * size) (hln:new.length=m * size) (hoo:Oks θ old) (hon:Oks θ new) (h1o:old.all one=true) (h1n:new.all one=true)
  (hold:(Builtin.firstCells size sLen (.slice base sLen sCap)).run P w.drew = .ok (toVs θ old).toArray w.drew) (hsrc:Apd P t tx ty el u m (toVs θ new) w) (hcap:sCap < sLen + m)
  (hsize:size≠0) (hneed:sLen + m≤1073741824) (hby:(sLen + m) * bytes≤70368744177664)
  {z':List AV} {zl' d':Nat} {t':L (Option AV) d'} {sh:List Nat} (hsh:∀ x ∈ sh,θ.has x) (hd:(sLen + m) * size≤8 ^ d') (hcell:∀ i,i < (sLen + m) * size→cellO z' zl' d' t' i=(old ++ new)[i]?) :
  ∃ v θ' w',θ.le θ'∧VR θ' (.sl nx 0 (sLen + m) none) v∧HR P w0 pd θ' (setO h nx (.ce ((sLen + m) * size) size z' zl' d' t' true sh)) (nx + 1) w'∧(Builtin.append_ #[t,tx] ty #[.slice base sLen sCap,u]).run P w = .ok v w':=by
 obtain ⟨ti,zv,i1,i2,i3,i4⟩:=zeroT_some hz
 obtain ⟨ti',j1,j2⟩:=sizeT_info hs
 have:ti' = ti:=by rw [i1] at j1;injection j1 with j1;exact j1.symm
 subst this
 obtain ⟨ti'',j3,j4⟩:∃ i,P.info? el=some i∧i.bytes=bytes:=by
  unfold bytesT at hb
  exact Option.map_eq_some_iff.1 hb
 have:ti'' = ti':=by rw [i1] at j3;injection j3 with j3;exact j3.symm
 subst this
 subst j2 j4
 have h63:((sLen + m:Nat):Int)≤9223372036854775807:=by omega
 have hlt:sLen + m≤maxLen:=by unfold maxLen;omega
 have hfit:=growslice_fits (need:=sLen + m) (old:=sCap) (bytes:=ti''.bytes) hcap (by omega)
 have hr:=hsrc.grow i1 i2 hold hcap h63 hfit
 obtain ⟨G,hG⟩:∃ G,G=grownCap w (sLen + m) sCap el:=⟨_,rfl⟩
 have hge:sLen + m≤G:=by rw [hG];exact grownCap_ge w (sLen + m) sCap el
 rw [← hG] at hr
 obtain ⟨c,hc⟩:∃ c,c=(toVs θ old ++ toVs θ new).toArray ++ Builtin.zeroCells zv.cells (G - (sLen + m)):=⟨_,rfl⟩
 rw [← hc] at hr
 have hzs:zv.cells.size=ti''.size:=by rw [(i4 θ).2];simp [hzl]
 have hcs:c.size=G * ti''.size:=by
  rw [hc]
  simp only [Array.size_append,List.size_toArray,List.length_append,toVs_length,hlo,hln,size_zeroCells,hzs,← Nat.add_mul]
  congr 1;omega
 have hpos:0 < ti''.size:=Nat.pos_of_ne_zero hsize
 have hmul:(sLen + m) * ti''.size≤G * ti''.size:=Nat.mul_le_mul_right _ hge
 obtain ⟨k1,k2⟩:=hR.new (w':=w.drew.alloc (.cells c el)) (ob:=.cells c el) rfl ⟨rfl,rfl,rfl⟩ hn (a:=.ce ((sLen + m) * ti''.size) ti''.size z' zl' d' t' true sh) (bs:=0) (sz:=G * ti''.size) (es:=ti''.size) (by
  have hnx:¬ θ.has nx:=fun hx=>Nat.lt_irrefl _ (hR.own nx hx).1
  have hle:=Th.le_put hnx w.heap.size 0 (G * ti''.size) ti''.size
  refine ⟨c,el,(0,0),?_,hd,fun i hi=>?_,(.inl rfl),fun h=>absurd h hsize,fun _=>⟨by simp,by rw [Th.put_siz];exact hmul,by rw [Th.put_bas,Th.put_siz,hcs];omega⟩⟩
  ·rw [Th.put_blk]
   show (w.heap.push _)[w.heap.size]? = _
   simp
  ·have hl:i < (old ++ new).length:=by rw [List.length_append,hlo,hln,← Nat.add_mul];exact hi
   have hm:(old ++ new)[i] ∈ old ++ new:=List.getElem_mem hl
   have hok:Oks θ (old ++ new):=Oks_append.2 ⟨hoo,hon⟩
   have h1:(old ++ new).all one=true:=by rw [List.all_append,h1o,h1n];rfl
   obtain ⟨q1,q2⟩:=mono hle _ (Oks_iff.1 hok _ hm)
   refine ⟨(old ++ new)[i],by rw [hcell i hi];exact List.getElem?_eq_getElem hl,q2,List.all_eq_true.1 h1 _ hm,?_⟩
   rw [Th.put_bas,Nat.zero_add,hc,Array.getElem?_append_left (by simp only [List.size_toArray,List.length_append,toVs_length];rw [← List.length_append];exact hl),List.getElem?_toArray,← toVs_append,toVs_get,List.getElem?_eq_getElem hl,q1]
   rfl) hsh
 refine ⟨_,_,_,k2,⟨Th.put_has ..,?_⟩,k1,hr⟩
 simp only [toV,Th.put_blk,Th.put_bas,Th.put_siz,Th.put_esz,Nat.zero_add,Nat.sub_zero,Nat.mul_div_cancel _ hpos]
theorem fits_true {size need bytes:Nat} {κ:R} (e:fits size need bytes κ=true):size≠0∧need≤1073741824∧need * bytes≤70368744177664∧κ=true:=by
 obtain ⟨h1,e1⟩:=br_f e
 obtain ⟨h2,e2⟩:=br_t e1
 obtain ⟨h3,e3⟩:=br_t e2
 exact ⟨(fun h=>by subst h;cases h1),Nat.le_of_ble_eq_true h2,Nat.le_of_ble_eq_true h3,e3⟩
theorem cell_of_heap {w w':World} (h:w'.heap=w.heap) (a:Addr):w'.cell? a=w.cell? a:=by unfold World.cell?;rw [h]
theorem apn_core {t tx el:TypeId} {size bytes:Nat} {z:List AV} {h:H} {nx:Nat} {κ:K} {w0:World} {pd:List (Nat × AO)} {θ:Th} {a:Act} {w:World} {v:AV} {U Y':Value} {new:List AV} {m:Nat} (hu:P.underlying t=some (.slice el))
  (hs:sizeT P el=some size) (hb:bytesT P el=some bytes) (hz:zeroT P el=some z) (hzl:z.length=size) (hR:HR P w0 pd θ h nx w) (hr:VR θ v U) (e1:apnK v new m size bytes h nx κ=true)
  (hln:new.length=m * size) (hon:Oks θ new) (h1n:new.all one=true) (hsrc:Apd P t tx o.type el Y' m (toVs θ new) w)
  (run:∀ {u w'},(Builtin.append_ #[t,tx] o.type #[U,Y']).run P w = .ok u w'→(execOp a.eval o).run P w = .ok (.value u) w') :
  ∃ v u θ' h' nx' w' n,θ.le θ'∧VR θ' v u∧HR P w0 pd θ' h' nx' w'∧κ v h' nx' = true∧(execOp a.eval o).run P w = .ok n w'∧fin n=some u:=by
 obtain ⟨ti,i1,i2⟩:=sizeT_info hs
 have grow:∀ {base sLen sCap} {old:List AV},U = .slice base sLen sCap→old.length=sLen * size→Oks θ old→old.all one=true→(Builtin.firstCells size sLen (.slice base sLen sCap)).run P w.drew = .ok (toVs θ old).toArray w.drew→
   sCap < sLen + m→growK old new size bytes h nx (sLen + m) κ=true→
   ∃ v u θ' h' nx' w' n,θ.le θ'∧VR θ' v u∧HR P w0 pd θ' h' nx' w'∧κ v h' nx' = true∧(execOp a.eval o).run P w = .ok n w'∧fin n=some u:=by
  intro base sLen sCap old hX hlo hoo h1o hold hcap e
  obtain ⟨f1,f2,f3,e2⟩:=fits_true e
  rw [appK_eq,fnat_eq] at e2
  obtain ⟨hn,e3⟩:=newK_true e2
  have hlen:(old ++ new).length=(sLen + m) * size:=by rw [List.length_append,hlo,hln,Nat.add_mul]
  obtain ⟨v,θ',w',k1,k2,k3,k4⟩:=grow_new (ty:=o.type) hR hn hu hs hb hz hzl hlo hln hoo hon h1o h1n hold hsrc hcap f1 f2 f3 (sh:=[]) (fun x hx=>by cases hx) (z':=old ++ new) (zl':=(sLen + m) * size) (t':=E (deep ((sLen + m) * size))) (deep_ge _)
   (fun i hi=>by rw [cellO_E,Nat.mod_eq_of_lt hi])
  exact ⟨_,v,θ',_,_,w',.value v,k1,k2,k3,e3,run (by rw [hX];exact k4),rfl⟩
 cases v<;>first | (cases e1;done) | skip
 ·rename_i ob off len cap
  have hhas:=hr.1
  cases cap with
  | some cp=>
   have hX:=hr.sls.1
   have e1:(fnat (Nat.add len m) fun need=>br (Nat.ble need cp) (wrK ob (Nat.add off (Nat.mul len size)) new h fun h=>κ (.sl ob off need (some cp)) h nx)
     (rdK ob off (Nat.mul len size) h fun old=>growK old new size bytes h nx need κ))=true:=e1
   rw [fnat_eq] at e1
   rcases br_true e1 with ⟨g1,g2⟩ | ⟨g1,g2⟩
   ·have g1:len + m≤cp:=Nat.le_of_ble_eq_true g1
    obtain ⟨h',k1,k2,k3⟩:=wr_ok hR hhas hon h1n g2
    obtain ⟨cur,ty,fz,f1,f2,f3⟩:=k3
    have hoff:θ.bas ob + (off + len * size)=θ.bas ob + off + len * size:=(Nat.add_assoc ..).symm
    have hrun:=hsrc.room (b:=θ.blk ob) (off:=θ.bas ob + off) (sLen:=len) (sCap:=cp) i1 g1
     (fun j hj=>by
       rw [i2,cell_of_row w _ _ _ _ _ f1,Array.getElem?_eq_getElem (by have:Nat.add off (Nat.mul len size)=off + len * size:=rfl;omega)];rfl)
     (fun j hj=>by
       simp only [World.frozen?,f1];rw [i2];exact f3 _ (by have:Nat.add off (Nat.mul len size)=off + len * size:=rfl;omega))
    rw [i2] at hrun
    rw [← hoff] at hrun
    exact ⟨.sl ob off (len + m) (some cp),.slice (some ⟨θ.blk ob,θ.bas ob + off,none⟩) (len + m) cp,θ,h',nx,w.setCells (θ.blk ob) (θ.bas ob + (off + len * size)) (toVs θ new),.value _,.refl θ,⟨hhas,rfl⟩,k2,k1,run (by rw [hX];exact hrun),rfl⟩
   ·have g1:¬ (len + m≤cp):=fun h=>by
     have:Nat.ble (Nat.add len m) cp=true:=Nat.ble_eq_true_of_le h
     rw [this] at g1;cases g1
    obtain ⟨old,k1,_,k3,k4,k5,k6⟩:=rd_ok hR hhas g2
    refine grow hX k1 k4 k5 ?_ (by omega) k3
    exact run_firstCells_some w.drew size len ⟨θ.blk ob,θ.bas ob + off,none⟩ len cp (toVs θ old) (by rw [toVs_length];exact k1) (fun j u hj=>by
     rw [Addr.add_lit,cell_of_heap (w:=w) (w':=w.drew) rfl];exact k6 j u hj)
  | none=>
   have hX:=hr.sln.1
   have e1:appN ob off len m size bytes new h nx κ=true:=e1
   unfold appN at e1
   rw [fnat_eq] at e1
   obtain ⟨ab,hab,e6⟩:=get_true e1
   cases ab<;>first | (cases e6;done) | skip
   rename_i N es z1 zl d tt top sh
   obtain ⟨b1,e7⟩:=br_t e6
   obtain ⟨b2,e8⟩:=br_f e7
   have b1:=Nat.eq_of_beq_eq_true b1
   have b2:size≠0:=fun h=>by subst h;cases b2
   subst b1
   have hor:=hR.obj_ hhas hab
   obtain ⟨cc,ty,fz,o1,o2,o3,o4,o5,o6⟩:=hor
   obtain ⟨p1,p2,p3⟩:=o6 b2
   rw [p1] at hX
   have hpos:0 < es:=Nat.pos_of_ne_zero b2
   rcases br_true e8 with ⟨g1,g2⟩ | ⟨g1,g2⟩
   ·have g1:off + (len + m) * es≤N:=Nat.le_of_ble_eq_true g1
    obtain ⟨h',k1,k2,k3⟩:=wr_ok hR hhas hon h1n g2
    have hroom:len + m≤(θ.siz ob - off) / es:=by rw [Nat.le_div_iff_mul_le hpos];omega
    have hmul:(len + m) * es=len * es + m * es:=Nat.add_mul ..
    have hoff:θ.bas ob + (off + len * es)=θ.bas ob + off + len * es:=(Nat.add_assoc ..).symm
    have hrun:=hsrc.room (b:=θ.blk ob) (off:=θ.bas ob + off) (sLen:=len) (sCap:=(θ.siz ob - off) / es) i1 hroom
     (fun j hj=>by
       rw [toVs_length,hln] at hj
       rw [i2,cell_of_row w _ _ _ _ _ o1,Array.getElem?_eq_getElem (by omega)];rfl)
     (fun j hj=>by
       rw [toVs_length,hln] at hj
       simp only [World.frozen?,o1];rw [i2];exact o4.free _ (by omega))
    rw [i2] at hrun
    rw [← hoff] at hrun
    exact ⟨.sl ob off (len + m) none,.slice (some ⟨θ.blk ob,θ.bas ob + off,none⟩) (len + m) ((θ.siz ob - off) / es),θ,h',nx,w.setCells (θ.blk ob) (θ.bas ob + (off + len * es)) (toVs θ new),.value _,.refl θ,⟨hhas,by rw [← p1];rfl⟩,k2,k1,run (by rw [hX];exact hrun),rfl⟩
   ·have g1:¬ (off + (len + m) * es≤N):=fun h=>by
     have:Nat.ble (Nat.add off (Nat.mul (Nat.add len m) es)) N=true:=Nat.ble_eq_true_of_le h
     rw [this] at g1;cases g1
    obtain ⟨f1,f2,f3,g3⟩:=fits_true g2
    obtain ⟨g4,g5⟩:=br_t g3
    subst g4
    obtain ⟨g6,g7⟩:=br_t g5
    have g6:off + len * es=N:=Nat.eq_of_beq_eq_true g6
    rw [put_eq,fnat_eq] at g7
    have hmul:(len + m) * es=len * es + m * es:=Nat.add_mul ..
    obtain ⟨old,hl1,hl2⟩:=cells_list (Q:=fun i v=>cellO z1 zl d tt (off + i)=some v∧Ok θ v∧one v=true∧cc[θ.bas ob + (off + i)]? = some (toV θ v)) (len * es) (fun i hi=>o3 (off + i) (by omega))
    have hoo:Oks θ old:=Oks_iff.2 fun v hv=>by obtain ⟨i,hi⟩:=List.getElem?_of_mem hv;exact (hl2 i v hi).2.1
    have h1o:old.all one=true:=List.all_eq_true.2 fun v hv=>by obtain ⟨i,hi⟩:=List.getElem?_of_mem hv;exact (hl2 i v hi).2.2.1
    have hold:(Builtin.firstCells es len (.slice (some ⟨θ.blk ob,θ.bas ob + off,none⟩) len ((θ.siz ob - off) / es))).run P w.drew = .ok (toVs θ old).toArray w.drew:=
     run_firstCells_some w.drew es len ⟨θ.blk ob,θ.bas ob + off,none⟩ len _ (toVs θ old) (by rw [toVs_length];exact hl1) (fun j u hj=>by
      rw [Addr.add_lit,cell_of_heap (w:=w) (w':=w.drew) rfl,cell_of_row w _ _ _ _ _ o1]
      rw [toVs_get] at hj
      obtain ⟨v,q1,rfl⟩:=Option.map_eq_some_iff.1 hj
      rw [Nat.add_assoc];exact (hl2 j v q1).2.2.2)
    have key:∀ {z':List AV} {zl' d':Nat} {t':L (Option AV) d'},(len + m) * es≤8 ^ d'→(∀ i,i < (len + m) * es→cellO z' zl' d' t' i=(old ++ new)[i]?)→nx < 2097152→
      κ (.sl nx 0 (len + m) none) (setO (setO h ob (.ce N es z1 zl d tt false sh)) nx (.ce ((len + m) * es) es z' zl' d' t' true (ob :: sh))) (nx + 1)=true→
      ∃ v u θ' h' nx' w' n,θ.le θ'∧VR θ' v u∧HR P w0 pd θ' h' nx' w'∧κ v h' nx' = true∧(execOp a.eval o).run P w = .ok n w'∧fin n=some u:=by
     intro z' zl' d' t' hd hcell hn hκ
     have hshs:∀ x ∈ ob :: sh,θ.has x:=by
      intro x hx
      rcases List.mem_cons.1 hx with rfl | hx
      ·exact hhas
      ·obtain ⟨_,_,_,b,q1,_,q2⟩:=hR.own ob hhas
       rw [hab] at q1;injection q1 with q1;subst q1;exact q2 x hx
     by_cases hroom:len + m≤(θ.siz ob - off) / es
     ·have hroom':(len + m) * es≤θ.siz ob - off:=by rw [Nat.le_div_iff_mul_le hpos] at hroom;exact hroom
      have hoff:θ.bas ob + (off + len * es)=θ.bas ob + off + len * es:=(Nat.add_assoc ..).symm
      have hrun:=hsrc.room (b:=θ.blk ob) (off:=θ.bas ob + off) (sLen:=len) (sCap:=(θ.siz ob - off) / es) i1 hroom
       (fun j hj=>by
         rw [toVs_length,hln] at hj
         rw [i2,cell_of_row w _ _ _ _ _ o1,Array.getElem?_eq_getElem (by omega)];rfl)
       (fun j hj=>by
         rw [toVs_length,hln] at hj
         simp only [World.frozen?,o1];rw [i2];exact o4.free _ (by omega))
      rw [i2] at hrun
      obtain ⟨c',s1,s2,s3⟩:=setCells_blk (θ.blk ob) ty fz (toVs θ new) (θ.bas ob + off + len * es) w cc o1 (by rw [toVs_length,hln];omega)
      have hnx:¬ θ.has nx:=fun hx=>Nat.lt_irrefl _ (hR.own nx hx).1
      have hle:=Th.le_put hnx (θ.blk ob) (θ.bas ob + off) (θ.siz ob - off) es
      obtain ⟨k1,k2⟩:=HR.grow (w':=w.setCells (θ.blk ob) (θ.bas ob + off + len * es) (toVs θ new)) hR hhas hab hn (setCells_plain _ _ _ _).2 (setCells_plain _ _ _ _).1 (fun b hb=>setCells_other _ _ _ _ b hb)
       (fun c2 ty2 fz2 hc2=>by
         rw [o1] at hc2;injection hc2 with hc2
         injection hc2 with q1 q2 q3
         subst q1 q2 q3
         exact ⟨c',s1,s2,fun i hi=>by rw [s3,if_neg (by omega)]⟩)
       (bs:=θ.bas ob + off) (sz:=θ.siz ob - off) (es':=es) (n':=(len + m) * es) (z':=z') (zl':=zl') (t':=t') (by omega)
       (by
         refine ⟨c',ty,fz,by rw [Th.put_blk];exact s1,hd,fun i hi=>?_,by rw [s2];exact o4,fun h=>absurd h b2,fun _=>⟨by simp,by rw [Th.put_siz];exact hroom',by rw [Th.put_bas,Th.put_siz,s2];omega⟩⟩
         have hl:i < (old ++ new).length:=by rw [List.length_append,hl1,hln,← Nat.add_mul];exact hi
         have hm:(old ++ new)[i] ∈ old ++ new:=List.getElem_mem hl
         have hok:Oks θ (old ++ new):=Oks_append.2 ⟨hoo,hon⟩
         have h1:(old ++ new).all one=true:=by rw [List.all_append,h1o,h1n];rfl
         obtain ⟨q1,q2⟩:=mono hle _ (Oks_iff.1 hok _ hm)
         refine ⟨(old ++ new)[i],by rw [hcell i hi];exact List.getElem?_eq_getElem hl,q2,List.all_eq_true.1 h1 _ hm,?_⟩
         rw [Th.put_bas,s3,q1]
         by_cases hio:i < len * es
         ·rw [if_neg (by omega)]
          have:(old ++ new)[i]? = old[i]?:=List.getElem?_append_left (by omega)
          rw [List.getElem?_eq_getElem hl] at this
          have:=(hl2 i _ this.symm).2.2.2
          rw [← this];congr 1;omega
         ·rw [if_pos (by rw [toVs_length,hln];omega),toVs_get]
          have:(old ++ new)[i]? = new[i - old.length]?:=List.getElem?_append_right (by omega)
          rw [List.getElem?_eq_getElem hl,hl1] at this
          rw [show θ.bas ob + off + i - (θ.bas ob + off + len * es)=i - len * es by omega,← this];rfl)
      refine ⟨.sl nx 0 (len + m) none,_,_,_,_,_,.value _,k2,⟨Th.put_has ..,rfl⟩,k1,hκ,run (by rw [hX];exact hrun),?_⟩
      show some _=some _
      simp only [toV,Th.put_blk,Th.put_bas,Th.put_siz,Th.put_esz,Nat.add_zero,Nat.sub_zero]
     ·obtain ⟨v,θ',w',k1,k2,k3,k4⟩:=grow_new (ty:=o.type) (HR.mark hR hhas hab) hn hu hs hb hz hzl hl1 hln hoo hon h1o h1n hold hsrc (by omega) b2 f2 f3 hshs hd hcell
      exact ⟨_,v,θ',_,_,w',.value v,k1,k2,k3,hκ,run (by rw [hX];exact k4),rfl⟩
    have hmore:∀ {d2:Nat} {t2:L (Option AV) d2},(∀ i,i < N→cellO z1 zl d2 t2 i=cellO z1 zl d tt i)→off=0→(len + m) * es≤8 ^ d2→
      moreK ((len + m) * es) es z1 zl d2 t2 N new ob sh (len + m) (setO h ob (.ce N es z1 zl d tt false sh)) nx κ=true→
      ∃ v u θ' h' nx' w' n,θ.le θ'∧VR θ' v u∧HR P w0 pd θ' h' nx' w'∧κ v h' nx' = true∧(execOp a.eval o).run P w = .ok n w'∧fin n=some u:=by
     intro d2 t2 hsame h0 hle hm
     subst h0
     unfold moreK at hm
     rw [setsT_eq] at hm
     obtain ⟨hn,hκ⟩:=newK_true hm
     refine key (z':=z1) (zl':=zl) (t':=setsF d2 new N t2) hle (fun i hi=>?_) hn hκ
     rw [cellO_setsF (by rw [hln];omega) (by omega)]
     by_cases hiN:i < N
     ·rw [if_neg (by omega),hsame i hiN,List.getElem?_append_left (by omega)]
      have hlt:i < old.length:=by omega
      have:=(hl2 i _ (List.getElem?_eq_getElem hlt)).1
      rw [Nat.zero_add] at this
      rw [this,List.getElem?_eq_getElem hlt]
     ·rw [if_pos (by rw [hln];omega),List.getElem?_append_right (by omega),hl1]
      congr 1;omega
    have hlist:(cellsT z1 zl d tt (len * es) off fun old=>appK AV old new fun l=>newK (.ce ((len + m) * es) es l ((len + m) * es) (deep ((len + m) * es)) (E (deep ((len + m) * es))) true (ob :: sh)) (setO h ob (.ce N es z1 zl d tt false sh)) nx fun o h nx=>κ (.sl o 0 (len + m) none) h nx)=true→
      ∃ v u θ' h' nx' w' n,θ.le θ'∧VR θ' v u∧HR P w0 pd θ' h' nx' w'∧κ v h' nx' = true∧(execOp a.eval o).run P w = .ok n w'∧fin n=some u:=by
     intro hc
     obtain ⟨vs,q1,q2,q3⟩:=cellsT_true hc
     have hvs:vs=old:=by
      apply List.ext_getElem?
      intro i
      by_cases hi:i < len * es
      ·have h1:=q2 i _ (List.getElem?_eq_getElem (by rw [q1];exact hi))
       have h2:=(hl2 i _ (List.getElem?_eq_getElem (by rw [hl1];exact hi))).1
       rw [h1] at h2
       rw [List.getElem?_eq_getElem (by rw [q1];exact hi),List.getElem?_eq_getElem (by rw [hl1];exact hi)]
       exact h2
      ·rw [List.getElem?_eq_none (by omega),List.getElem?_eq_none (by omega)]
     rw [q3,hvs,appK_eq] at hc
     obtain ⟨hn,hκ⟩:=newK_true hc
     exact key (z':=old ++ new) (zl':=(len + m) * es) (t':=E (deep ((len + m) * es))) (deep_ge _) (fun i hi=>by rw [cellO_E,Nat.mod_eq_of_lt hi]) hn hκ
    cases off with
    | succ off=>exact hlist g7
    | zero=>
     rcases br_true g7 with ⟨r1,r2⟩ | ⟨r1,r2⟩
     ·exact hmore (fun i hi=>rfl) rfl (Nat.le_of_ble_eq_true r1) r2
     ·rcases br_true r2 with ⟨r3,r4⟩ | ⟨r3,r4⟩
      rotate_left
      ·exact hlist r4
      refine hmore (d2:=d + 1) (t2:=deepr d tt) (fun i hi=>?_) rfl (Nat.le_of_ble_eq_true r3) r4
      have hi8:i < 8 ^ d:=by omega
      unfold cellO
      have:getL (Option AV) (d + 1) i (deepr d tt)=getL (Option AV) d i tt:=by
       show getL (Option AV) d (i % 8 ^ d) (ch (i / 8 ^ d) _)=_
       rw [Nat.div_eq_of_lt hi8,Nat.mod_eq_of_lt hi8]
       rfl
      rw [this]
 ·have hX:U = .slice none 0 0:=hr.2
  cases m with
  | zero=>
   have hnn:new=[]:=List.eq_nil_of_length_eq_zero (by omega)
   subst hnn
   refine ⟨.ns,.slice none 0 0,θ,h,nx,w,.value _,.refl θ,⟨trivial,rfl⟩,hR,e1,run ?_,rfl⟩
   rw [hX]
   exact hsrc.nil rfl
  | succ m=>
   have e1:growK [] new size bytes h nx (m + 1) κ=true:=e1
   have:=grow (base:=none) (sLen:=0) (sCap:=0) (old:=[]) hX (by simp) trivial rfl (run_firstCells_none w.drew size 0 0 0) (by omega) (by rw [Nat.zero_add];exact e1)
   exact this
theorem a_apn {t tx el:TypeId} {size bytes:Nat} {z:List AV} {c:Call} (hx:XOk x X) (hy:XOk y Y) (hu:P.underlying t=some (.slice el)) (hk:(∃ e',P.underlying tx=some (.slice e'))∨P.underlying tx=some .string)
  (hs:sizeT P el=some size) (hb:bytesT P el=some bytes) (hz:zeroT P el=some z) (hzl:z.length=size) (hc:c.callee = .builtin .append) (ha:c.args.toList=[X,Y]) (ht:c.argTypes.toList=[t,tx]) (ho:o.op = .call c):OpOk P o (oApn x y size bytes):=by
 intro en h nx κ w0 pd θ a w hE hR e
 obtain ⟨v,hv,hr⟩:=hx en
 obtain ⟨v2,hv2,hr2⟩:=hy en
 simp only [oApn,hv,hv2] at e
 obtain ⟨new,m,e1,hln,hon,h1n,hsrc,_⟩:=src_ok hR (hr2 θ a hE) e hk
 obtain ⟨ti,i1,i2⟩:=sizeT_info hs
 have run:∀ {u w'},(Builtin.append_ #[t,tx] o.type #[a.eval X,a.eval Y]).run P w = .ok u w'→(execOp a.eval o).run P w = .ok (.value u) w':=by
  intro u w' hw
  obtain ⟨ca,cargs,ct⟩:=c
  have ha':cargs = #[X,Y]:=by cases cargs;simp_all
  have ht':ct = #[t,tx]:=by cases ct;simp_all
  simp only at hc
  subst ha' ht' hc
  simp only [execOp,ho,resolve,invoke,builtin,Sem.run_bind,Sem.run_pure,Result.andThen,List.map_toArray,List.map_cons,List.map_nil,hw]
 subst i2
 exact apn_core hu hs hb hz hzl hR (hr θ a hE) e1 hln hon h1n (src_apd hu i1 hsrc) run
theorem repK_eq {z:List AV}:∀ (n:Nat) (κ:List AV→R),repK z n κ=κ (rep n z)
 | 0,_=>rfl
 | n + 1,κ=>by
  have:repK z (n + 1) κ=repK z n fun l=>appK AV z l κ:=rfl
  rw [this,repK_eq n,appK_eq]
  rfl
theorem zeros_apd {t tx ty el:TypeId} {k kk:IntKind} {m:Nat} {z:List AV} {θ:Th} {w:World} {ti:TypeInfo} {zv:Value} (hu:P.underlying t=some (.slice el)) (hk:P.underlying tx=some (.int k)) (i1:P.info? el=some ti) (i2:ti.zero=some zv) (i3:z.all one=true)
  (i4:zv.cells=(toVs θ z).toArray) (hzl:z.length=ti.size) (hm:m≤1073741824) (hb:m * ti.bytes≤70368744177664):Apd P t tx ty el (.int kk (m:Int)) m (toVs θ (rep m z)) w:=by
 have hw:IntKind.i64.wrap (m:Int)=m:=wrap_nat (k:=3) (show m < 9223372036854775808 by omega)
 have h0:¬ ((m:Int) < 0):=by omega
 have h48:¬ (281474976710656 < (m:Int) * (ti.bytes:Int)):=by
  rw [← Int.natCast_mul];omega
 have hz0:Builtin.zeroCells zv.cells m=(toVs θ (rep m z)).toArray:=by
  have hsz:zv.cells.size=z.length:=by rw [i4];simp
  have e:m * zv.cells.size=m * z.length:=by rw [hsz]
  unfold Builtin.zeroCells
  rw [e]
  exact zeros_eq i4 m
 have hlen:(toVs θ (rep m z)).length=m * ti.size:=by rw [toVs_length,rep_length,hzl]
 have hone:=toVs_one (θ:=θ) (rep_all i3 m)
 have hnil:m * ti.size=0→toVs θ (rep m z)=[]:=fun h=>List.eq_nil_of_length_eq_zero (by omega)
 refine ⟨?_,?_,?_⟩
 ·intro i b off sLen sCap hi hroom hc hf
  have:i=ti:=by rw [i1] at hi;injection hi with hi;exact hi.symm
  subst this
  have hst:=run_storeCells_cells (P:=P) b (off + sLen * i.size) (toVs θ (rep m z)) 0 w (by simpa using hc) (by simpa using hf) hone
  simp only [Nat.add_zero] at hst
  by_cases h2:m * i.size=0
  ·rw [hnil h2] at hst ⊢
   simp [Builtin.append_,run_underlying hu,run_underlying hk,sizeOf,typeInfo,i1,asInt,asIntOf,hw,h0,h48,hroom,h2,Addr.add_lit,hst]
  ·simp [Builtin.append_,run_underlying hu,run_underlying hk,sizeOf,typeInfo,zeroValue,i1,i2,asInt,asIntOf,hw,h0,h48,hroom,h2,Addr.add_lit,hz0,hst]
 ·intro i z2 base sLen sCap olds hi hz2 hold hcap h63 hfit
  have:i=ti:=by rw [i1] at hi;injection hi with hi;exact hi.symm
  subst this
  have:z2=zv:=by rw [i2] at hz2;injection hz2 with hz2;exact hz2.symm
  subst this
  have hn:¬ (sLen + m≤sCap):=by omega
  have h63':¬ (9223372036854775807 < ((sLen:Int) + (m:Int))):=by omega
  have h48':¬ (281474976710656 < Builtin.nextslicecap (sLen + m) sCap * i.bytes):=by omega
  by_cases h2:m * i.size=0
  ·rw [hnil h2]
   simp [Builtin.append_,run_underlying hu,run_underlying hk,sizeOf,typeInfo,zeroValue,i1,i2,asInt,asIntOf,hw,h0,h48,hn,h63',h48',h2,Question.forced,hold,newRow,grownCap]
  ·simp [Builtin.append_,run_underlying hu,run_underlying hk,sizeOf,typeInfo,zeroValue,i1,i2,asInt,asIntOf,hw,h0,h48,hn,h63',h48',h2,Question.forced,hold,newRow,grownCap,hz0]
   congr 2
   apply Array.ext'
   simp [List.append_assoc]
 ·intro hm0
  subst hm0
  have hw0:IntKind.i64.wrap 0=0:=hw
  simp [hw0,Builtin.append_,run_underlying hu,run_underlying hk,sizeOf,typeInfo,i1,asInt,asIntOf,hw]
theorem a_apz {t tx el:TypeId} {size bytes:Nat} {z:List AV} {c:Call} {k:IntKind} (hx:XOk x X) (hy:XOk y Y) (hu:P.underlying t=some (.slice el)) (hk:P.underlying tx=some (.int k))
  (hs:sizeT P el=some size) (hb:bytesT P el=some bytes) (hz:zeroT P el=some z) (hzl:z.length=size) (hc:c.callee = .builtin .append) (ha:c.args.toList=[X,Y]) (ht:c.argTypes.toList=[t,tx]) (ho:o.op = .call c):OpOk P o (oApz x y size bytes z):=by
 intro en h nx κ w0 pd θ a w hE hR e
 obtain ⟨v,hv,hr⟩:=hx en
 obtain ⟨v2,hv2,hr2⟩:=hy en
 simp only [oApz,hv,hv2] at e
 obtain ⟨kk,m,rfl,e1⟩:=asN_true e
 obtain ⟨g1,e2⟩:=br_t e1
 obtain ⟨g2,e3⟩:=br_t e2
 rw [repK_eq] at e3
 have g1:m≤1073741824:=Nat.le_of_ble_eq_true g1
 have g2:m * bytes≤70368744177664:=Nat.le_of_ble_eq_true g2
 have hY:a.eval Y = .int (kindOf kk) (m:Int):=(hr2 θ a hE).2
 obtain ⟨ti,zv,i1,i2,i3,i4⟩:=zeroT_some hz
 obtain ⟨ti',j1,j2⟩:=sizeT_info hs
 have:ti' = ti:=by rw [i1] at j1;injection j1 with j1;exact j1.symm
 subst this
 obtain ⟨ti'',j3,j4⟩:∃ i,P.info? el=some i∧i.bytes=bytes:=by
  unfold bytesT at hb
  exact Option.map_eq_some_iff.1 hb
 have:ti'' = ti':=by rw [i1] at j3;injection j3 with j3;exact j3.symm
 subst this
 have hap:=zeros_apd (ty:=o.type) (kk:=kindOf kk) (θ:=θ) (w:=w) hu hk i1 i2 i3 (i4 θ).2 (by rw [hzl,j2]) g1 (by rw [j4];exact g2)
 rw [← hY] at hap
 have hln:(rep m z).length=m * size:=by rw [rep_length,hzl]
 have run:∀ {u w'},(Builtin.append_ #[t,tx] o.type #[a.eval X,a.eval Y]).run P w = .ok u w'→(execOp a.eval o).run P w = .ok (.value u) w':=by
  intro u w' hw
  obtain ⟨ca,cargs,ct⟩:=c
  have ha':cargs = #[X,Y]:=by cases cargs;simp_all
  have ht':ct = #[t,tx]:=by cases ct;simp_all
  simp only at hc
  subst ha' ht' hc
  simp only [execOp,ho,resolve,invoke,builtin,Sem.run_bind,Sem.run_pure,Result.andThen,List.map_toArray,List.map_cons,List.map_nil,hw]
 exact apn_core hu hs hb hz hzl hR (hr θ a hE) e3 hln (rep_oks (i4 θ).1 m) (rep_all i3 m) hap run
theorem a_cpy {t el:TypeId} {size:Nat} {c:Call} (hx:XOk x X) (hy:XOk y Y) (hu:P.underlying t=some (.slice el)) (hs:sizeT P el=some size) (hc:c.callee = .builtin .copy) (ha:c.args.toList=[X,Y]) (ht:∃ r,c.argTypes.toList=t :: r) (ho:o.op = .call c)
  (hk:∃ tx,(∃ e',P.underlying tx=some (.slice e'))∨P.underlying tx=some .string):OpOk P o (oCpy x y size):=by
 intro en h nx κ w0 pd θ a w hE hR e
 obtain ⟨v,hv,hr⟩:=hx en
 obtain ⟨v2,hv2,hr2⟩:=hy en
 simp only [oCpy,hv,hv2] at e
 obtain ⟨tx,hk⟩:=hk
 have run:∀ {u w'},(∀ ct:Array TypeId,ct[0]? = some t→(Builtin.copy_ ct o.type #[a.eval X,a.eval Y]).run P w = .ok u w')→(execOp a.eval o).run P w = .ok (.value u) w':=by
  intro u w' hw
  obtain ⟨ca,cargs,ct⟩:=c
  have ha':cargs = #[X,Y]:=by cases cargs;simp_all
  obtain ⟨r,ht⟩:=ht
  have ht':ct[0]? = some t:=by rw [← Array.getElem?_toList,ht];rfl
  simp only at hc
  subst ha' hc
  simp only [execOp,ho,resolve,invoke,builtin,Sem.run_bind,Sem.run_pure,Result.andThen,List.map_toArray,List.map_cons,List.map_nil,hw ct ht']
 cases v<;>first | (cases e;done) | skip
 ·rename_i ob off len cap
  obtain ⟨new,m,e1,hon,h1n,hlen,first⟩:=srcN_ok hR (hr2 θ a hE) (show srcN v2 size len h _=true from e) hk
  have e1:fnat (Nat.min m len) (fun n=>takeK AV (Nat.mul n size) new fun new=>wrK ob off new h fun h=>κ (.i 3 (.ofNat n)) h nx)=true:=e1
  rw [fnat_eq,takeK_eq] at e1
  split at e1
  ·rename_i hle
   have hhas:=(hr θ a hE).1
   obtain ⟨_,cc,hX⟩:=(hr θ a hE).sl
   obtain ⟨h',k1,k2,k3⟩:=wr_ok hR hhas (Oks_take _ hon) (all_take _ h1n) e1
   have hst:=k3.store (toVs_one (all_take _ h1n)) P
   refine ⟨.i 3 (.ofNat (min m len)),goInt (min m len:Nat),θ,h',nx,_,.value _,.refl θ,⟨trivial,rfl⟩,k2,k1,run fun ct hct=>?_,rfl⟩
   have hf:=first (min m len) (Nat.min_le_left _ _) (Nat.min_le_right _ _)
   simp only [Builtin.copy_,hct,hX,List.getElem?_toArray,List.getElem?_cons_zero,List.getElem?_cons_succ,Sem.run_bind,run_underlying hu,Result.andThen,hlen,run_size hs]
   rw [show Nat.min m len=min m len from rfl,hf]
   simp only [Sem.run_bind,Result.andThen]
   rw [show (storeCells (⟨θ.blk ob,θ.bas ob + off,none⟩:Addr) (toVs θ (new.take (min m len * size))).toArray.toList).run P w=_ from hst]
   rfl
  ·cases e1
 ·have hX:a.eval X = .slice none 0 0:=(hr θ a hE).2
  obtain ⟨new,m,e1,hon,h1n,hlen,first⟩:=srcN_ok hR (hr2 θ a hE) (show srcN v2 size 0 h _=true from e) hk
  refine ⟨.i 3 (.ofNat 0),goInt (0:Nat),θ,h,nx,w,.value _,.refl θ,⟨trivial,rfl⟩,hR,e1,run fun ct hct=>?_,rfl⟩
  have hf:=first 0 (Nat.zero_le _) (Nat.zero_le _)
  simp only [Builtin.copy_,hct,hX,List.getElem?_toArray,List.getElem?_cons_zero,List.getElem?_cons_succ,Sem.run_bind,run_underlying hu,Result.andThen,hlen,run_size hs]
  rw [show Nat.min m 0=0 from Nat.min_zero m,hf]
  rfl
end
end Go.AM

namespace Go.AM
open Go
section
variable {P:Program} {w0 w w':World} {pd:List (Nat × AO)} {θ:Th} {h:H} {nx:Nat}
theorem HR.newAt (hr:HR P w0 pd θ h nx w) {o:Nat} (ho:θ.has o) (hno:∀ q b,θ.has q→obj h q=some b→b.live=true→θ.blk q≠θ.blk o) (hn:nx < 2097152)
  {a:AO} {bs sz es:Nat} (ha:OR P (θ.put nx (θ.blk o) bs sz es) w nx a) (hsh:a.sh=[]) :
  HR P w0 pd (θ.put nx (θ.blk o) bs sz es) (setO h nx a) (nx + 1) w∧θ.le (θ.put nx (θ.blk o) bs sz es):=by
 have hnx:¬ θ.has nx:=fun hx=>Nat.lt_irrefl _ (hr.own nx hx).1
 have hle:=Th.le_put hnx (θ.blk o) bs sz es
 have hob:∀ o,θ.has o→obj (setO h nx a) o=obj h o:=fun o ho=>obj_set_ne h a hn (hr.lt32 ho) (fun e=>hnx (e ▸ ho))
 have hx:∀ (c:AO) (p:Nat),θ.has p→c.ext (θ.put nx (θ.blk o) bs sz es) p=c.ext θ p:=fun c p hp=>by cases c<;>simp only [AO.ext,hle.bas p hp]
 refine ⟨⟨by omega,?_,?_,hr.size,hr.kept,hr.plain,?_,hr.nodup,hr.fresh.set (by omega) (by omega) hn,hr.glo⟩,hle⟩
 ·intro p hp
  by_cases e:p=nx
  ·subst e
   obtain ⟨_,a2,a3,_⟩:=hr.own o ho
   exact ⟨by omega,by rw [Th.put_blk];exact a2,by rw [Th.put_blk];exact a3,a,obj_set _ _ _,ha,fun x hx=>by rw [hsh] at hx;cases hx⟩
  ·have hp':θ.has p:=hp.resolve_left e
   obtain ⟨a1,a2,a3,b,a4,a5,a6⟩:=hr.own p hp'
   exact ⟨by omega,by rw [hle.blk p hp'];exact a2,by rw [hle.blk p hp'];exact a3,b,by rw [hob p hp'];exact a4,a5.mono hle hp' rfl,fun x hx=>hle.has x (a6 x hx)⟩
 ·intro p q b b' hne hp hq hb hb' hw hl heq
  have hbl:b.live=true:=by cases b<;>first | rfl | simp [AO.wr] at hw
  by_cases e:p=nx
  ·subst e
   have hq':θ.has q:=hq.resolve_left (Ne.symm hne)
   rw [hob q hq'] at hb'
   rw [Th.put_blk,hle.blk q hq'] at heq
   exact absurd heq.symm (hno q b' hq' hb' hl)
  ·have hp':θ.has p:=hp.resolve_left e
   rw [hob p hp'] at hb
   by_cases e':q=nx
   ·subst e'
    rw [Th.put_blk,hle.blk p hp'] at heq
    exact absurd heq (hno p b hp' hb hbl)
   ·have hq':θ.has q:=hq.resolve_left e'
    rw [hob q hq'] at hb'
    rw [hle.blk p hp',hle.blk q hq'] at heq
    rw [hx b' q hq',hx b p hp']
    exact hr.apart p q b b' hne hp' hq' hb hb' hw hl heq
 ·intro p b hb
  obtain ⟨p1,p2,p3⟩:=hr.pend p b hb
  exact ⟨fun hx=>hx.elim (fun e=>by omega) p1,by omega,by rw [obj_set_ne h a hn (Nat.lt_of_lt_of_le p2 hr.lim) (by omega)];exact p3⟩
theorem HR.drop (hr:HR P w0 pd θ h nx w) {o:Nat} {a:AO} (ho:θ.has o) (ha:obj h o=some a) (hw:a.wr=true) (hs:a.sh=[]) (hsz:w'.heap.size=w.heap.size)
  (hh:∀ b,b≠θ.blk o→w'.heap[b]? = w.heap[b]?) (hp:w'.os=w.os∧w'.tape=w.tape∧w'.output=w.output) :
  HR P w0 pd θ (setO h o .dead) nx w'∧∀ q b,θ.has q→obj (setO h o .dead) q=some b→b.live=true→θ.blk q≠θ.blk o:=by
 have k:=HR.upd (a':=.dead) hr ho ha hw hsz hh hp trivial (fun x hx=>by cases hx)
 rw [hs] at k
 refine ⟨k,fun q b hq hb hl he=>?_⟩
 by_cases e:q=o
 ·subst e
  rw [obj_set] at hb;injection hb with hb;subst hb;cases hl
 ·rw [obj_set_ne _ _ (hr.lt32 ho) (hr.lt32 hq) e] at hb
  have:=(hr.apart o q a b (Ne.symm e) ho hq ha hb hw hl he.symm).1
  rw [hs] at this;cases this
end
end Go.AM

namespace Go.AM
open Go
section
variable {P:Program} {o:Oper} {x y z:XF} {X Y Z:Operand}
theorem rd1_blk {w0 w:World} {pd:List (Nat × AO)} {θ:Th} {h:H} {nx:Nat} (hR:HR P w0 pd θ h nx w) {ob off:Nat} {κ:AV→R} (hh:θ.has ob) (e:rd1 ob off h κ=true) :
  ∃ c ty fz,w.heap[θ.blk ob]? = some (.cells c ty fz)∧θ.bas ob + off < c.size∧w.frozen? ⟨θ.blk ob,θ.bas ob + off,none⟩=false:=by
 obtain ⟨v,_,_,_,_,hc⟩:=rd1_ok hR hh e
 obtain ⟨a,ha,e1⟩:=get_true e
 have hor:=hR.obj_ hh ha
 cases a with
 | sm l=>
  obtain ⟨ty,h1,h2,h3,h4⟩:=hor
  refine ⟨_,_,_,h1,?_,by simp [World.frozen?,h1]⟩
  rw [cell_of_row w _ _ _ _ _ h1] at hc
  exact (Array.getElem?_eq_some_iff.1 hc).1
 | st t0 l=>
  obtain ⟨h1,h2,h3,h4⟩:=hor
  refine ⟨_,_,_,h1,?_,by simp [World.frozen?,h1]⟩
  rw [cell_of_row w _ _ _ _ _ h1] at hc
  exact (Array.getElem?_eq_some_iff.1 hc).1
 | bt t0 l=>cases e1
 | ce N es zz zl d t top sh=>
  obtain ⟨c,ty,fz,h1,h2,h3,h4,h5,h6⟩:=hor
  rw [cell_of_row w _ _ _ _ _ h1] at hc
  have hlt:=(Array.getElem?_eq_some_iff.1 hc).1
  exact ⟨_,_,_,h1,hlt,by simp only [World.frozen?,h1];exact h4.free _ hlt⟩
 | mp es c=>cases e1
 | it m s1 s2 s3=>cases e1
 | lp a1 b1 c1 d1 e1 f1=>cases e1
 | df b=>cases e1
 | dead=>cases e1
theorem a_uptr {s d el:TypeId} {n:Nat} (hx:XOk x X) (hs:P.underlying s=some (.pointer el)) (hd:P.underlying d=some .unsafePointer) (hsz:sizeT P el=some n) (hn:n≠0) (ho:o.op = .convert s d X):OpOk P o (oUptr x):=by
 intro en h nx κ w0 pd θ a w hE hR e
 obtain ⟨v,hv,hr⟩:=hx en
 simp only [oUptr,hv] at e
 have conv:∀ u:Value,(∃ p,u = .pointer p)→(convert s d u).run P w=(Conv.unsafePointer s d u).run P w:=by
  rintro u ⟨p,rfl⟩
  simp only [convert,Sem.run_bind,run_underlying hs,run_underlying hd,Result.andThen]
 cases v<;>first | (cases e;done) | skip
 ·rename_i ob off
  obtain ⟨hX,hh⟩:=(hr θ a hE).p
  obtain ⟨c,ty,fz,b1,b2,_⟩:=rd1_blk hR hh e
  obtain ⟨_,_,k1,_⟩:=rd1_ok hR hh e
  refine ⟨.p ob off,.pointer (some ⟨θ.blk ob,θ.bas ob + off,none⟩),θ,h,nx,w,.value _,.refl θ,⟨hh,rfl⟩,hR,k1,?_,rfl⟩
  have hshape:w.shape? (θ.blk ob)=some (ty,c.size):=by simp [World.shape?,b1]
  have hnot:¬ (c.size≤θ.bas ob + off):=by omega
  have hrun:(Conv.unsafePointer s d (.pointer (some ⟨θ.blk ob,θ.bas ob + off,none⟩))).run P w = .ok (.pointer (some ⟨θ.blk ob,θ.bas ob + off,none⟩)) w:=by
   simp [Conv.unsafePointer,run_underlying hs,run_underlying hd,Conv.seenAt,viewAt,shape,Sem.run,hshape,cellsIn,run_size hsz,hn,hnot]
  simp [execOp,ho,hX,conv _ ⟨_,rfl⟩,hrun]
 ·have hX:a.eval X = .pointer none:=(hr θ a hE).2
  refine ⟨.np,.pointer none,θ,h,nx,w,.value _,.refl θ,⟨trivial,rfl⟩,hR,e,?_,rfl⟩
  simp [execOp,ho,hX,conv _ ⟨_,rfl⟩,Conv.unsafePointer,run_underlying hs,run_underlying hd]
theorem sole_true {ob:Nat} {h:H} {κ:R} (e:sole ob h κ=true):κ=true∧∃ a,obj h ob=some a∧a.wr=true∧a.live=true∧a.sh=[]∧∀ {w0 w:World} {θ:Th},OR P θ w ob a→∃ c ty,w.heap[θ.blk ob]? = some (.cells c ty (0,0)):=by
 obtain ⟨a,ha,e1⟩:=get_true e
 cases a with
 | sm l=>
  cases l with
  | nil=>cases e1
  | cons v l=>exact ⟨e1,_,ha,rfl,rfl,rfl,fun {_ _ _} ⟨ty,h1,_⟩=>⟨_,ty,h1⟩⟩
 | st t0 l=>cases e1
 | bt t0 l=>cases e1
 | ce N es zz zl d t top sh=>
  obtain ⟨h1,e2⟩:=br_t e1
  obtain ⟨h2,e3⟩:=br_t e2
  obtain ⟨h3,e4⟩:=br_t e3
  cases sh with
  | cons x r=>cases e4
  | nil=>
   have h1:=Nat.eq_of_beq_eq_true h1
   subst h1 h2
   have h3:0 < zl:=by simpa [Nat.blt_eq] using h3
   exact ⟨e4,_,ha,rfl,rfl,rfl,fun {_ _ _} ⟨c,ty,fz,k1,_,_,_,k5,_⟩=>⟨c,ty,by rw [(k5 rfl).2.2 (by omega)] at k1;exact k1⟩⟩
 | mp es c=>cases e1
 | it m s1 s2 s3=>cases e1
 | lp a1 b1 c1 d1 e1 f1=>cases e1
 | df b=>cases e1
 | dead=>cases e1
def tcOk (P:Program) (t:TypeId) (X Y:Operand):Nat→Prop
 | 0=>∃ e n,P.underlying t=some (.pointer e)∧sizeT P e=some n∧n≠0
 | 1=>∃ e,P.underlying t=some (.slice e)
 | 2=>∃ k e,P.underlying t=some (.map k e)
 | 3=>∃ a b c,P.underlying t=some (.func a b c)
 | 4=>(∃ ms,P.underlying t=some (.interface ms))∧(isC X=true∨isC Y=true)
 | _=>False
theorem a_eqn {neg:Bool} {tc:Nat} {t t2:TypeId} (hx:XOk x X) (hy:XOk y Y) (htc:tcOk P t X Y tc) (ho:o.op = .binOp (if neg then .neq else .eql) t X Y t2):OpOk P o (oEqn neg tc x y):=by
 intro en h nx κ w0 pd θ a w hE hR e
 obtain ⟨v,hv,hr⟩:=hx en
 obtain ⟨v2,hv2,hr2⟩:=hy en
 simp only [oEqn,hv,hv2] at e
 have done:∀ c:Bool,kB κ h nx (eqB neg (not' c))=true→(eqGuard (if neg then .neq else .eql) t X Y (a.eval X) (a.eval Y)).run P w = .ok () w→
   (Op.equal t (a.eval X) (a.eval Y)).run P w = .ok c w→(∀ op,(op = .eql∨op = .neq)→binOp op t (a.eval X) (a.eval Y)=(match op with | .eql=>(do pure (.bool (← Op.equal t (a.eval X) (a.eval Y))):Sem Value) | _=>do pure (.bool (!(← Op.equal t (a.eval X) (a.eval Y))))))→
   ∃ v u θ' h' nx' w' n,θ.le θ'∧VR θ' v u∧HR P w0 pd θ' h' nx' w'∧κ v h' nx' = true∧(execOp a.eval o).run P w = .ok n w'∧fin n=some u:=by
  intro c hκ hg heq hop
  rw [kB_eq,negc_eq] at hκ
  refine ⟨.b (if neg then !c else c),.bool (if neg then !c else c),θ,h,nx,w,.value _,.refl θ,⟨trivial,rfl⟩,hR,hκ,?_,rfl⟩
  refine bin_run ho rfl rfl hg ?_
  cases neg
  ·show (binOp .eql t _ _).run P w=_
   rw [hop .eql (.inl rfl)]
   simp only [Sem.run_bind,heq,Result.andThen,Sem.run_pure]
   rfl
  ·show (binOp .neq t _ _).run P w=_
   rw [hop .neq (.inr rfl)]
   simp only [Sem.run_bind,heq,Result.andThen,Sem.run_pure]
   rfl
 have hR1:=hr θ a hE
 have hR2:=hr2 θ a hE
 match tc,htc with
 | 0,⟨el,n,hu,hsz,hn⟩=>
  cases v<;>first | (cases e;done) | skip
  ·rename_i ob off
   obtain ⟨hX,hh⟩:=hR1.p
   cases v2<;>first | (cases e;done) | skip
   ·rename_i ob2 off2
    obtain ⟨hY,hh2⟩:=hR2.p
    rw [hX,hY] at done
    have eqn:∀ c:Bool,(sameAddr ⟨θ.blk ob,θ.bas ob + off,none⟩ ⟨θ.blk ob2,θ.bas ob2 + off2,none⟩).run P w = .ok c w→(Op.equal t (.pointer (some ⟨θ.blk ob,θ.bas ob + off,none⟩)) (.pointer (some ⟨θ.blk ob2,θ.bas ob2 + off2,none⟩))).run P w = .ok c w:=by
     intro c hc
     have:∀ d:Nat,(Op.equalIn (d + 1) t (.pointer (some ⟨θ.blk ob,θ.bas ob + off,none⟩)) (.pointer (some ⟨θ.blk ob2,θ.bas ob2 + off2,none⟩))).run P w = .ok c w:=fun d=>by
      simp [Op.equalIn,run_underlying hu,run_size hsz,hn,hc]
     exact this 9999
    rcases br_true e with ⟨g1,g2⟩ | ⟨g1,g2⟩
    ·have g1:=Nat.eq_of_beq_eq_true g1
     subst g1
     refine done _ g2 (by cases neg<;>rfl) (eqn _ ?_) (by rintro op (rfl | rfl)<;>rfl)
     simp only [sameAddr,BEq.rfl,if_true,Sem.run_pure]
     congr 1
     rw [Bool.eq_iff_iff]
     simp only [beq_iff_eq,Addr.mk.injEq,true_and,and_true]
     constructor
     ·intro h;have:off=off2:=by omega
      subst this;simp
     ·intro h;have:=Nat.eq_of_beq_eq_true h;omega
    ·obtain ⟨g3,a1,s1,s2,s3,s4,s5⟩:=sole_true (P:=P) g2
     obtain ⟨g4,a2,t1,t2,t3,t4,t5⟩:=sole_true (P:=P) g3
     have hne:ob≠ob2:=fun h=>by subst h;simp at g1
     have hblk:θ.blk ob≠θ.blk ob2:=fun heq=>by
      have:=(hR.apart ob ob2 a1 a2 hne hh hh2 s1 t1 s2 t3 heq).1
      rw [s4] at this;cases this
     obtain ⟨c1,ty1,b1⟩:=s5 (w0:=w0) (hR.obj_ hh s1)
     obtain ⟨c2,ty2,b2⟩:=t5 (w0:=w0) (hR.obj_ hh2 t1)
     refine done _ g4 (by cases neg<;>rfl) (eqn _ ?_) (by rintro op (rfl | rfl)<;>rfl)
     exact run_sameAddr_other w (by intro h;injection h with h;exact hblk h) b1 b2
   ·have hY:a.eval Y = .pointer none:=hR2.2
    rw [hX,hY] at done
    refine done _ e (by cases neg<;>rfl) ?_ (by rintro op (rfl | rfl)<;>rfl)
    have:∀ (d:Nat) p,(Op.equalIn (d + 1) t (.pointer (some p)) (.pointer none)).run P w = .ok false w:=fun d p=>by simp [Op.equalIn,run_underlying hu]
    exact this 9999 _
  ·have hX:a.eval X = .pointer none:=hR1.2
   cases v2<;>first | (cases e;done) | skip
   ·obtain ⟨hY,_⟩:=hR2.p
    rw [hX,hY] at done
    refine done _ e (by cases neg<;>rfl) ?_ (by rintro op (rfl | rfl)<;>rfl)
    have:∀ (d:Nat) p,(Op.equalIn (d + 1) t (.pointer none) (.pointer (some p))).run P w = .ok false w:=fun d p=>by simp [Op.equalIn,run_underlying hu]
    exact this 9999 _
   ·have hY:a.eval Y = .pointer none:=hR2.2
    rw [hX,hY] at done
    refine done _ e (by cases neg<;>rfl) ?_ (by rintro op (rfl | rfl)<;>rfl)
    have:∀ (d:Nat),(Op.equalIn (d + 1) t (.pointer none) (.pointer none)).run P w = .ok true w:=fun d=>by simp [Op.equalIn,run_underlying hu]
    exact this 9999
 | 1,⟨el,hu⟩=>
  cases v<;>first | (cases e;done) | skip
  ·obtain ⟨_,c,hX⟩:=hR1.sl
   cases v2<;>first | (cases e;done) | skip
   have hY:a.eval Y = .slice none 0 0:=hR2.2
   rw [hX,hY] at done
   refine done _ e (by cases neg<;>rfl) ?_ (by rintro op (rfl | rfl)<;>rfl)
   have:∀ (d:Nat) p l c,(Op.equalIn (d + 1) t (.slice (some p) l c) (.slice none 0 0)).run P w = .ok false w:=fun d p l c=>by simp [Op.equalIn,run_underlying hu]
   exact this 9999 _ _ _
  ·have hX:a.eval X = .slice none 0 0:=hR1.2
   cases v2<;>first | (cases e;done) | skip
   ·obtain ⟨_,c,hY⟩:=hR2.sl
    rw [hX,hY] at done
    refine done _ e (by cases neg<;>rfl) ?_ (by rintro op (rfl | rfl)<;>rfl)
    have:∀ (d:Nat) p l c,(Op.equalIn (d + 1) t (.slice none 0 0) (.slice (some p) l c)).run P w = .ok false w:=fun d p l c=>by simp [Op.equalIn,run_underlying hu]
    exact this 9999 _ _ _
   ·have hY:a.eval Y = .slice none 0 0:=hR2.2
    rw [hX,hY] at done
    refine done _ e (by cases neg<;>rfl) ?_ (by rintro op (rfl | rfl)<;>rfl)
    have:∀ (d:Nat),(Op.equalIn (d + 1) t (.slice none 0 0) (.slice none 0 0)).run P w = .ok true w:=fun d=>by simp [Op.equalIn,run_underlying hu]
    exact this 9999
 | 2,⟨kt,el,hu⟩=>
  cases v<;>first | (cases e;done) | skip
  ·obtain ⟨hX,_⟩:=hR1.m
   cases v2<;>first | (cases e;done) | skip
   have hY:a.eval Y = .map none:=hR2.2
   rw [hX,hY] at done
   refine done _ e (by cases neg<;>rfl) ?_ (by rintro op (rfl | rfl)<;>rfl)
   have:∀ (d:Nat) p,(Op.equalIn (d + 1) t (.map (some p)) (.map none)).run P w = .ok false w:=fun d p=>by simp [Op.equalIn,run_underlying hu]
   exact this 9999 _
  ·have hX:a.eval X = .map none:=hR1.2
   cases v2<;>first | (cases e;done) | skip
   ·obtain ⟨hY,_⟩:=hR2.m
    rw [hX,hY] at done
    refine done _ e (by cases neg<;>rfl) ?_ (by rintro op (rfl | rfl)<;>rfl)
    have:∀ (d:Nat) p,(Op.equalIn (d + 1) t (.map none) (.map (some p))).run P w = .ok false w:=fun d p=>by simp [Op.equalIn,run_underlying hu]
    exact this 9999 _
   ·have hY:a.eval Y = .map none:=hR2.2
    rw [hX,hY] at done
    refine done _ e (by cases neg<;>rfl) ?_ (by rintro op (rfl | rfl)<;>rfl)
    have:∀ (d:Nat),(Op.equalIn (d + 1) t (.map none) (.map none)).run P w = .ok true w:=fun d=>by simp [Op.equalIn,run_underlying hu]
    exact this 9999
 | 3,⟨a1,b1,c1,hu⟩=>
  cases v<;>first | (cases e;done) | skip
  ·have hX:=hR1.2
   cases v2<;>first | (cases e;done) | skip
   have hY:a.eval Y = .nilFunc:=hR2.2
   simp only [toV] at hX
   rw [hX,hY] at done
   refine done _ e (by cases neg<;>rfl) ?_ (by rintro op (rfl | rfl)<;>rfl)
   have:∀ (d:Nat) f p q,(Op.equalIn (d + 1) t (.func f p q) .nilFunc).run P w = .ok false w:=fun d f p q=>by simp [Op.equalIn,run_underlying hu]
   exact this 9999 _ _ _
  ·have hX:a.eval X = .nilFunc:=hR1.2
   cases v2<;>first | (cases e;done) | skip
   ·have hY:=hR2.2
    simp only [toV] at hY
    rw [hX,hY] at done
    refine done _ e (by cases neg<;>rfl) ?_ (by rintro op (rfl | rfl)<;>rfl)
    have:∀ (d:Nat) f p q,(Op.equalIn (d + 1) t .nilFunc (.func f p q)).run P w = .ok false w:=fun d f p q=>by simp [Op.equalIn,run_underlying hu]
    exact this 9999 _ _ _
   ·have hY:a.eval Y = .nilFunc:=hR2.2
    rw [hX,hY] at done
    refine done _ e (by cases neg<;>rfl) ?_ (by rintro op (rfl | rfl)<;>rfl)
    have:∀ (d:Nat),(Op.equalIn (d + 1) t .nilFunc .nilFunc).run P w = .ok true w:=fun d=>by simp [Op.equalIn,run_underlying hu]
    exact this 9999
 | 4,⟨⟨ms,hu⟩,hcst⟩=>
  cases v<;>first | (cases e;done) | skip
  ·have hX:=hR1.2
   cases v2<;>first | (cases e;done) | skip
   have hY:a.eval Y = .nilIface:=hR2.2
   simp only [toV] at hX
   rw [hX,hY] at done
   refine done _ e (by cases neg<;>rfl) ?_ (by rintro op (rfl | rfl)<;>rfl)
   have:∀ (d:Nat) f p,(Op.equalIn (d + 1) t (.iface f p) .nilIface).run P w = .ok false w:=fun d f p=>by simp [Op.equalIn,run_underlying hu]
   exact this 9999 _ _
  ·have hX:a.eval X = .nilIface:=hR1.2
   cases v2<;>first | (cases e;done) | skip
   ·have hY:=hR2.2
    simp only [toV] at hY
    rw [hX,hY] at done
    refine done _ e (by cases neg<;>rfl) ?_ (by rintro op (rfl | rfl)<;>rfl)
    have:∀ (d:Nat) f p,(Op.equalIn (d + 1) t .nilIface (.iface f p)).run P w = .ok false w:=fun d f p=>by simp [Op.equalIn,run_underlying hu]
    exact this 9999 _ _
   ·have hY:a.eval Y = .nilIface:=hR2.2
    rw [hX,hY] at done
    refine done _ e ?_ ?_ (by rintro op (rfl | rfl)<;>rfl)
    ·rcases hcst with hc | hc
     ·cases X<;>simp [isC] at hc
      cases neg<;>simp [eqGuard]
     ·cases Y<;>simp [isC] at hc
      cases neg<;>simp [eqGuard]
    ·have:∀ (d:Nat),(Op.equalIn (d + 1) t .nilIface .nilIface).run P w = .ok true w:=fun d=>by simp [Op.equalIn,run_underlying hu]
     exact this 9999
theorem ext_run {c:Call} {f:FuncId} {fn:Func} {e:Array Value→Sem Value} {a:Act} {w w':World} {v:Value} (ho:o.op = .call c) (hc:c.callee = .value (.func f)) (hf:P.funcs[f]? = some fn) (hb:fn.body.isNone=true) (hn:(fn.name == "runtime.NumGoroutine")=false)
  (h1:Extern.findNext fn=none) (h2:Extern.find fn=some e) (hrun:(e (c.args.map a.eval)).run P w = .ok v w'):(execOp a.eval o).run P w = .ok (.value v) w':=by
 have hargs:#[] ++ c.args.map a.eval ++ #[]=c.args.map a.eval:=by simp
 simp only [execOp,ho,resolve,hc,Act.eval,Deferred.ofValue,Sem.run_bind,Sem.run_pure,Result.andThen,invoke,callFunc,run_program,hf,hn,hb,Bool.false_eq_true,if_false,if_true,run_mark,h1,h2]
 simp only [Array.append_empty,Array.empty_append,hrun]
theorem next_none {fn:Func} {n:String} (hn:fn.name=n) (hog:(fn.origin == fn.name || fn.origin == "")=true) (h1:(Extern.allNextRows.lookup n).isNone=true) (h2:(Extern.allNextRows.lookup "").isNone=true):Extern.findNext fn=none:=by
 unfold Extern.findNext
 have h1:Extern.allNextRows.lookup n=none:=by simpa using h1
 have h2:Extern.allNextRows.lookup "" = none:=by simpa using h2
 have hor:fn.origin=n∨fn.origin = "" := by
  simp only [Bool.or_eq_true,beq_iff_eq] at hog
  rcases hog with h | h
  ·exact .inl (h.trans hn)
  ·exact .inr h
 rcases hor with hor | hor<;>simp [hn,hor,h1,h2]
theorem find_some {fn:Func} {n:String} {e:Array Value→Sem Value} (hn:fn.name=n) (h1:(Extern.allGenericRows.lookup n).isNone=true) (h2:(Extern.allTypedRows.lookup n).isNone=true) (h3:Extern.allRows.lookup n=some e):Extern.find fn=some e:=by
 unfold Extern.find
 have h1:Extern.allGenericRows.lookup n=none:=by simpa using h1
 have h2:Extern.allTypedRows.lookup n=none:=by simpa using h2
 simp [hn,h1,h2,h3]
end
end Go.AM

namespace Go.AM
open Go
section
variable {P:Program} {o:Oper} {x y z:XF} {X Y Z:Operand}
theorem run_atomic_read {w:World} {A:Addr} {k:IntKind} {n:Int} (hc:w.cell? A=some (.int k n)):(Extern.Atomic.read (.int k) A).run P w = .ok (.int k n) w:=by
 simp [Extern.Atomic.read,load,Sem.run,hc]
theorem run_atomic_store {w:World} {A:Addr} {k:IntKind} {n:Int} {v:Value} (hc:w.cell? A=some v) (hf:w.frozen? A=false):(store A (.int k n) .atomic).run P w = .ok () (w.setCell A (.int k n)):=by
 rw [run_store P w A _ _ rfl,hc]
 simp [hf]
theorem loadT_eq (t:Extern.Atomic.T) (v:Value):Extern.Atomic.loadT t #[v]=(do Extern.Atomic.read t (← asAddr v)):=rfl
theorem storeT_eq (v u:Value):Extern.Atomic.storeT #[v,u]=(do store (← asAddr v) u .atomic;pure Extern.Atomic.none_):=rfl
theorem update_eq (op:IntKind→Int→Int→Sem Value) (k:IntKind) (v u:Value):Extern.Atomic.update op k true #[v,u]=(do
  let a ← asAddr v
  let old ← Extern.Atomic.read (.int k) a
  let new ← op k (← asInt old) (← asInt u)
  store a new .atomic
  pure (if true then new else old)):=rfl
theorem casT_eq (k:IntKind) (v:Value) (k1 k2:IntKind) (m n:Int) {A:Addr} {k0:IntKind} {x:Int} {w:World} (hv:v = .pointer (some A)) (ht:(Extern.Atomic.touchesFrozen A).run P w = .ok false w) (hr:(Extern.Atomic.read (.int k) A).run P w = .ok (.int k0 x) w) :
  (Extern.Atomic.casT (.int k) #[v,.int k1 m,.int k2 n]).run P w=(if (x == m)=true then (do store A (.int k2 n) .atomic;pure (.bool (x == m)):Sem Value) else pure (.bool (x == m))).run P w:=by
 subst hv
 have:Extern.Atomic.casT (.int k) #[.pointer (some A),.int k1 m,.int k2 n]=(do
   let a ← asAddr (.pointer (some A))
   if ← Extern.Atomic.touchesFrozen a then unsupported (.unsafePointer "a write to bytes that a string shares")
   let eq ← match (Extern.Atomic.T.int k),← Extern.Atomic.read (.int k) a,(Value.int k1 m) with
    | _,.int _ x,.int _ y=>pure (x == y)
    | .ptr,.pointer x,.pointer y=>samePointer x y
    | .int _,.pointer (some _),.int _ 0 | .int _,.int _ 0,.pointer (some _)=>pure false
    | .int _,.pointer (some _),_ | .int _,_,.pointer (some _)=>unsupported .addressObserved
    | _,_,_=>stuck "atomic.CompareAndSwap: old is no T"
   if eq then store a (.int k2 n) .atomic
   pure (.bool eq)):=rfl
 rw [this]
 simp only [asAddr,Sem.run_bind,Sem.run_pure,Result.andThen,ht,hr,Bool.false_eq_true,if_false]
structure ExtC (P:Program) (o:Oper) (e:Array Value→Sem Value) (xs:List Operand):Prop where
 run:∀ {a:Act} {w w':World} {v:Value},(e ((xs.map a.eval).toArray)).run P w = .ok v w'→(execOp a.eval o).run P w = .ok (.value v) w'
theorem a_ald {k:Nat} (hx:XOk x X) (he:ExtC P o (Extern.Atomic.loadT (.int (kindOf k))) [X]):OpOk P o (oAld k x):=by
 intro en h nx κ w0 pd θ a w hE hR e
 obtain ⟨v,hv,hr⟩:=hx en
 simp only [oAld,hv] at e
 obtain ⟨ob,off,rfl,e1⟩:=asP_true e
 obtain ⟨hX,hh⟩:=(hr θ a hE).p
 obtain ⟨c,_,k2,k3,_,k5⟩:=rd1_ok hR hh e1
 obtain ⟨n,rfl,e2⟩:=asK_true k2
 refine ⟨.i k n,.int (kindOf k) n,θ,h,nx,w,.value _,.refl θ,⟨trivial,rfl⟩,hR,e2,he.run ?_,rfl⟩
 have:=run_atomic_read (P:=P) (show w.cell? _=some (.int (kindOf k) n) from k5)
 show (Extern.Atomic.loadT _ #[a.eval X]).run P w=_
 rw [loadT_eq]
 simp [hX,asAddr,this]
theorem setCell_one {w:World} {b i:Nat} {v:Value}:w.setCell ⟨b,i,none⟩ v=w.setCells b i [v]:=rfl
theorem a_ast (hx:XOk x X) (hy:XOk y Y) (he:ExtC P o Extern.Atomic.storeT [X,Y]):OpOk P o (oAst x y):=by
 intro en h nx κ w0 pd θ a w hE hR e
 obtain ⟨v,hv,hr⟩:=hx en
 obtain ⟨v2,hv2,hr2⟩:=hy en
 simp only [oAst,hv,hv2] at e
 obtain ⟨ob,off,rfl,e1⟩:=asP_true e
 obtain ⟨k,n,rfl,e2⟩:=asI_true e1
 obtain ⟨hX,hh⟩:=(hr θ a hE).p
 have hY:=(hr2 θ a hE).i
 obtain ⟨h',k1,k2,k3⟩:=wr_ok (vs:=[.i k n]) hR hh ⟨trivial,trivial⟩ rfl e2
 refine ⟨undef,.tuple #[],θ,h',nx,_,.value _,.refl θ,⟨trivial,rfl⟩,k2,k1,he.run ?_,rfl⟩
 obtain ⟨cur,ty,fz,f1,f2,f3⟩:=k3
 have hlt:θ.bas ob + off < cur.size:=by simp [toVs] at f2;omega
 have hst:=run_atomic_store (P:=P) (k:=kindOf k) (n:=n) (show w.cell? ⟨θ.blk ob,θ.bas ob + off,none⟩=some (cur[θ.bas ob + off]) by rw [cell_of_row w _ _ _ _ _ f1];exact Array.getElem?_eq_getElem hlt) (by simp only [World.frozen?,f1];exact f3 _ hlt)
 show (Extern.Atomic.storeT #[a.eval X,a.eval Y]).run P w=_
 rw [storeT_eq]
 simp [hX,hY,asAddr,hst,Extern.Atomic.none_,setCell_one,toVs,toV]
theorem a_aad {k:Nat} (hx:XOk x X) (hy:XOk y Y) (he:ExtC P o (Extern.Atomic.update (Op.intArith .add) (kindOf k) true) [X,Y]):OpOk P o (oAad k x y):=by
 intro en h nx κ w0 pd θ a w hE hR e
 obtain ⟨v,hv,hr⟩:=hx en
 obtain ⟨v2,hv2,hr2⟩:=hy en
 simp only [oAad,hv,hv2] at e
 obtain ⟨ob,off,rfl,e1⟩:=asP_true e
 obtain ⟨hX,hh⟩:=(hr θ a hE).p
 obtain ⟨c,_,j2,j3,_,j5⟩:=rd1_ok hR hh e1
 have go:∀ (n m q:Int) (k2:IntKind) (r:AV),toV θ c = .int (kindOf k) n→a.eval Y = .int k2 m→Ok θ r→one r=true→toV θ r = .int (kindOf k) q→q=(kindOf k).wrap (n + m)→
   wrK ob off [r] h (fun h=>κ r h nx)=true→∃ v u θ' h' nx' w' n,θ.le θ'∧VR θ' v u∧HR P w0 pd θ' h' nx' w'∧κ v h' nx' = true∧(execOp a.eval o).run P w = .ok n w'∧fin n=some u:=by
  intro n m q k2 r hn hY hok h1 hq hw e3
  obtain ⟨h',k1,k2',k3⟩:=wr_ok (vs:=[r]) hR hh ⟨hok,trivial⟩ (by simp [h1]) e3
  refine ⟨r,.int (kindOf k) q,θ,h',nx,_,.value _,.refl θ,⟨hok,hq.symm⟩,k2',k1,he.run ?_,rfl⟩
  obtain ⟨cur,ty,fz,f1,f2,f3⟩:=k3
  have hlt:θ.bas ob + off < cur.size:=by simp [toVs] at f2;omega
  rw [hn] at j5
  have hrd:=run_atomic_read (P:=P) (show w.cell? _=some (.int (kindOf k) n) from j5)
  have hst:=run_atomic_store (P:=P) (k:=kindOf k) (n:=(kindOf k).wrap (n + m)) j5 (by simp only [World.frozen?,f1];exact f3 _ hlt)
  subst hw
  show (Extern.Atomic.update _ _ true #[a.eval X,a.eval Y]).run P w=_
  rw [update_eq]
  simp [hX,hY,asAddr,hrd,asInt,asIntOf,Op.intArith,hst,setCell_one,toVs,hq]
 rcases br_true j2 with ⟨hl,e2⟩ | ⟨hl,e2⟩
 ·obtain ⟨A,_,e2,a2,_,a4⟩:=lnK_true e2
  obtain ⟨B,_,e2,b2,_,b4⟩:=lnK_true e2
  obtain ⟨N,_,e3,n3⟩:=laAdd_ok k A B _ e2
  have hk:k < 8:=by
   unfold isLL at hl
   rw [or'_eq,Bool.or_eq_true] at hl
   exact hl.elim a2 b2
  obtain ⟨la,ua⟩:=a4 θ _ ⟨j3,rfl⟩
  obtain ⟨lb,ub⟩:=b4 θ _ (hr2 θ a hE)
  obtain ⟨lN,hrun⟩:=n3 la lb
  have hrun:=hrun P 0 θ.lane w θ.lane_lt
  have hq:((ln θ.lane N:Nat):Int)=(kindOf k).wrap ((ln θ.lane A:Nat) + (ln θ.lane B:Nat)):=by
   simp [binOp,Op.intArith] at hrun
   exact hrun.symm
  have hv3:=vr_l θ hk lN
  exact go _ _ _ _ (.l k N) ua ub hv3.1 rfl hv3.2.symm hq e3
 ·obtain ⟨k',m,rfl,e2⟩:=asI_true e2
  obtain ⟨n,rfl,e3⟩:=asK_true e2
  rw [wrap_eq] at e3
  exact go n m _ _ (.i k ((kindOf k).wrap (Int.add n m))) rfl (hr2 θ a hE).i trivial rfl rfl rfl e3
theorem a_acs {k:Nat} (hx:XOk x X) (hy:XOk y Y) (hz:XOk z Z) (he:ExtC P o (Extern.Atomic.casT (.int (kindOf k))) [X,Y,Z]):OpOk P o (oAcs k x y z):=by
 intro en h nx κ w0 pd θ a w hE hR e
 obtain ⟨v,hv,hr⟩:=hx en
 obtain ⟨v2,hv2,hr2⟩:=hy en
 obtain ⟨v3,hv3,hr3⟩:=hz en
 simp only [oAcs,hv,hv2,hv3] at e
 obtain ⟨ob,off,rfl,e1⟩:=asP_true e
 obtain ⟨k',n',rfl,e2⟩:=asI_true e1
 obtain ⟨k'',m,rfl,e3⟩:=asI_true e2
 obtain ⟨hX,hh⟩:=(hr θ a hE).p
 have hY:=(hr2 θ a hE).i
 have hZ:=(hr3 θ a hE).i
 obtain ⟨cc,ty,fz,b1,b2,b3⟩:=rd1_blk hR hh e3
 obtain ⟨c,_,j2,j3,_,j5⟩:=rd1_ok hR hh e3
 obtain ⟨n,rfl,e4⟩:=asK_true j2
 rw [cmEq_eq] at e4
 have hrd:=run_atomic_read (P:=P) (show w.cell? _=some (.int (kindOf k) n) from j5)
 have htf:(Extern.Atomic.touchesFrozen ⟨θ.blk ob,θ.bas ob + off,none⟩).run P w = .ok false w:=by
  have hshape:w.shape? (θ.blk ob)=some (ty,cc.size):=by simp [World.shape?,b1]
  simp [Extern.Atomic.touchesFrozen,viewAt,shape,Sem.run,hshape,frozen,b3]
 rcases br_true e4 with ⟨g1,g2⟩ | ⟨g1,g2⟩
 ·have g1:n=n':=by simpa using g1
  subst g1
  obtain ⟨h',k1,k2,k3⟩:=wr_ok (vs:=[.i k'' m]) hR hh ⟨trivial,trivial⟩ rfl g2
  refine ⟨.b true,.bool true,θ,h',nx,_,.value _,.refl θ,⟨trivial,rfl⟩,k2,k1,he.run ?_,rfl⟩
  have hst:=run_atomic_store (P:=P) (k:=kindOf k'') (n:=m) j5 b3
  show (Extern.Atomic.casT _ #[a.eval X,a.eval Y,a.eval Z]).run P w=_
  rw [hY,hZ,casT_eq _ _ _ _ _ _ hX htf hrd]
  simp [hst,setCell_one,toVs,toV]
 ·have g1:¬ n=n':=by simpa using g1
  refine ⟨.b false,.bool false,θ,h,nx,w,.value _,.refl θ,⟨trivial,rfl⟩,hR,g2,he.run ?_,rfl⟩
  show (Extern.Atomic.casT _ #[a.eval X,a.eval Y,a.eval Z]).run P w=_
  rw [hY,hZ,casT_eq _ _ _ _ _ _ hX htf hrd]
  simp [g1]
theorem a_nop {e:Array Value→Sem Value} (he:ExtC P o e []) (hrun:∀ w,(e #[]).run P w = .ok (.tuple #[]) w):OpOk P o oNop:=by
 intro en h nx κ w0 pd θ a w hE hR e
 exact ⟨undef,.tuple #[],θ,h,nx,w,.value _,.refl θ,⟨trivial,rfl⟩,hR,e,he.run (hrun w),rfl⟩
theorem a_nopp {m:Addr→Mark} (hx:XOk x X) (he:ExtC P o (Extern.Race.marked m) [X]):OpOk P o (oNopp x):=by
 intro en h nx κ w0 pd θ a w hE hR e
 obtain ⟨v,hv,hr⟩:=hx en
 simp only [oNopp,hv] at e
 obtain ⟨ob,off,rfl,e1⟩:=asP_true e
 obtain ⟨hX,hh⟩:=(hr θ a hE).p
 refine ⟨undef,.tuple #[],θ,h,nx,w,.value _,.refl θ,⟨trivial,rfl⟩,hR,e1,he.run ?_,rfl⟩
 simp [Extern.Race.marked,Extern.Race.at_,hX,Extern.Race.none_]
theorem extC {c:Call} {f:FuncId} {fn:Func} {n:String} {e:Array Value→Sem Value} (ho:o.op = .call c) (hc:c.callee = .value (.func f)) (hf:P.funcs[f]? = some fn) (hb:fn.body.isNone=true) (hog:(fn.origin == fn.name || fn.origin == "")=true) (hn:fn.name=n)
  (h0:(n == "runtime.NumGoroutine")=false) (h1:(Extern.allNextRows.lookup n).isNone=true) (h2:(Extern.allGenericRows.lookup n).isNone=true) (h3:(Extern.allTypedRows.lookup n).isNone=true) (h4:Extern.allRows.lookup n=some e):ExtC P o e c.args.toList where
 run:=by
  intro a w w' v hrun
  refine ext_run ho hc hf hb (by rw [hn];exact h0) (next_none hn hog h1 (by kernel_rfl)) (find_some hn h2 h3 h4) ?_
  have:(c.args.toList.map a.eval).toArray=c.args.map a.eval:=by apply Array.ext';simp
  rw [this] at hrun
  exact hrun
theorem len_two {α:Type}:∀ {l:List α},l.length=2→∃ a b,l=[a,b]
 | [a,b],_=>⟨a,b,rfl⟩
theorem len_three {α:Type}:∀ {l:List α},l.length=3→∃ a b c,l=[a,b,c]
 | [a,b,c],_=>⟨a,b,c,rfl⟩
end
end Go.AM

namespace Go.AM
open Go
section
variable {P:Program} {o:Oper} {x y z:XF} {X Y Z:Operand}
theorem lastK_eq:∀ (l:List Nat) (κ:Nat→R) (d:R),@List.rec Nat (fun _=>R→R) (fun d=>d) (fun n _ ih _=>ih (κ n)) l d=(match l.getLast? with | some n=>κ n | none=>d)
 | [],κ,d=>rfl
 | [n],κ,d=>rfl
 | n :: m :: l,κ,d=>by
  have:=lastK_eq (m :: l) κ (κ n)
  show @List.rec Nat (fun _=>R→R) (fun d=>d) (fun n _ ih _=>ih (κ n)) (m :: l) (κ n)=_
  rw [this,List.getLast?_cons_cons]
  cases h:(m :: l).getLast? with
  | none=>simp at h
  | some q=>rfl
theorem lastK_true {l:List Nat} {κ:Nat→R} (e:lastK l κ=true):∃ n,l.getLast? = some n∧κ n=true:=by
 have e:(match l.getLast? with | some n=>κ n | none=>false)=true:=(lastK_eq l κ false).symm.trans e
 split at e
 ·rename_i n hn;exact ⟨n,hn,e⟩
 ·cases e
theorem bornK_true {b:Nat} {κ:AV→AV→R} {θ:Th}:∀ {es:List ME},bornK b κ es=true→∃ k v b',ME.mk k v b' ∈ es∧κ k v=true∧(es.map (meV θ)).find? (·.born == b)=some (meV θ (.mk k v b'))
 | [],e=>by cases e
 | .mk k v b' :: es,e=>by
  have e:br (Nat.beq b' b) (κ k v) (bornK b κ es)=true:=e
  rcases br_true e with ⟨h1,h2⟩ | ⟨h1,h2⟩
  ·refine ⟨k,v,b',List.mem_cons_self ..,h2,?_⟩
   have:(b' == b)=true:=beq_iff_eq.2 (Nat.eq_of_beq_eq_true h1)
   simp only [List.map_cons,List.find?_cons]
   have h3:((meV θ (.mk k v b')).born == b)=true:=this
   rw [h3]
  ·obtain ⟨k2,v2,b2,g1,g2,g3⟩:=bornK_true (θ:=θ) h2
   refine ⟨k2,v2,b2,List.mem_cons_of_mem _ g1,g2,?_⟩
   have:(b' == b)=false:=beq_eq_false_iff_ne.2 (fun h=>by rw [h,Nat.beq_refl] at h1;cases h1)
   simp only [List.map_cons,List.find?_cons]
   have h3:((meV θ (.mk k v b')).born == b)=false:=this
   rw [h3]
   exact g3
theorem a_ety (hx:XOk x X) (ho:o.op = .entry X):OpOk P o (oEty x):=by
 intro en h nx κ w0 pd θ a w hE hR e
 obtain ⟨v,hv,hr⟩:=hx en
 simp only [oEty,hv] at e
 obtain ⟨r,off,rfl,e1⟩:=asP_true e
 obtain ⟨hoff,e2⟩:=br_t e1
 have hoff:=Nat.eq_of_beq_eq_true hoff
 subst hoff
 obtain ⟨hp,hh⟩:=(hr θ a hE).p
 obtain ⟨ob,hb,e3⟩:=get_true e2
 have hor:=hR.obj_ hh hb
 cases ob<;>first | (cases e3;done) | skip
 rename_i m since seen st
 obtain ⟨hm,hk,hbas⟩:=hor
 cases m with
 | none=>cases e3
 | some m=>
  have hmh:=hk m rfl
  have e3:lastK seen (fun b=>get m h (asMp fun es c=>br (Nat.beq c st) (bornK b (fun k v=>κ (.tu [k,v]) h nx) es) false))=true:=e3
  obtain ⟨stamp,hst,e4⟩:=lastK_true e3
  obtain ⟨ob2,hb2,e5⟩:=get_true e4
  obtain ⟨es,cl,rfl,e6⟩:=asMp_true e5
  obtain ⟨hc,e7⟩:=br_t e6
  have hc:=Nat.eq_of_beq_eq_true hc
  subst hc
  obtain ⟨hmm,hes⟩:=hR.obj_ hmh hb2
  obtain ⟨k,v,b',g1,g2,g3⟩:=bornK_true (θ:=θ) e7
  have hok:=hes _ g1
  refine ⟨.tu [k,v],.tuple #[toV θ k,toV θ v],θ,h,nx,w,.value _,.refl θ,⟨⟨hok.1,hok.2,trivial⟩,rfl⟩,hR,g2,?_,rfl⟩
  have hback:seen.toArray.back? = some stamp:=by simp [hst]
  have hfind:(es.map (meV θ)).toArray.find? (·.born == stamp)=some (meV θ (.mk k v b')):=by simpa using g3
  have hg1:(getObj (θ.blk r)).run P w = .ok (.mapIter ((some m).map θ.blk) since seen.toArray cl) w:=by simp [getObj,Sem.run,hm]
  have hg2:(getObj (θ.blk m)).run P w = .ok (.map (es.map (meV θ)).toArray cl) w:=by simp [getObj,Sem.run,hmm]
  simp only [execOp,ho,hp,hbas,Nat.add_zero,Instr.entry,Sem.run_bind,hg1,Result.andThen,Option.map_some,hback,hg2,bne_self_eq_false,Bool.false_eq_true,if_false,Sem.run_pure]
  rw [hfind]
  simp only [Sem.run_pure]
  rfl
theorem a_clr {t el:TypeId} {zz:List AV} {c:Call} (hx:XOk x X) (hu:P.underlying t=some (.slice el)) (hz:zeroT P el=some zz) (hc:c.callee = .builtin .clear) (ha:c.args.toList=[X]) (ht:c.argTypes.toList=[t]) (ho:o.op = .call c):OpOk P o (oClr x zz):=by
 intro en h nx κ w0 pd θ a w hE hR e
 obtain ⟨v,hv,hr⟩:=hx en
 simp only [oClr,hv] at e
 have run:∀ {u w'},(Builtin.clear_ #[t] o.type #[a.eval X]).run P w = .ok u w'→(execOp a.eval o).run P w = .ok (.value u) w':=by
  intro u w' hw
  obtain ⟨ca,cargs,ct⟩:=c
  have ha':cargs = #[X]:=by cases cargs;simp_all
  have ht':ct = #[t]:=by cases ct;simp_all
  simp only at hc
  subst ha' ht' hc
  simp only [execOp,ho,resolve,invoke,builtin,Sem.run_bind,Sem.run_pure,Result.andThen,List.map_toArray,List.map_cons,List.map_nil,hw]
 obtain ⟨ti,zv,i1,i2,i3,i4⟩:=zeroT_some hz
 cases v<;>first | (cases e;done) | skip
 ·rename_i ob off len cap
  obtain ⟨hhas,c,hX⟩:=(hr θ a hE).sl
  cases len with
  | zero=>
   refine ⟨undef,Go.undef,θ,h,nx,w,.value _,.refl θ,vr_undef θ,hR,e,run ?_,rfl⟩
   simp [Builtin.clear_,hX,run_underlying hu]
   rfl
  | succ len=>
   have e:repK zz (len + 1) (fun vs=>wrK ob off vs h fun h=>κ undef h nx)=true:=e
   rw [repK_eq] at e
   obtain ⟨h',k1,k2,k3⟩:=wr_ok hR hhas (rep_oks (i4 θ).1 (len + 1)) (rep_all i3 (len + 1)) e
   have hst:=k3.store (toVs_one (rep_all i3 (len + 1))) P
   refine ⟨undef,Go.undef,θ,h',nx,_,.value _,.refl θ,vr_undef θ,k2,k1,run ?_,rfl⟩
   have hz0:Builtin.zeroCells zv.cells (len + 1)=(toVs θ (rep (len + 1) zz)).toArray:=by
    have hsz:zv.cells.size=zz.length:=by rw [(i4 θ).2];simp
    have e:(len + 1) * zv.cells.size=(len + 1) * zz.length:=by rw [hsz]
    unfold Builtin.zeroCells
    rw [e]
    exact zeros_eq (i4 θ).2 (len + 1)
   simp only [Builtin.clear_,List.getElem?_toArray,List.getElem?_cons_zero,hX,Sem.run_bind,run_underlying hu,Result.andThen,zeroValue,typeInfo,i1,i2,Sem.run_pure,run_program,hz0,hst]
   rfl
 ·have hX:a.eval X = .slice none 0 0:=(hr θ a hE).2
  refine ⟨undef,Go.undef,θ,h,nx,w,.value _,.refl θ,vr_undef θ,hR,e,run ?_,rfl⟩
  simp [Builtin.clear_,hX,run_underlying hu]
  rfl
theorem freeze_end {w:World} {b:Nat} {cc:Array Value} {ty:TypeId} {fz:Nat × Nat} (o1:w.heap[b]? = some (.cells cc ty fz)) (o4:Fz fz cc.size) :
  ∃ fz',Fz fz' cc.size∧(w.freeze { block:=b,off:=cc.size } 1) = { w with heap:=w.heap.setIfInBounds b (.cells cc ty fz') }:=by
 refine ⟨if fz.1 == fz.2 then (cc.size,cc.size + 1) else (min fz.1 cc.size,max fz.2 (cc.size + 1)),?_,?_⟩
 ·split
  ·exact .inr (Nat.le_refl _)
  ·rename_i hne
   rcases o4 with rfl | h
   ·exact absurd rfl hne
   ·exact .inr (Nat.le_min.2 ⟨h,Nat.le_refl _⟩)
 ·have hlt:b < w.heap.size:=(Array.getElem?_eq_some_iff.1 o1).1
  have hget:w.heap[b] = .cells cc ty fz:=(Array.getElem?_eq_some_iff.1 o1).2
  simp only [World.freeze,Nat.one_ne_zero,if_false]
  congr 1
  apply Array.ext_getElem?
  intro i
  rw [Array.getElem?_modify]
  by_cases hi:b=i
  ·subst hi
   simp only [if_true,o1,Option.map_some]
   rw [Array.getElem?_setIfInBounds_self_of_lt hlt]
  ·rw [if_neg hi,Array.getElem?_setIfInBounds_ne hi]
theorem a_msh {t el:TypeId} (hx:XOk x X) (hu:P.underlying t=some (.slice el)) (h8:P.underlying el=some (.int .u8)) (ho:o.op = .convert t t X):OpOk P o (oMsh x):=by
 intro en h nx κ w0 pd θ a w hE hR e
 obtain ⟨v,hv,hr⟩:=hx en
 simp only [oMsh,hv] at e
 cases v<;>first | (cases e;done) | skip
 rename_i ob off len cap
 obtain ⟨hhas,c,hX⟩:=(hr θ a hE).sl
 obtain ⟨ab,hab,e1⟩:=get_true e
 have run:∀ {cc:Array Value} {ty:TypeId} {fz fz':Nat × Nat},w.heap[θ.blk ob]? = some (.cells cc ty fz)→(w.freeze { block:=θ.blk ob,off:=cc.size } 1) = { w with heap:=w.heap.setIfInBounds (θ.blk ob) (.cells cc ty fz') }→
   (execOp a.eval o).run P w = .ok (.value (a.eval X)) { w with heap:=w.heap.setIfInBounds (θ.blk ob) (.cells cc ty fz') }:=by
  intro cc ty fz fz' o1 hw'
  have hshape:(shape (θ.blk ob)).run P w = .ok (some (ty,cc.size)) w:=by simp [shape,Sem.run,World.shape?,o1]
  simp only [execOp,ho,hX,convert,Sem.run_bind,run_underlying hu,Result.andThen,beq_self_eq_true,run_underlying h8,markStringish,hshape,freeze,Sem.run,Sem.run_pure]
  rw [hw']
 cases ab<;>first | (cases e1;done) | skip
 ·rename_i n es z zl d tt top sh
  obtain ⟨ht,e2⟩:=br_t e1
  subst ht
  obtain ⟨cc,ty,fz,o1,o2,o3,o4,o5,o6⟩:=hR.obj_ hhas hab
  obtain ⟨fz',hfz,hw'⟩:=freeze_end o1 o4
  rcases br_true e2 with ⟨g1,e3⟩ | ⟨g1,e3⟩
  ·rw [put_eq,killK_eq] at e3
   have hz:es=0→zl=0:=fun he=>by
    subst he
    cases hz:Nat.beq zl 0 with
    | true=>exact Nat.eq_of_beq_eq_true hz
    | false=>rw [hz] at g1;cases g1
   have hup:=hR.upd hhas hab rfl (w':={ w with heap:=w.heap.setIfInBounds (θ.blk ob) (.cells cc ty fz') }) (a':=.ce n es z zl d tt true []) (by simp) (fun b hb=>by simp [Array.getElem?_setIfInBounds_ne (Ne.symm hb)]) ⟨rfl,rfl,rfl⟩
    ⟨cc,ty,fz',heap_set o1,o2,o3,hfz,fun h=>⟨(o5 h).1,(o5 h).2.1,fun hn=>absurd (hz h) hn⟩,o6⟩ (fun x hx=>by cases hx)
   exact ⟨.sl ob off len cap,a.eval X,θ,_,nx,_,.value _,.refl θ,hr θ a hE,hup,e3,run o1 hw',rfl⟩
  ·have hes:es=0:=by
    cases hb:Nat.blt 0 es with
    | true=>rw [hb] at g1;cases g1
    | false=>
     have:¬ (0 < es):=fun h=>by have:Nat.blt 0 es=true:=by simpa [Nat.blt_eq] using h
                                rw [hb] at this;cases this
     omega
   obtain ⟨l,k1,k2,k3⟩:=cellsT_true e3
   rw [k3,put_eq,killK_eq] at e3
   subst hes
   have hk:∀ i,i < n→∃ v,l[i]? = some v∧Ok θ v∧one v=true∧cc[θ.bas ob + i]? = some (toV θ v):=by
    intro i hi
    obtain ⟨v,q1,q2,q3,q4⟩:=o3 i hi
    have hl:i < l.length:=by omega
    have:=k2 i l[i] (List.getElem?_eq_getElem hl)
    rw [Nat.zero_add,q1] at this
    injection this with this
    exact ⟨v,by rw [List.getElem?_eq_getElem hl,this],q2,q3,q4⟩
   have hup:=hR.upd hhas hab rfl (w':={ w with heap:=w.heap.setIfInBounds (θ.blk ob) (.cells cc ty fz') }) (a':=.ce n 0 l 0 (deep n) (E (deep n)) true []) (by simp) (fun b hb=>by simp [Array.getElem?_setIfInBounds_ne (Ne.symm hb)]) ⟨rfl,rfl,rfl⟩
    ⟨cc,ty,fz',heap_set o1,deep_ge _,fun i hi=>by rw [cellO_E,Nat.mod_zero];exact hk i hi,hfz,fun h=>⟨(o5 h).1,(o5 h).2.1,fun hn=>absurd rfl hn⟩,fun h=>absurd rfl h⟩ (fun x hx=>by cases hx)
   exact ⟨.sl ob off len cap,a.eval X,θ,_,nx,_,.value _,.refl θ,hr θ a hE,hup,e3,run o1 hw',rfl⟩
 ·rename_i l
  have e1:fnat (lenN AV l) (fun n=>put ob (.ce n 0 l 0 (deep n) (E (deep n)) true []) h fun h=>κ (.sl ob off len cap) h nx)=true:=e1
  rw [fnat_eq,lenN_eq,put_eq] at e1
  obtain ⟨ty,o1,o2,o3,o4⟩:=hR.obj_ hhas hab
  obtain ⟨fz',hfz,hw'⟩:=freeze_end o1 (.inl rfl)
  have hup:=hR.upd hhas hab rfl (w':={ w with heap:=w.heap.setIfInBounds (θ.blk ob) (.cells (toVs θ l).toArray ty fz') }) (a':=.ce l.length 0 l 0 (deep l.length) (E (deep l.length)) true []) (by simp) (fun b hb=>by simp [Array.getElem?_setIfInBounds_ne (Ne.symm hb)]) ⟨rfl,rfl,rfl⟩
   ⟨_,ty,fz',heap_set o1,deep_ge _,fun i hi=>⟨l[i],by rw [cellO_E,Nat.mod_zero];exact List.getElem?_eq_getElem hi,Oks_iff.1 o3 _ (List.getElem_mem hi),List.all_eq_true.1 o4 _ (List.getElem_mem hi),
     by rw [o2,Nat.zero_add,List.getElem?_toArray,toVs_get,List.getElem?_eq_getElem hi];rfl⟩,hfz,fun _=>⟨o2,by simp,fun hn=>absurd rfl hn⟩,fun h=>absurd rfl h⟩ (fun x hx=>by cases hx)
  exact ⟨.sl ob off len cap,a.eval X,θ,_,nx,_,.value _,.refl θ,hr θ a hE,hup,e1,run o1 hw',rfl⟩
end
end Go.AM

namespace Go.AM
open Go
section
variable {P:Program} {o:Oper} {x y z:XF} {X Y Z:Operand}
theorem n_als {el:TypeId} {z:List AV} (hz:zeroT P el=some z) (ho:o.op = .alloc el):NewOk P o (oAls el z):=by
 intro en h nx κ e
 obtain ⟨ti,zv,i1,i2,i3,i4⟩:=zeroT_some hz
 obtain ⟨hn,e1⟩:=newK_true e
 refine ⟨.st el z,fun o=>.p o 0,rfl,hn,e1,fun h' nx' κ' hn'=>newK_eq hn' _,fun w0 pd θ a w h1 nx1 o' hE hR hp=>?_⟩
 have hno:=(hR.pend o' _ hp).1
 have hle:=Th.le_put hno w.heap.size 0 0 0
 obtain ⟨k1,k2⟩:=hR.real hp (w':=w.alloc (.cells (toVs θ z).toArray el)) (ob:=.cells (toVs θ z).toArray el) (bs:=0) (sz:=0) (es:=0) rfl ⟨rfl,rfl,rfl⟩ (by
  refine ⟨?_,by simp,(toVs_mono hle (i4 θ).1).2,i3⟩
  rw [Th.put_blk,(toVs_mono hle (i4 θ).1).1]
  show (w.heap.push _)[w.heap.size]? = _
  simp) rfl
 refine ⟨.pointer (some ⟨w.heap.size,0,none⟩),_,_,k2,⟨Th.put_has ..,by simp [toV]⟩,k1,?_⟩
 simp [execOp,ho,Instr.alloc,zeroValue,typeInfo,i1,i2,newVar,newRow,(i4 θ).2]
theorem n_bxs {el:TypeId} (hx:XOk x X) (ho:o.op = .box el X):NewOk P o (oBxs el x):=by
 intro en h nx κ e
 obtain ⟨v,hv,hr⟩:=hx en
 simp only [oBxs,hv] at e
 obtain ⟨hc,e1,hcr⟩:=cellsK_true e
 obtain ⟨hn,e2⟩:=newK_true e1
 refine ⟨.st el (cellsV v),fun o=>.p o 0,rfl,hn,e2,fun h' nx' κ' hn'=>?_,fun w0 pd θ a w h1 nx1 o' hE hR hp=>?_⟩
 ·simp only [oBxs,hv,hc,newK_eq hn']
 ·obtain ⟨q1,q2,q3⟩:=hcr (hr θ a hE)
  have hno:=(hR.pend o' _ hp).1
  have hle:=Th.le_put hno w.heap.size 0 0 0
  obtain ⟨k1,k2⟩:=hR.real hp (w':=w.alloc (.cells (toVs θ (cellsV v)).toArray el)) (ob:=.cells (toVs θ (cellsV v)).toArray el) (bs:=0) (sz:=0) (es:=0) rfl ⟨rfl,rfl,rfl⟩ (by
   refine ⟨?_,by simp,(toVs_mono hle q1).2,q2⟩
   rw [Th.put_blk,(toVs_mono hle q1).1]
   show (w.heap.push _)[w.heap.size]? = _
   simp) rfl
  refine ⟨.pointer (some ⟨w.heap.size,0,none⟩),_,_,k2,⟨Th.put_has ..,by simp [toV]⟩,k1,?_⟩
  have hcs:(a.eval X).cells=(toVs θ (cellsV v)).toArray:=by rw [← q3]
  simp [execOp,ho,Instr.box,newVar,newRow,hcs]
theorem pinK_true {t off n:Nat} {κ:R}:∀ {ok:List (Nat × Nat × Nat)},pinK ok t off n κ=true→(t,off,n) ∈ ok∧κ=true
 | (a,b,c) :: ok,e=>by
  have e:br (Nat.beq a t) (br (Nat.beq b off) (br (Nat.beq c n) κ (pinK ok t off n κ)) (pinK ok t off n κ)) (pinK ok t off n κ)=true:=e
  have ih:pinK ok t off n κ=true→(t,off,n) ∈ (a,b,c) :: ok∧κ=true:=fun h=>⟨List.mem_cons_of_mem _ (pinK_true h).1,(pinK_true h).2⟩
  rcases br_true e with ⟨h1,e1⟩ | ⟨_,e1⟩
  ·rcases br_true e1 with ⟨h2,e2⟩ | ⟨_,e2⟩
   ·rcases br_true e2 with ⟨h3,e3⟩ | ⟨_,e3⟩
    ·rw [← Nat.eq_of_beq_eq_true h1,← Nat.eq_of_beq_eq_true h2,← Nat.eq_of_beq_eq_true h3]
     exact ⟨List.mem_cons_self ..,e3⟩
    ·exact ih e3
   ·exact ih e2
  ·exact ih e1
theorem b_cvp {s d u:TypeId} {j:TypeInfo} {ok:List (Nat × Nat × Nat)} (hx:XOk x X) (hs:P.underlying s=some .unsafePointer) (hd:P.underlying d=some (.pointer u)) (hu:P.info? u=some j)
  (hok:∀ t off n,(t,off,n) ∈ ok→liesAt P P.depth t (n / P.cellsOf t) off u 1=true) (ho:o.op = .convert s d X):OpOk P o (oCvp ok x):=by
 intro en h nx κ w0 pd θ a w hE hR e
 obtain ⟨v,hv,hr⟩:=hx en
 simp only [oCvp,hv] at e
 cases v<;>first | (cases e;done) | skip
 ·rename_i ob off
  obtain ⟨hX,hh⟩:=(hr θ a hE).p
  obtain ⟨ab,hab,e1⟩:=get_true e
  cases ab<;>first | (cases e1;done) | skip
  rename_i t l
  obtain ⟨h1,h2,h3,h4⟩:=hR.obj_ hh hab
  have e1:fnat (lenN AV l) (fun n=>br (Nat.blt off n) (pinK ok t off n (κ (.p ob off) h nx)) false)=true:=e1
  rw [fnat_eq,lenN_eq] at e1
  obtain ⟨g1,e2⟩:=br_t e1
  obtain ⟨g2,e3⟩:=pinK_true e2
  refine ⟨.p ob off,.pointer (some ⟨θ.blk ob,θ.bas ob + off,none⟩),θ,h,nx,w,.value _,.refl θ,⟨hh,rfl⟩,hR,e3,?_,rfl⟩
  have hl:(toVs θ l).toArray.size=l.length:=by simp
  have hrun:=Lib.run_from_unsafe (P:=P) w (src:=s) (dst:=d) (e:=t) (cells:=l.length) ⟨θ.blk ob,θ.bas ob + off,none⟩ hs hd hu (by simp [World.shape?,h1]) (by rw [h2,Nat.zero_add];exact hok _ _ _ g2)
  simp [execOp,ho,hX,hrun]
 ·have hX:a.eval X = .pointer none:=(hr θ a hE).2
  refine ⟨.np,.pointer none,θ,h,nx,w,.value _,.refl θ,⟨trivial,rfl⟩,hR,e,?_,rfl⟩
  simp [execOp,ho,hX,convert,Conv.unsafePointer,run_underlying hs,run_underlying hd]
theorem b_nes (hx:XOk x X) (he:ExtC P o Extern.AbiNoEscape.same [X]):OpOk P o (oMv x):=by
 intro en h nx κ w0 pd θ a w hE hR e
 obtain ⟨v,hv,hr⟩:=hx en
 simp only [oMv,hv] at e
 exact ⟨v,a.eval X,θ,h,nx,w,.value _,.refl θ,hr θ a hE,hR,e,he.run rfl,rfl⟩
theorem OR_bt {θ:Th} {w:World} {ob:Nat} {c:Array Value} {ty:TypeId} {fz:Nat × Nat} {l:List AV} (hb:w.heap[θ.blk ob]? = some (.cells c ty fz)) (h0:θ.bas ob=0) (h1:θ.esz ob=1) (h2:θ.siz ob=c.size) (hle:l.length≤c.size)
  (hc:∀ i,i < l.length→c[i]? = (toVs θ l)[i]?) (hby:∀ x ∈ l,byOk x) (hf:Fz fz c.size):OR P θ w ob (.bt ty l):=
 ⟨c,fz,hb,h0,h1,h2,hle,fun i x hx=>by
   have hi:=(List.getElem?_eq_some_iff.1 hx).1
   have hm:=hby x (List.mem_of_getElem? hx)
   refine ⟨?_,hm,(by_ok hm).1⟩
   rw [hc i hi,toVs_get,hx];rfl,hf⟩
theorem by_oks {θ:Th} {l:List AV} (h:∀ x ∈ l,byOk x):Oks θ l:=Oks_iff.2 fun v hv=>(by_ok (h v hv)).1
theorem growB {w0 w:World} {pd:List (Nat × AO)} {θ:Th} {h:H} {nx:Nat} (hR:HR P w0 pd θ h nx w) (hn:nx < 2097152) {t tx ty el:TypeId} {bytes:Nat} {z:List AV} (hs:sizeT P el=some 1) (hb:bytesT P el=some bytes) (hz:zeroT P el=some z) (hzl:z.length=1)
  {base:Option Addr} {sLen sCap m:Nat} {old new:List AV} {u:Value} (hlo:old.length=sLen) (hln:new.length=m) (h1o:∀ x ∈ old,byOk x) (h1n:∀ x ∈ new,byOk x)
  (hold:(Builtin.firstCells 1 sLen (.slice base sLen sCap)).run P w.drew = .ok (toVs θ old).toArray w.drew) (hsrc:Apd P t tx ty el u m (toVs θ new) w) (hcap:sCap < sLen + m)
  (hneed:sLen + m≤1073741824) (hby:(sLen + m) * bytes≤70368744177664) :
  ∃ v θ' w',θ.le θ'∧VR θ' (.sl nx 0 (sLen + m) none) v∧HR P w0 pd θ' (setO h nx (.bt el (old ++ new))) (nx + 1) w'∧(Builtin.append_ #[t,tx] ty #[.slice base sLen sCap,u]).run P w = .ok v w':=by
 obtain ⟨ti,zv,i1,i2,i3,i4⟩:=zeroT_some hz
 obtain ⟨ti',j1,j2⟩:=sizeT_info hs
 have:ti' = ti:=by rw [i1] at j1;injection j1 with j1;exact j1.symm
 subst this
 obtain ⟨ti'',j3,j4⟩:∃ i,P.info? el=some i∧i.bytes=bytes:=by
  unfold bytesT at hb
  exact Option.map_eq_some_iff.1 hb
 have:ti'' = ti':=by rw [i1] at j3;injection j3 with j3;exact j3.symm
 subst this
 subst j4
 have h63:((sLen + m:Nat):Int)≤9223372036854775807:=by omega
 have hfit:=growslice_fits (need:=sLen + m) (old:=sCap) (bytes:=ti''.bytes) hcap (by omega)
 have hr:=hsrc.grow i1 i2 (by rw [j2];exact hold) hcap h63 hfit
 obtain ⟨G,hG⟩:∃ G,G=grownCap w (sLen + m) sCap el:=⟨_,rfl⟩
 have hge:sLen + m≤G:=by rw [hG];exact grownCap_ge w (sLen + m) sCap el
 rw [← hG] at hr
 obtain ⟨c,hc⟩:∃ c,c=(toVs θ old ++ toVs θ new).toArray ++ Builtin.zeroCells zv.cells (G - (sLen + m)):=⟨_,rfl⟩
 rw [← hc] at hr
 have hzs:zv.cells.size=1:=by rw [(i4 θ).2];simp [hzl]
 have hcs:c.size=G:=by
  rw [hc]
  simp only [Array.size_append,List.size_toArray,List.length_append,toVs_length,hlo,hln,size_zeroCells,hzs]
  omega
 have hle:=Th.le_put (fun hx=>Nat.lt_irrefl _ (hR.own nx hx).1) w.heap.size 0 G 1
 have hbn:∀ x ∈ old ++ new,byOk x:=fun x hx=>(List.mem_append.1 hx).elim (h1o x) (h1n x)
 obtain ⟨k1,k2⟩:=hR.new (w':=w.drew.alloc (.cells c el)) (ob:=.cells c el) rfl ⟨rfl,rfl,rfl⟩ hn (a:=.bt el (old ++ new)) (bs:=0) (sz:=G) (es:=1) (by
  refine OR_bt (c:=c) (fz:=(0,0)) ?_ (by simp) (by simp) (by rw [Th.put_siz,hcs]) (by rw [List.length_append,hlo,hln,hcs];exact hge) (fun i hi=>?_) hbn (.inl rfl)
  ·rw [Th.put_blk]
   show (w.heap.push _)[w.heap.size]? = _
   simp
  ·rw [(monos hle (old ++ new) (by_oks hbn)).1,toVs_append,hc,Array.getElem?_append_left (by simpa using hi),List.getElem?_toArray]) (fun x hx=>by cases hx)
 refine ⟨_,_,_,k2,⟨Th.put_has ..,?_⟩,k1,hr⟩
 simp only [toV,Th.put_blk,Th.put_bas,Th.put_siz,Th.put_esz,Nat.zero_add,Nat.sub_zero,Nat.div_one]
theorem b_apb {t tx el:TypeId} {bytes:Nat} {zz:List AV} {c:Call} (hx:XOk x X) (hy:XOk y Y) (hu:P.underlying t=some (.slice el)) (hk:(∃ e',P.underlying tx=some (.slice e'))∨P.underlying tx=some .string)
  (hs:sizeT P el=some 1) (hb:bytesT P el=some bytes) (hz:zeroT P el=some zz) (hzl:zz.length=1) (hc:c.callee = .builtin .append) (ha:c.args.toList=[X,Y]) (ht:c.argTypes.toList=[t,tx]) (ho:o.op = .call c):OpOk P o (oApb el bytes x y):=by
 intro en h nx κ w0 pd θ a w hE hR e
 obtain ⟨v,hv,hr⟩:=hx en
 obtain ⟨v2,hv2,hr2⟩:=hy en
 simp only [oApb,hv,hv2] at e
 obtain ⟨new,m,e1,hln,hon,h1n,hsrc,_⟩:=src_ok hR (hr2 θ a hE) e hk
 obtain ⟨hall,e2⟩:=br_t e1
 have hbn:=(allBy_ok (θ:=θ) hall hon).1
 obtain ⟨ti,i1,i2⟩:=sizeT_info hs
 have hlm:new.length=m:=by simpa using hln
 rw [← i2] at hsrc
 have hap:=src_apd (ty:=o.type) hu i1 hsrc
 have run:∀ {u w'},(Builtin.append_ #[t,tx] o.type #[a.eval X,a.eval Y]).run P w = .ok u w'→(execOp a.eval o).run P w = .ok (.value u) w':=by
  intro u w' hw
  obtain ⟨ca,cargs,ct⟩:=c
  have ha':cargs = #[X,Y]:=by cases cargs;simp_all
  have ht':ct = #[t,tx]:=by cases ct;simp_all
  simp only at hc
  subst ha' ht' hc
  simp only [execOp,ho,resolve,invoke,builtin,Sem.run_bind,Sem.run_pure,Result.andThen,List.map_toArray,List.map_cons,List.map_nil,hw]
 cases v<;>first | (cases e2;done) | skip
 ·rename_i ob off len cap
  cases cap with
  | some cp=>cases e2
  | none=>
   obtain ⟨hX,hhas⟩:=(hr θ a hE).sln
   obtain ⟨g0,e3⟩:=br_t e2
   have g0:off=0:=Nat.eq_of_beq_eq_true g0
   subst g0
   obtain ⟨ab,hab,e4⟩:=get_true e3
   cases ab<;>first | (cases e4;done) | skip
   rename_i t' l
   obtain ⟨g1,e5⟩:=br_t e4
   have g1:t' = el:=Nat.eq_of_beq_eq_true g1
   subst g1
   obtain ⟨g2,e6⟩:=br_t e5
   rw [lenN_eq] at g2
   have g2:l.length=len:=Nat.eq_of_beq_eq_true g2
   rw [fnat_eq] at e6
   obtain ⟨_,f2,f3,e7⟩:=fits_true e6
   rw [appK_eq,put_eq] at e7
   obtain ⟨hn,e8⟩:=newK_true e7
   obtain ⟨cc,fz,o1,o2,o3,o4,o5,o6,o7⟩:=hR.obj_ hhas hab
   have hbl:∀ x ∈ l,byOk x:=fun x hx=>by obtain ⟨i,hi⟩:=List.getElem?_of_mem hx;exact (o6 i x hi).2.1
   have hba:∀ x ∈ l ++ new,byOk x:=fun x hx=>(List.mem_append.1 hx).elim (hbl x) (hbn x)
   have hci:∀ i,i < l.length→cc[i]? = (toVs θ l)[i]?:=fun i hi=>by
    rw [(o6 i _ (List.getElem?_eq_getElem hi)).1,toVs_get,List.getElem?_eq_getElem hi];rfl
   rw [o2,o3,o4,Nat.sub_zero,Nat.div_one,Nat.zero_add] at hX
   by_cases hroom:len + m≤cc.size
   ·have hrun:=hap.room (b:=θ.blk ob) (off:=0) (sLen:=len) (sCap:=cc.size) i1 hroom
     (fun j hj=>by
       rw [toVs_length,hlm] at hj
       rw [i2,cell_of_row w _ _ _ _ _ o1,Array.getElem?_eq_getElem (by omega)];rfl)
     (fun j hj=>by
       rw [toVs_length,hlm] at hj
       simp only [World.frozen?,o1];rw [i2];exact o7.free _ (by omega))
    rw [i2,Nat.zero_add,Nat.mul_one] at hrun
    obtain ⟨c',s1,s2,s3⟩:=setCells_blk (θ.blk ob) t' fz (toVs θ new) len w cc o1 (by rw [toVs_length,hlm];omega)
    obtain ⟨k1,k2⟩:=hR.drop (w':=w.setCells (θ.blk ob) len (toVs θ new)) hhas hab rfl rfl (setCells_plain _ _ _ _).2 (fun b hb=>setCells_other _ _ _ _ b hb) (setCells_plain _ _ _ _).1
    have hle:=Th.le_put (fun hx=>Nat.lt_irrefl _ (k1.own nx hx).1) (θ.blk ob) 0 cc.size 1
    obtain ⟨q1,q2⟩:=k1.newAt hhas k2 hn (a:=.bt t' (l ++ new)) (bs:=0) (sz:=cc.size) (es:=1) (by
     refine OR_bt (c:=c') (fz:=fz) (by rw [Th.put_blk];exact s1) (by simp) (by simp) (by rw [Th.put_siz,s2]) (by rw [List.length_append,g2,hlm,s2];exact hroom) (fun i hi=>?_) hba (by rw [s2];exact o7)
     rw [List.length_append,hlm] at hi
     rw [s3,(monos hle (l ++ new) (by_oks hba)).1,toVs_append]
     by_cases hio:i < l.length
     ·rw [if_neg (by omega),hci i hio,List.getElem?_append_left (by simpa using hio)]
     ·rw [if_pos (by rw [toVs_length,hlm];omega),List.getElem?_append_right (by simpa using hio),toVs_length,g2]) rfl
    refine ⟨.sl nx 0 (len + m) none,_,_,_,_,_,.value _,q2,⟨Th.put_has ..,rfl⟩,q1,e8,run (by rw [hX];exact hrun),?_⟩
    show some _=some _
    simp only [toV,Th.put_blk,Th.put_bas,Th.put_siz,Th.put_esz,Nat.add_zero,Nat.sub_zero,Nat.div_one]
   ·obtain ⟨k1,_⟩:=hR.drop (w':=w) hhas hab rfl rfl rfl (fun _ _=>rfl) ⟨rfl,rfl,rfl⟩
    have hold:(Builtin.firstCells 1 len (.slice (some ⟨θ.blk ob,0,none⟩) len cc.size)).run P w.drew = .ok (toVs θ l).toArray w.drew:=
     run_firstCells_some w.drew 1 len ⟨θ.blk ob,0,none⟩ len _ (toVs θ l) (by rw [toVs_length];omega) (fun j u hj=>by
      rw [Addr.add_lit,cell_of_heap (w:=w) (w':=w.drew) rfl,cell_of_row w _ _ _ _ _ o1,Nat.zero_add,hci j (by have:=(List.getElem?_eq_some_iff.1 hj).1;simpa using this)]
      exact hj)
    obtain ⟨v,θ',w',q1,q2,q3,q4⟩:=growB (ty:=o.type) k1 hn hs hb hz hzl g2 hlm hbl hbn hold hap (by omega) f2 f3
    exact ⟨_,v,θ',_,_,w',.value v,q1,q2,q3,e8,run (by rw [hX];exact q4),rfl⟩
 ·have hX:a.eval X = .slice none 0 0:=(hr θ a hE).2
  obtain ⟨_,f2,f3,e3⟩:=fits_true e2
  obtain ⟨g1,e4⟩:=br_f e3
  have hm:m≠0:=fun h=>by subst h;cases g1
  obtain ⟨hn,e5⟩:=newK_true e4
  obtain ⟨v,θ',w',q1,q2,q3,q4⟩:=growB (ty:=o.type) hR hn hs hb hz hzl (sLen:=0) (old:=[]) (new:=new) rfl hlm (fun x hx=>by cases hx) hbn (run_firstCells_none w.drew 1 0 0 0) hap (by omega) (by omega) (by rw [Nat.zero_add];exact f3)
  rw [Nat.zero_add] at q2
  exact ⟨_,v,θ',_,_,w',.value v,q1,q2,q3,e5,run (by rw [hX];exact q4),rfl⟩
theorem u8_eq {a b:Nat} (ha:a < 256) (hb:b < 256):(UInt8.ofNat a == UInt8.ofNat b)=Nat.beq a b:=by
 have h1:(UInt8.ofNat a).toNat=a:=by simp [Nat.mod_eq_of_lt ha]
 have h2:(UInt8.ofNat b).toNat=b:=by simp [Nat.mod_eq_of_lt hb]
 cases h:Nat.beq a b with
 | true=>rw [Nat.eq_of_beq_eq_true h];simp
 | false=>
  have:a≠b:=fun e=>by subst e;simp at h
  rw [beq_eq_false_iff_ne]
  intro e
  exact this (by rw [← h1,← h2,e])
theorem br_eq (c:Bool) (a b:R):br c a b=if c then a else b:=by cases c<;>rfl
theorem cntL_aux {c:Nat} (hc:c < 256) {κ:Nat→R}:∀ (l:List Nat) (n:Nat),(∀ x ∈ l,x < 256)→
  @List.rec Nat (fun _=>Nat→R) (fun n=>κ n) (fun x _ ih n=>br (Nat.beq x c) (fnat (Nat.succ n) ih) (ih n)) l n=κ (n + Lib.countByte (l.map UInt8.ofNat) (UInt8.ofNat c))
 | [],n,_=>by simp [Lib.countByte]
 | x :: l,n,h=>by
  have hx:=h x (List.mem_cons_self ..)
  have ih:=fun n=>cntL_aux hc (κ:=κ) l n (fun y hy=>h y (List.mem_cons_of_mem _ hy))
  show br (Nat.beq x c) (fnat (Nat.succ n) _) (_:R)=_
  rw [fnat_eq,br_eq,ih,ih]
  unfold Lib.countByte
  rw [List.map_cons,List.count_cons,u8_eq hx hc]
  by_cases hb:Nat.beq x c=true
  ·rw [if_pos hb,if_pos hb];congr 1;omega
  ·rw [if_neg hb,if_neg hb];congr 1
theorem idxL_aux {c:Nat} (hc:c < 256) {κ:Int→R}:∀ (l:List Nat) (n:Nat),(∀ x ∈ l,x < 256)→
  @List.rec Nat (fun _=>Nat→R) (fun _=>κ (.negSucc 0)) (fun x _ ih n=>br (Nat.beq x c) (κ (.ofNat n)) (fnat (Nat.succ n) ih)) l n =
   κ (if Lib.indexByte (l.map UInt8.ofNat) (UInt8.ofNat c) = -1 then -1 else Lib.indexByte (l.map UInt8.ofNat) (UInt8.ofNat c) + n)
 | [],n,_=>by simp [Lib.indexByte]
 | x :: l,n,h=>by
  have hx:=h x (List.mem_cons_self ..)
  have ih:=fun n=>idxL_aux hc (κ:=κ) l n (fun y hy=>h y (List.mem_cons_of_mem _ hy))
  show br (Nat.beq x c) (κ (.ofNat n)) (fnat (Nat.succ n) _)=_
  rw [fnat_eq,br_eq,ih]
  have hge:=Lib.indexByte_ge (l.map UInt8.ofNat) (UInt8.ofNat c)
  have e:Lib.indexByte ((x :: l).map UInt8.ofNat) (UInt8.ofNat c)=if Nat.beq x c then 0 else if Lib.indexByte (l.map UInt8.ofNat) (UInt8.ofNat c) == -1 then -1 else Lib.indexByte (l.map UInt8.ofNat) (UInt8.ofNat c) + 1:=by
   rw [List.map_cons,Lib.indexByte,u8_eq hx hc]
  rw [e]
  by_cases h1:Nat.beq x c=true
  ·simp [h1]
  ·simp only [h1,Bool.false_eq_true,if_false]
   by_cases h2:Lib.indexByte (l.map UInt8.ofNat) (UInt8.ofNat c) = -1
   ·simp [h2]
   ·have h3:(Lib.indexByte (l.map UInt8.ofNat) (UInt8.ofNat c) == -1)=false:=by rw [beq_eq_false_iff_ne];exact h2
    have h4:¬ (Lib.indexByte (l.map UInt8.ofNat) (UInt8.ofNat c) + 1 = -1):=by omega
    simp only [h2,h3,h4,if_false,Bool.false_eq_true]
    congr 1
    omega
theorem asKN {k:Nat} {κ:Nat→R} {v:AV} (e:asK k (fun n=>@Int.rec (fun _=>R) κ (fun _=>false) n) v=true):∃ n:Nat,v = .i k (.ofNat n)∧κ n=true:=by
 obtain ⟨n,rfl,e1⟩:=asK_true e
 cases n with
 | ofNat n=>exact ⟨n,rfl,e1⟩
 | negSucc n=>cases e1
theorem cntT_true {c:Nat} (hc:c < 256) {κ:Nat→R}:∀ (l:List AV) (n:Nat),cntT c l κ n=true→∃ r,(∀ κ',cntT c l κ' n=κ' r)∧κ r=true∧
  ∀ θ,(∀ v ∈ l,byOk v)→r=n + Lib.countByte (l.map (byV θ)) (UInt8.ofNat c)
 | [],n,e=>⟨n,fun _=>rfl,e,fun θ _=>by simp [Lib.countByte]⟩
 | x :: l,n,e=>by
  have step:∀ κ',cntT c (x :: l) κ' n=byEq x (.i 4 (.ofNat c)) fun q=>br q (fnat (Nat.succ n) (cntT c l κ')) (cntT c l κ' n):=fun _=>rfl
  rw [step] at e
  obtain ⟨q,q1,e1,q2⟩:=byEq_true e
  have hq:∀ θ,(∀ v ∈ x :: l,byOk v)→q=(byV θ x == UInt8.ofNat c):=fun θ h=>(q2 θ (h x (by simp)) (.inl ⟨c,rfl,hc⟩)).1
  cases q with
  | true=>
   have e1:fnat (Nat.succ n) (cntT c l κ)=true:=e1
   rw [fnat_eq] at e1
   obtain ⟨r,k1,k2,k3⟩:=cntT_true hc l (n + 1) e1
   refine ⟨r,fun κ'=>by rw [step,q1];show fnat (Nat.succ n) (cntT c l κ')=_;rw [fnat_eq];exact k1 κ',k2,fun θ h=>?_⟩
   rw [k3 θ fun v hv=>h v (List.mem_cons_of_mem _ hv)]
   unfold Lib.countByte
   rw [List.map_cons,List.count_cons,← hq θ h,if_pos rfl]
   omega
  | false=>
   obtain ⟨r,k1,k2,k3⟩:=cntT_true hc l n e1
   refine ⟨r,fun κ'=>by rw [step,q1];exact k1 κ',k2,fun θ h=>?_⟩
   rw [k3 θ fun v hv=>h v (List.mem_cons_of_mem _ hv)]
   unfold Lib.countByte
   rw [List.map_cons,List.count_cons,← hq θ h,if_neg (by decide)]
   rfl
theorem idxT_true {c:Nat} (hc:c < 256) {κ:Int→R}:∀ (l:List AV) (n:Nat),idxT c l κ n=true→∃ r,(∀ κ',idxT c l κ' n=κ' r)∧κ r=true∧
  ∀ θ,(∀ v ∈ l,byOk v)→r=if Lib.indexByte (l.map (byV θ)) (UInt8.ofNat c) = -1 then -1 else Lib.indexByte (l.map (byV θ)) (UInt8.ofNat c) + n
 | [],n,e=>⟨.negSucc 0,fun _=>rfl,e,fun θ _=>by simp [Lib.indexByte]⟩
 | x :: l,n,e=>by
  have step:∀ κ',idxT c (x :: l) κ' n=byEq x (.i 4 (.ofNat c)) fun q=>br q (κ' (.ofNat n)) (fnat (Nat.succ n) (idxT c l κ')):=fun _=>rfl
  rw [step] at e
  obtain ⟨q,q1,e1,q2⟩:=byEq_true e
  have hq:∀ θ,(∀ v ∈ x :: l,byOk v)→q=(byV θ x == UInt8.ofNat c):=fun θ h=>(q2 θ (h x (by simp)) (.inl ⟨c,rfl,hc⟩)).1
  cases q with
  | true=>
   refine ⟨.ofNat n,fun κ'=>by rw [step,q1];rfl,e1,fun θ h=>?_⟩
   have e:Lib.indexByte ((x :: l).map (byV θ)) (UInt8.ofNat c)=0:=by
    rw [List.map_cons,Lib.indexByte,← hq θ h,if_pos rfl]
   rw [e]
   simp
  | false=>
   have e1:fnat (Nat.succ n) (idxT c l κ)=true:=e1
   rw [fnat_eq] at e1
   obtain ⟨r,k1,k2,k3⟩:=idxT_true hc l (n + 1) e1
   refine ⟨r,fun κ'=>by rw [step,q1];show fnat (Nat.succ n) (idxT c l κ')=_;rw [fnat_eq];exact k1 κ',k2,fun θ h=>?_⟩
   rw [k3 θ fun v hv=>h v (List.mem_cons_of_mem _ hv)]
   have hge:=Lib.indexByte_ge (l.map (byV θ)) (UInt8.ofNat c)
   have e:Lib.indexByte ((x :: l).map (byV θ)) (UInt8.ofNat c)=if Lib.indexByte (l.map (byV θ)) (UInt8.ofNat c) == -1 then -1 else Lib.indexByte (l.map (byV θ)) (UInt8.ofNat c) + 1:=by
    rw [List.map_cons,Lib.indexByte,← hq θ h,if_neg (by decide)]
   rw [e]
   by_cases h2:Lib.indexByte (l.map (byV θ)) (UInt8.ofNat c) = -1
   ·simp [h2]
   ·have h3:(Lib.indexByte (l.map (byV θ)) (UInt8.ofNat c) == -1)=false:=by rw [beq_eq_false_iff_ne];exact h2
    have h4:¬ (Lib.indexByte (l.map (byV θ)) (UInt8.ofNat c) + 1 = -1):=by omega
    simp only [h2,h3,h4,if_false,Bool.false_eq_true]
    omega
theorem idxN_true {N:Nat} (hN:Lim 256 N):∀ (l:List Nat) (p r A:Nat) (κ:Nat→R),(∀ x ∈ l,x < 256)→p + l.length≤4096→(∀ i,i < 4096→ln i r≤1∧ln i A < 4096∧(ln i r=1→ln i A=0))→
  idxN N l κ p r A=true→∃ M,(∀ κ',idxN N l κ' p r A=κ' M)∧κ M=true∧∀ j,j < 4096→ln j M < 4096∧(ln j r=0→ln j M=ln j A)∧
   (ln j r=1→∃ i:Nat,Lib.indexByte (l.map UInt8.ofNat) (UInt8.ofNat (ln j N))=(i:Int)∧ln j M=p + i)
 | [],p,r,A,κ,_,_,hI,e=>by
  obtain ⟨b1,e1⟩:=br_t (show br (Nat.beq r 0) (κ A) false=true from e)
  have b1':=Nat.eq_of_beq_eq_true b1
  refine ⟨A,fun κ'=>?_,e1,fun j hj=>⟨(hI j hj).2.1,fun _=>rfl,fun h=>?_⟩⟩
  ·show br (Nat.beq r 0) (κ' A) false=_
   rw [b1];rfl
  ·subst b1'
   rw [ln_nought] at h
   cases h
 | x :: l,p,r,A,κ,hx,hp,hI,e=>by
  have step:∀ κ',idxN N (x :: l) κ' p r A=idxN N l κ' (p + 1) (Nat.xor r (Nat.land r (Nat.xor LO (ltm 0 (Nat.xor N (Nat.mul LO x)))))) (Nat.add A (Nat.mul (Nat.land r (Nat.xor LO (ltm 0 (Nat.xor N (Nat.mul LO x))))) p)):=by
   intro κ'
   show fnat _ (fun Y=>fnat (Nat.xor r Y) fun r=>fnat (Nat.add A (Nat.mul Y p)) fun A=>fnat (Nat.succ p) fun p=>idxN N l κ' p r A)=_
   simp only [fnat_eq]
  have hxl:x < 256:=hx x (by simp)
  have hL:∀ i,i < 4096→ln i (Nat.mul LO x)=x:=fun i hi=>by rw [mul_is];exact ln_LO (by omega) hi
  have hX:Lim (2 ^ 64) (Nat.xor N (Nat.mul LO x)):=by
   intro i hi
   rw [xor_is,ln_xor,hL i hi]
   have h1:=hN i hi
   exact Nat.lt_trans (Nat.xor_lt_two_pow (n:=8) (by omega) (by omega)) (by decide)
  have hY:∀ i,i < 4096→ln i (Nat.land r (Nat.xor LO (ltm 0 (Nat.xor N (Nat.mul LO x)))))=if ln i r=1∧ln i N=x then 1 else 0:=by
   intro i hi
   rw [land_is,ln_and,xor_is LO,ln_xor,ln_ones hi,ln_ltm hi lim_nought hX,ln_nought,xor_is N,ln_xor,hL i hi]
   have h1:=(hI i hi).1
   by_cases hx0:ln i N=x
   ·rw [hx0,Nat.xor_self]
    have:ln i r=0∨ln i r=1:=by omega
    rcases this with h | h<;>simp [h]
   ·have hne:0 < ln i N ^^^ x:=by
     rcases Nat.eq_zero_or_pos (ln i N ^^^ x) with h | h
     ·exact absurd (by have h9:=congrArg (fun z=>z ^^^ x) h;simpa [Nat.xor_assoc] using h9) hx0
     ·exact h
    rw [if_pos hne]
    simp [hx0]
  generalize hYe:Nat.land r (Nat.xor LO (ltm 0 (Nat.xor N (Nat.mul LO x))))=Y at step hY
  rw [step] at e
  have hY1:∀ i,i < 4096→ln i Y≤1:=fun i hi=>by rw [hY i hi];split<;>omega
  have hm:∀ i,i < 4096→ln i (Nat.mul Y p)=ln i Y * p:=fun i hi=>by
   rw [mul_is]
   refine ln_mul fun i' hi'=>?_
   have:=Nat.mul_le_mul_right p (hY1 i' (by omega))
   have h4:p < 2 ^ 128:=Nat.lt_of_lt_of_le (show p < 4097 by omega) (by decide)
   omega
  have hA:∀ i,i < 4096→ln i (Nat.add A (Nat.mul Y p))=ln i A + ln i Y * p:=fun i hi=>by
   rw [add_is,ln_add (fun i' hi'=>?_),hm i hi]
   rw [hm i' (by omega)]
   have h1:=Nat.mul_le_mul_right p (hY1 i' (by omega))
   have h2:=(hI i' (by omega)).2.1
   have h4:(8192:Nat) < 2 ^ 128:=by decide
   have h5:p≤4096:=by omega
   omega
  have hr:∀ i,i < 4096→ln i (Nat.xor r Y)=if ln i r=1∧ln i N≠x then 1 else 0:=fun i hi=>by
   rw [xor_is,ln_xor,hY i hi]
   have h1:=(hI i hi).1
   have:ln i r=0∨ln i r=1:=by omega
   rcases this with h | h
   ·simp [h]
   ·by_cases hx0:ln i N=x<;>simp [h,hx0]
  obtain ⟨M,k1,k2,k3⟩:=idxN_true hN l (p + 1) _ _ κ (fun y hy=>hx y (List.mem_cons_of_mem _ hy)) (by simp at hp;omega) (fun i hi=>by
   rw [hr i hi,hA i hi,hY i hi]
   have h1:=hI i hi
   have hpl:p < 4096:=by simp at hp;omega
   refine ⟨by split<;>omega,?_,fun h=>?_⟩
   ·split
    ·rename_i hh;rw [h1.2.2 hh.1];omega
    ·omega
   ·split at h
    ·rename_i hh
     rw [if_neg (fun h'=>hh.2 h'.2),h1.2.2 hh.1,Nat.zero_mul]
    ·cases h) e
  refine ⟨M,fun κ'=>by rw [step];exact k1 κ',k2,fun j hj=>?_⟩
  obtain ⟨q1,q2,q3⟩:=k3 j hj
  rw [hr j hj,hA j hj,hY j hj] at q2
  rw [hr j hj] at q3
  refine ⟨q1,fun h=>?_,fun h=>?_⟩
  ·have:=q2 (by rw [if_neg (fun h'=>by omega)])
   rw [this,if_neg (fun h'=>by omega),Nat.zero_mul,Nat.add_zero]
  ·have hNl:=hN j hj
   by_cases hx0:ln j N=x
   ·have:=q2 (by rw [if_neg (fun h'=>h'.2 hx0)])
    rw [(hI j hj).2.2 h,if_pos ⟨h,hx0⟩] at this
    refine ⟨0,?_,by rw [this];omega⟩
    rw [List.map_cons,Lib.indexByte,hx0]
    simp
   ·obtain ⟨i,i1,i2⟩:=q3 (by rw [if_pos ⟨h,hx0⟩])
    refine ⟨i + 1,?_,by rw [i2];omega⟩
    have hb:(UInt8.ofNat x == UInt8.ofNat (ln j N))=false:=by
     rw [beq_eq_false_iff_ne]
     exact fun h'=>hx0 ((ofNat_inj hxl hNl).1 h').symm
    have hi:((i:Int) == -1)=false:=by rw [beq_eq_false_iff_ne];omega
    rw [List.map_cons,Lib.indexByte,hb,i1,hi]
    simp
theorem b_cnt (hx:XOk x X) (hy:XOk y Y) (he:ExtC P o Extern.BytealgCount.count [X,Y]):OpOk P o (oCnt x y):=by
 intro en h nx κ w0 pd θ a w hE hR e
 obtain ⟨v,hv,hr⟩:=hx en
 obtain ⟨v2,hv2,hr2⟩:=hy en
 simp only [oCnt,hv,hv2] at e
 obtain ⟨c,rfl,e2⟩:=asKN e
 obtain ⟨g,e3⟩:=br_t e2
 have hc:c < 256:=by simpa [Nat.blt_eq] using g
 have hY:=(hr2 θ a hE).i
 by_cases ht:∃ l,v = .t l
 ·obtain ⟨l,rfl⟩:=ht
  obtain ⟨r,_,k2,k3⟩:=cntT_true hc l 0 (show cntT c l (fun n=>κ (.i 3 (.ofNat n)) h nx) 0=true from e3)
  have hX:a.eval X = .string (txV θ l):=(hr θ a hE).2
  have k3:=k3 θ (hr θ a hE).1
  rw [Nat.zero_add] at k3
  refine ⟨.i 3 (.ofNat r),.int .i64 (r:Nat),θ,h,nx,w,.value _,.refl θ,⟨trivial,rfl⟩,hR,k2,he.run ?_,rfl⟩
  have:=Lib.run_countString (P:=P) (txV θ l) (c:Int) w
  show (Extern.BytealgCount.count #[a.eval X,a.eval Y]).run P w=_
  rw [hX,hY,k3]
  exact this
 have e4:asS (fun l=>cntL c l fun n=>κ (.i 3 (.ofNat n)) h nx) v=true:=by
  cases v<;>first | exact e3 | exact absurd ⟨_,rfl⟩ ht
 obtain ⟨l,hl0,e5⟩:=asS_true e4
 subst hl0
 obtain ⟨hX,hl⟩:=(hr θ a hE).s
 rw [show cntL c l _=_ from cntL_aux hc l 0 hl,Nat.zero_add] at e5
 refine ⟨.i 3 (.ofNat (Lib.countByte (l.map UInt8.ofNat) (UInt8.ofNat c))),.int .i64 (Lib.countByte (l.map UInt8.ofNat) (UInt8.ofNat c):Nat),θ,h,nx,w,.value _,.refl θ,⟨trivial,rfl⟩,hR,e5,he.run ?_,rfl⟩
 have:=Lib.run_countString (P:=P) (bytesOf l) (c:Int) w
 show (Extern.BytealgCount.count #[a.eval X,a.eval Y]).run P w=_
 rw [hX,hY]
 exact this
theorem b_idx (hx:XOk x X) (hy:XOk y Y) (he:ExtC P o Extern.BytealgIndexByte.indexByte [X,Y]):OpOk P o (oIdx x y):=by
 intro en h nx κ w0 pd θ a w hE hR e
 obtain ⟨v,hv,hr⟩:=hx en
 obtain ⟨v2,hv2,hr2⟩:=hy en
 simp only [oIdx,hv,hv2] at e
 by_cases hL:∃ k N,v2 = .l k N
 ·obtain ⟨k,N,rfl⟩:=hL
  obtain ⟨b1,e1⟩:=br_t (show br (Nat.beq k 4) (asS (fun l=>br (Nat.ble (lenN Nat l) 4096) (idxN N l (fun A=>κ (.l 3 A) h nx) 0 LO 0) false) v) false=true from e)
  have b1':=Nat.eq_of_beq_eq_true b1
  subst b1'
  obtain ⟨l,rfl,e2⟩:=asS_true e1
  obtain ⟨b2,e3⟩:=br_t e2
  rw [lenN_eq] at b2
  have b2':l.length≤4096:=Nat.le_of_ble_eq_true b2
  obtain ⟨hX,hl⟩:=(hr θ a hE).s
  obtain ⟨la,hY⟩:=(hr2 θ a hE).l (by decide)
  obtain ⟨M,_,k2,k3⟩:=idxN_true la l 0 LO 0 _ hl (by omega) (fun i hi=>by rw [ln_ones hi,ln_nought];omega) e3
  obtain ⟨_,_,q3⟩:=k3 θ.lane θ.lane_lt
  obtain ⟨i,i1,i2⟩:=q3 (ln_ones θ.lane_lt)
  have hlim:Lim (khi 3) M:=fun j hj=>Nat.lt_trans (k3 j hj).1 (by decide)
  refine ⟨.l 3 M,.int .i64 (ln θ.lane M:Nat),θ,h,nx,w,.value _,.refl θ,vr_l θ (by decide) hlim,hR,k2,he.run ?_,rfl⟩
  have:=Lib.run_indexByteString (P:=P) (bytesOf l) ((ln θ.lane N:Nat):Int) w
  show (Extern.BytealgIndexByte.indexByte #[a.eval X,a.eval Y]).run P w=_
  rw [hX,hY,i2,Nat.zero_add,← i1]
  exact this
 have e:asK 4 (fun c=>@Int.rec (fun _=>R) (fun c=>br (Nat.blt c 256) (idxW c v fun n=>κ (.i 3 n) h nx) false) (fun _=>false) c) v2=true:=by
  cases v2<;>first | exact e | exact absurd ⟨_,_,rfl⟩ hL
 obtain ⟨c,rfl,e2⟩:=asKN e
 obtain ⟨g,e3⟩:=br_t e2
 have hc:c < 256:=by simpa [Nat.blt_eq] using g
 have hY:=(hr2 θ a hE).i
 have hz:∀ z:Int,(if z = -1 then -1 else z + ((0:Nat):Int))=z:=fun z=>by
  split
  ·rename_i h;exact h.symm
  ·simp
 by_cases ht:∃ l,v = .t l
 ·obtain ⟨l,rfl⟩:=ht
  obtain ⟨r,_,k2,k3⟩:=idxT_true hc l 0 (show idxT c l (fun n=>κ (.i 3 n) h nx) 0=true from e3)
  have hX:a.eval X = .string (txV θ l):=(hr θ a hE).2
  have k3:=k3 θ (hr θ a hE).1
  rw [hz] at k3
  refine ⟨.i 3 r,.int .i64 r,θ,h,nx,w,.value _,.refl θ,⟨trivial,rfl⟩,hR,k2,he.run ?_,rfl⟩
  have:=Lib.run_indexByteString (P:=P) (txV θ l) (c:Int) w
  show (Extern.BytealgIndexByte.indexByte #[a.eval X,a.eval Y]).run P w=_
  rw [hX,hY,k3]
  exact this
 have e4:asS (fun l=>idxL c l fun n=>κ (.i 3 n) h nx) v=true:=by
  cases v<;>first | exact e3 | exact absurd ⟨_,rfl⟩ ht
 obtain ⟨l,hl0,e5⟩:=asS_true e4
 subst hl0
 obtain ⟨hX,hl⟩:=(hr θ a hE).s
 rw [show idxL c l _=_ from idxL_aux hc l 0 hl,hz] at e5
 refine ⟨.i 3 (Lib.indexByte (l.map UInt8.ofNat) (UInt8.ofNat c)),.int .i64 (Lib.indexByte (l.map UInt8.ofNat) (UInt8.ofNat c)),θ,h,nx,w,.value _,.refl θ,⟨trivial,rfl⟩,hR,e5,he.run ?_,rfl⟩
 have:=Lib.run_indexByteString (P:=P) (bytesOf l) (c:Int) w
 show (Extern.BytealgIndexByte.indexByte #[a.eval X,a.eval Y]).run P w=_
 rw [hX,hY]
 exact this
theorem b_mnz {t el:TypeId} {ps:Array TypeId} (hx:XOk x X) (ht:P.underlying t=some (.slice el)) (he:ExtC P o (Extern.BytealgMakeNoZero.makeNoZero ps #[t]) [X]):OpOk P o (oMnz el x):=by
 intro en h nx κ w0 pd θ a w hE hR e
 obtain ⟨v,hv,hr⟩:=hx en
 simp only [oMnz,hv] at e
 obtain ⟨n,rfl,e1⟩:=asKN e
 obtain ⟨g,e2⟩:=br_t e1
 have g:n≤1073741824:=Nat.le_of_ble_eq_true g
 obtain ⟨hn,e3⟩:=newK_true e2
 have hX:=(hr θ a hE).i
 obtain ⟨cs,hrun,hle,_⟩:=Lib.run_makeNoZero (P:=P) w ps t el ht n (by omega)
 obtain ⟨k1,k2⟩:=hR.new (w':=w.drew.drew.alloc (.cells cs el)) (ob:=.cells cs el) rfl ⟨rfl,rfl,rfl⟩ hn (a:=.bt el []) (bs:=0) (sz:=cs.size) (es:=1) (by
  refine OR_bt (c:=cs) (fz:=(0,0)) ?_ (by simp) (by simp) (by rw [Th.put_siz]) (Nat.zero_le _) (fun i hi=>by cases hi) (fun x hx=>by cases hx) (.inl rfl)
  rw [Th.put_blk]
  show (w.heap.push _)[w.heap.size]? = _
  simp) (fun x hx=>by cases hx)
 refine ⟨.sl nx 0 n none,.slice (some ⟨w.heap.size,0,none⟩) n cs.size,_,_,_,_,.value _,k2,⟨Th.put_has ..,by simp [toV]⟩,k1,e3,he.run ?_,rfl⟩
 show (Extern.BytealgMakeNoZero.makeNoZero ps #[t] #[a.eval X]).run P w=_
 rw [hX]
 exact hrun
theorem b_usd {ts:List TypeId} {c:Call} (hx:XOk x X) (hc:c.callee = .builtin .unsafeSliceData) (ha:c.args.toList=[X]) (ht:c.argTypes.toList=ts) (ho:o.op = .call c):OpOk P o (oUsd x):=by
 intro en h nx κ w0 pd θ a w hE hR e
 obtain ⟨v,hv,hr⟩:=hx en
 simp only [oUsd,hv] at e
 have run:∀ {u w'},(Builtin.unsafeSliceData_ c.argTypes o.type #[a.eval X]).run P w = .ok u w'→(execOp a.eval o).run P w = .ok (.value u) w':=by
  intro u w' hw
  obtain ⟨ca,cargs,ct⟩:=c
  have ha':cargs = #[X]:=by cases cargs;simp_all
  simp only at hc
  subst ha' hc
  simp only [execOp,ho,resolve,invoke,builtin,Sem.run_bind,Sem.run_pure,Result.andThen,List.map_toArray,List.map_cons,List.map_nil,hw]
 cases v<;>first | (cases e;done) | skip
 ·rename_i ob off len cap
  cases cap with
  | some cp=>cases e
  | none=>
   obtain ⟨hX,hhas⟩:=(hr θ a hE).sln
   obtain ⟨g0,e3⟩:=br_t e
   have g0:off=0:=Nat.eq_of_beq_eq_true g0
   subst g0
   obtain ⟨ab,hab,e4⟩:=get_true e3
   cases ab<;>first | (cases e4;done) | skip
   rename_i t' l
   cases l with
   | nil=>cases e4
   | cons q l=>
    obtain ⟨cc,fz,o1,o2,o3,o4,o5,o6,o7⟩:=hR.obj_ hhas hab
    rw [o3,o4,Nat.sub_zero,Nat.div_one] at hX
    have hcs:cc.size≠0:=by simp at o5;omega
    exact ⟨.p ob 0,.pointer (some ⟨θ.blk ob,θ.bas ob + 0,none⟩),θ,h,nx,w,.value _,.refl θ,⟨hhas,rfl⟩,hR,e4,run (by rw [hX];exact Lib.run_unsafeSliceData_row (P:=P) w _ _ _ _ _ hcs),rfl⟩
 ·have hX:a.eval X = .slice none 0 0:=(hr θ a hE).2
  exact ⟨.np,.pointer none,θ,h,nx,w,.value _,.refl θ,⟨trivial,rfl⟩,hR,e,run (by rw [hX];exact Lib.run_unsafeSliceData_nil (P:=P) w _ _ _ _),rfl⟩
theorem b_ust {pt it el:TypeId} {c:Call} (hx:XOk x X) (hy:XOk y Y) (hp:P.underlying pt=some (.pointer el)) (hs:sizeT P el=some 1) (hc:c.callee = .builtin .unsafeString) (ha:c.args.toList=[X,Y]) (ht:c.argTypes.toList=[pt,it]) (ho:o.op = .call c):OpOk P o (oUst el x y):=by
 intro en h nx κ w0 pd θ a w hE hR e
 obtain ⟨v,hv,hr⟩:=hx en
 obtain ⟨v2,hv2,hr2⟩:=hy en
 simp only [oUst,hv,hv2] at e
 obtain ⟨n,rfl,e1⟩:=asKN e
 have hY:=(hr2 θ a hE).i
 have run:∀ {u w'},(Builtin.unsafeString_ #[pt,it] o.type #[a.eval X,a.eval Y]).run P w = .ok u w'→(execOp a.eval o).run P w = .ok (.value u) w':=by
  intro u w' hw
  obtain ⟨ca,cargs,ct⟩:=c
  have ha':cargs = #[X,Y]:=by cases cargs;simp_all
  have ht':ct = #[pt,it]:=by cases ct;simp_all
  simp only at hc
  subst ha' ht' hc
  simp only [execOp,ho,resolve,invoke,builtin,Sem.run_bind,Sem.run_pure,Result.andThen,List.map_toArray,List.map_cons,List.map_nil,hw]
 cases v<;>first | (cases e1;done) | skip
 ·rename_i ob off
  obtain ⟨hX,hhas⟩:=(hr θ a hE).p
  obtain ⟨g0,e3⟩:=br_t e1
  have g0:off=0:=Nat.eq_of_beq_eq_true g0
  subst g0
  obtain ⟨ab,hab,e4⟩:=get_true e3
  cases ab<;>first | (cases e4;done) | skip
  rename_i t' l
  obtain ⟨g1,e5⟩:=br_t e4
  have g1:t' = el:=Nat.eq_of_beq_eq_true g1
  subst g1
  obtain ⟨g2,e6⟩:=br_t e5
  rw [lenN_eq] at g2
  have g2:l.length=n:=Nat.eq_of_beq_eq_true g2
  subst g2
  obtain ⟨g3,e7⟩:=br_t e6
  obtain ⟨g4,e8⟩:=br_t e7
  have g3:0 < l.length:=by simpa [Nat.blt_eq] using g3
  have g4:l.length < 1073741824:=by simpa [Nat.blt_eq] using g4
  rw [put_eq] at e8
  obtain ⟨tv,_,e9,tv3⟩:=mkTx_true e8
  obtain ⟨cc,fz,o1,o2,o3,o4,o5,o6,o7⟩:=hR.obj_ hhas hab
  have hbl:∀ x ∈ l,byOk x:=fun x hx=>by obtain ⟨i,hi⟩:=List.getElem?_of_mem hx;exact (o6 i x hi).2.1
  obtain ⟨k1,_⟩:=hR.drop (w':=w.freeze ⟨θ.blk ob,0,none⟩ l.length) hhas hab rfl rfl (by unfold World.freeze;split<;>simp)
   (fun b hb=>by unfold World.freeze;split<;>simp [Array.getElem?_modify,Ne.symm hb]) (by unfold World.freeze;split<;>exact ⟨rfl,rfl,rfl⟩)
  have hcell:∀ (j:Nat) (x:UInt8),(l.map (byV θ))[j]? = some x→w.cell? ((⟨θ.blk ob,0,none⟩:Addr).add j)=some (.int .u8 x.toNat):=by
   intro j x hx
   rw [List.getElem?_map] at hx
   obtain ⟨m,hm,rfl⟩:=Option.map_eq_some_iff.1 hx
   obtain ⟨q1,q2,_⟩:=o6 j m hm
   obtain ⟨_,n,hn,h1,h2⟩:=by_ok (θ:=θ) q2
   rw [Addr.add_lit,cell_of_row w _ _ _ _ _ o1,Nat.zero_add,q1,h1,h2,UInt8.toNat_ofNat',Nat.mod_eq_of_lt hn]
  have hrun:=Lib.run_unsafeString_row (P:=P) w pt it o.type t' hp (by obtain ⟨i,i1,i2⟩:=sizeT_info hs;simp [Program.cellsOf,i1,i2]) (θ.blk ob) cc.size (by simp [World.shape?,o1]) (l.map (byV θ)) (by intro h;have:l=[]:=List.map_eq_nil_iff.1 h;subst this;simp at g3)
   (by simpa using o5) (by rw [List.length_map];omega) hcell
  rw [List.length_map] at hrun
  refine ⟨tv,.string (txV θ l),θ,_,nx,_,.value _,.refl θ,tv3 θ hbl,k1,e9,run ?_,rfl⟩
  rw [hX,hY,o2,Nat.zero_add]
  exact hrun
 ·have hX:a.eval X = .pointer none:=(hr θ a hE).2
  obtain ⟨g,e3⟩:=br_t e1
  have g:n=0:=Nat.eq_of_beq_eq_true g
  subst g
  refine ⟨.s [],.string (bytesOf []),θ,h,nx,w,.value _,.refl θ,⟨fun x hx=>(by cases hx),rfl⟩,hR,e3,run ?_,rfl⟩
  rw [hX,hY]
  exact Lib.run_unsafeString_none (P:=P) w pt it o.type none
theorem b_cap {t el:TypeId} {c:Call} (hx:XOk x X) (hu:P.underlying t=some (.slice el)) (hc:c.callee = .builtin .cap) (ha:c.args.toList=[X]) (ht:c.argTypes.toList=[t]) (ho:o.op = .call c):OpOk P o (oCap x):=by
 intro en h nx κ w0 pd θ a w hE hR e
 obtain ⟨v,hv,hr⟩:=hx en
 simp only [oCap,hv] at e
 have run:∀ {b:Option Addr} {n:Nat × Nat},a.eval X = .slice b n.1 n.2→(execOp a.eval o).run P w = .ok (.value (goInt n.2)) w:=by
  intro b n hw
  obtain ⟨ca,cargs,ct⟩:=c
  have ha':cargs = #[X]:=by cases cargs;simp_all
  have ht':ct = #[t]:=by cases ct;simp_all
  simp only at hc
  subst ha' ht' hc
  simp [execOp,ho,resolve,invoke,builtin,hw,Builtin.cap_,run_underlying hu]
 cases v<;>first | (cases e;done) | skip
 ·rename_i ob off len cap
  cases cap with
  | none=>cases e
  | some cp=>
   have hX:=(hr θ a hE).sls.1
   exact ⟨.i 3 (.ofNat cp),goInt cp,θ,h,nx,w,.value _,.refl θ,⟨trivial,rfl⟩,hR,e,run (n:=(len,cp)) hX,rfl⟩
 ·have hX:a.eval X = .slice none 0 0:=(hr θ a hE).2
  exact ⟨.i 3 (.ofNat 0),goInt (0:Nat),θ,h,nx,w,.value _,.refl θ,⟨trivial,rfl⟩,hR,e,run (n:=(0,0)) hX,rfl⟩
theorem b_cpn {t el:TypeId} {size:Nat} {c:Call} (hx:XOk x X) (hy:XOk y Y) (hu:P.underlying t=some (.slice el)) (hs:sizeT P el=some size) (hc:c.callee = .builtin .copy) (ha:c.args.toList=[X,Y]) (ht:∃ r,c.argTypes.toList=t :: r) (ho:o.op = .call c)
  (hk:∃ tx,(∃ e',P.underlying tx=some (.slice e'))∨P.underlying tx=some .string):OpOk P o (oCpn x y):=by
 intro en h nx κ w0 pd θ a w hE hR e
 obtain ⟨v,hv,hr⟩:=hx en
 obtain ⟨v2,hv2,hr2⟩:=hy en
 simp only [oCpn,hv,hv2] at e
 obtain ⟨tx,hk⟩:=hk
 cases v2<;>first | (cases e;done) | skip
 have run:∀ {b n m},a.eval X = .slice b n m→(execOp a.eval o).run P w = .ok (.value (goInt (0:Nat))) w:=by
  intro b n m hX
  obtain ⟨new,k,e1,hon,h1n,hlen,first⟩:=srcN_ok (h:=h) (size:=size) (lim:=0) (κ:=fun _ m=>Nat.beq m 0) hR (hr2 θ a hE) rfl hk
  have hk0:k=0:=Nat.eq_of_beq_eq_true e1
  subst hk0
  obtain ⟨ca,cargs,ct⟩:=c
  have ha':cargs = #[X,Y]:=by cases cargs;simp_all
  obtain ⟨r,ht⟩:=ht
  have ht':ct[0]? = some t:=by rw [← Array.getElem?_toList,ht];rfl
  simp only at hc
  subst ha' hc
  have hf:=first 0 (Nat.zero_le _) (Nat.zero_le _)
  have:(Builtin.copy_ ct o.type #[a.eval X,a.eval Y]).run P w = .ok (goInt (0:Nat)) w:=by
   simp only [Builtin.copy_,ht',hX,List.getElem?_toArray,List.getElem?_cons_zero,List.getElem?_cons_succ,Sem.run_bind,run_underlying hu,Result.andThen,hlen,run_size hs]
   rw [show Nat.min 0 n=0 from Nat.zero_min n,hf]
   simp only [Sem.run_bind,Result.andThen]
   cases b with
   | none=>rfl
   | some A=>
    have:toVs θ (new.take (0 * size))=[]:=by simp [toVs]
    rw [this]
    rfl
  simp only [execOp,ho,resolve,invoke,builtin,Sem.run_bind,Sem.run_pure,Result.andThen,List.map_toArray,List.map_cons,List.map_nil,this]
 cases v<;>first | (cases e;done) | skip
 ·obtain ⟨_,cc,hX⟩:=(hr θ a hE).sl
  exact ⟨.i 3 (.ofNat 0),goInt (0:Nat),θ,h,nx,w,.value _,.refl θ,⟨trivial,rfl⟩,hR,e,run hX,rfl⟩
 ·have hX:a.eval X = .slice none 0 0:=(hr θ a hE).2
  exact ⟨.i 3 (.ofNat 0),goInt (0:Nat),θ,h,nx,w,.value _,.refl θ,⟨trivial,rfl⟩,hR,e,run hX,rfl⟩
theorem ext_ok {c:Call} {f:FuncId} {fn:Func} {xs:List AM.X} (hxs:omap trX c.args.toList=some xs) (ho:o.op = .call c) (hc:c.callee = .value (.func f)) (hf:P.funcs[f]? = some fn) (hb:fn.body.isNone=true) (hog:(fn.origin == fn.name || fn.origin == "")=true) :
  OpOk P o (dI (trExt fn.name xs)):=by
 have hbad:OpOk P o oBad:=fun en h nx κ w0 pd θ a w _ _ e=>by cases e
 have mk:∀ {n:String} {e:Array Value→Sem Value},fn.name=n→(n == "runtime.NumGoroutine")=false→(Extern.allNextRows.lookup n).isNone=true→(Extern.allGenericRows.lookup n).isNone=true→(Extern.allTypedRows.lookup n).isNone=true→Extern.allRows.lookup n=some e→ExtC P o e c.args.toList:=
  fun hn h0 h1 h2 h3 h4=>extC ho hc hf hb hog hn h0 h1 h2 h3 h4
 obtain ⟨hlen,hget⟩:=omap_some hxs
 unfold trExt
 split
 ·have hnil:c.args.toList=[]:=List.eq_nil_of_length_eq_zero (by simpa using hlen)
  split
  ·rename_i hn
   have:=mk (e:=fun _=>do mark .disable;pure Extern.Race.none_) (eq_of_beq hn) (by kernel_rfl) (by kernel_rfl) (by kernel_rfl) (by kernel_rfl) (by kernel_rfl)
   rw [hnil] at this
   exact a_nop this (fun w=>rfl)
  ·split
   ·rename_i hn
    have:=mk (e:=fun _=>do mark .enable;pure Extern.Race.none_) (eq_of_beq hn) (by kernel_rfl) (by kernel_rfl) (by kernel_rfl) (by kernel_rfl) (by kernel_rfl)
    rw [hnil] at this
    exact a_nop this (fun w=>rfl)
   ·exact hbad
 ·rename_i x
  obtain ⟨Y,hY⟩:∃ Y,c.args.toList=[Y]:=List.length_eq_one_iff.1 (by simpa using hlen)
  obtain ⟨x',hx1,hx2⟩:=hget 0 Y (by rw [hY];rfl)
  have:x' = x:=by simpa using hx1.symm
  subst this
  have hx:=x_ok hx2
  rw [hY] at mk
  split
  ·rename_i hn;exact a_ald hx (mk (eq_of_beq hn) (by kernel_rfl) (by kernel_rfl) (by kernel_rfl) (by kernel_rfl) (by kernel_rfl))
  ·split
   ·rename_i hn;exact a_ald hx (mk (eq_of_beq hn) (by kernel_rfl) (by kernel_rfl) (by kernel_rfl) (by kernel_rfl) (by kernel_rfl))
   ·split
    ·rename_i hn;exact a_ald hx (mk (eq_of_beq hn) (by kernel_rfl) (by kernel_rfl) (by kernel_rfl) (by kernel_rfl) (by kernel_rfl))
    ·split
     ·rename_i hn;exact a_ald hx (mk (eq_of_beq hn) (by kernel_rfl) (by kernel_rfl) (by kernel_rfl) (by kernel_rfl) (by kernel_rfl))
     ·split
      ·rename_i hn;exact a_nopp (m:=.acquire) hx (mk (eq_of_beq hn) (by kernel_rfl) (by kernel_rfl) (by kernel_rfl) (by kernel_rfl) (by kernel_rfl))
      ·split
       ·rename_i hn;exact a_nopp (m:=.release) hx (mk (eq_of_beq hn) (by kernel_rfl) (by kernel_rfl) (by kernel_rfl) (by kernel_rfl) (by kernel_rfl))
       ·split
        ·rename_i hn;exact a_nopp (m:=.releaseMerge) hx (mk (eq_of_beq hn) (by kernel_rfl) (by kernel_rfl) (by kernel_rfl) (by kernel_rfl) (by kernel_rfl))
        ·split
         ·rename_i hn;exact b_nes hx (mk (eq_of_beq hn) (by kernel_rfl) (by kernel_rfl) (by kernel_rfl) (by kernel_rfl) (by kernel_rfl))
         ·exact hbad
 ·rename_i x y
  obtain ⟨U,V,hY⟩:∃ U V,c.args.toList=[U,V]:=len_two (by simpa using hlen)
  obtain ⟨x',hx1,hx2⟩:=hget 0 U (by rw [hY];rfl)
  obtain ⟨y',hy1,hy2⟩:=hget 1 V (by rw [hY];rfl)
  have:x' = x:=by simpa using hx1.symm
  subst this
  have:y' = y:=by simpa using hy1.symm
  subst this
  have hx:=x_ok hx2
  have hy:=x_ok hy2
  rw [hY] at mk
  split
  ·rename_i hn;exact a_ast hx hy (mk (eq_of_beq hn) (by kernel_rfl) (by kernel_rfl) (by kernel_rfl) (by kernel_rfl) (by kernel_rfl))
  ·split
   ·rename_i hn;exact a_ast hx hy (mk (eq_of_beq hn) (by kernel_rfl) (by kernel_rfl) (by kernel_rfl) (by kernel_rfl) (by kernel_rfl))
   ·split
    ·rename_i hn;exact a_ast hx hy (mk (eq_of_beq hn) (by kernel_rfl) (by kernel_rfl) (by kernel_rfl) (by kernel_rfl) (by kernel_rfl))
    ·split
     ·rename_i hn;exact a_aad hx hy (mk (eq_of_beq hn) (by kernel_rfl) (by kernel_rfl) (by kernel_rfl) (by kernel_rfl) (by kernel_rfl))
     ·split
      ·rename_i hn;exact a_aad hx hy (mk (eq_of_beq hn) (by kernel_rfl) (by kernel_rfl) (by kernel_rfl) (by kernel_rfl) (by kernel_rfl))
      ·split
       ·rename_i hn;exact a_aad hx hy (mk (eq_of_beq hn) (by kernel_rfl) (by kernel_rfl) (by kernel_rfl) (by kernel_rfl) (by kernel_rfl))
       ·split
        ·rename_i hn;exact b_cnt hx hy (mk (eq_of_beq hn) (by kernel_rfl) (by kernel_rfl) (by kernel_rfl) (by kernel_rfl) (by kernel_rfl))
        ·split
         ·rename_i hn;exact b_idx hx hy (mk (eq_of_beq hn) (by kernel_rfl) (by kernel_rfl) (by kernel_rfl) (by kernel_rfl) (by kernel_rfl))
         ·exact hbad
 ·rename_i x y z
  obtain ⟨U,V,W,hY⟩:∃ U V W,c.args.toList=[U,V,W]:=len_three (by simpa using hlen)
  obtain ⟨x',hx1,hx2⟩:=hget 0 U (by rw [hY];rfl)
  obtain ⟨y',hy1,hy2⟩:=hget 1 V (by rw [hY];rfl)
  obtain ⟨z',hz1,hz2⟩:=hget 2 W (by rw [hY];rfl)
  have:x' = x:=by simpa using hx1.symm
  subst this
  have:y' = y:=by simpa using hy1.symm
  subst this
  have:z' = z:=by simpa using hz1.symm
  subst this
  have hx:=x_ok hx2
  have hy:=x_ok hy2
  have hz:=x_ok hz2
  rw [hY] at mk
  split
  ·rename_i hn;exact a_acs hx hy hz (mk (eq_of_beq hn) (by kernel_rfl) (by kernel_rfl) (by kernel_rfl) (by kernel_rfl) (by kernel_rfl))
  ·split
   ·rename_i hn;exact a_acs hx hy hz (mk (eq_of_beq hn) (by kernel_rfl) (by kernel_rfl) (by kernel_rfl) (by kernel_rfl) (by kernel_rfl))
   ·split
    ·rename_i hn;exact a_acs hx hy hz (mk (eq_of_beq hn) (by kernel_rfl) (by kernel_rfl) (by kernel_rfl) (by kernel_rfl) (by kernel_rfl))
    ·exact hbad
 ·exact hbad
end
end Go.AM

namespace Go.AM
open Go
def Cls (P:Program) (o:Oper) (i:I):Prop:=match clsI i with
 | 0=>PureOk P o (dI i)
 | 1=>ReadOk P o (dI i)
 | 2=>NewOk P o (dI i)
 | _=>OpOk P o (dI i)
section
variable {P:Program} {o:Oper}
theorem Cls.op {i:I} (h:Cls P o i):OpOk P o (dI i):=by
 unfold Cls at h
 split at h
 ·exact h.read.op
 ·exact h.op
 ·exact h.op
 ·exact h
theorem cls_bad:Cls P o .bad:=fun en h nx κ w0 pd θ a w _ _ e=>by cases e
theorem bad_ok {C:I→Prop} (hb:C .bad) {x:Option I} (h:∀ i,x=some i→C i):C (bad .bad x):=by
 cases x with
 | none=>exact hb
 | some i=>exact h i rfl
theorem map2_some {α β γ:Type} {f:α→β→γ} {a:Option α} {b:Option β} {r:γ} (h:map2 f a b=some r):∃ x y,a=some x∧b=some y∧r=f x y:=by
 cases a<;>cases b<;>first | (cases h;done) | skip
 injection h with h
 exact ⟨_,_,rfl,rfl,h.symm⟩
theorem map3_some {α β γ δ:Type} {f:α→β→γ→δ} {a:Option α} {b:Option β} {c:Option γ} {r:δ} (h:map3 f a b c=some r):∃ x y z,a=some x∧b=some y∧c=some z∧r=f x y z:=by
 cases a<;>cases b<;>cases c<;>first | (cases h;done) | skip
 injection h with h
 exact ⟨_,_,_,rfl,rfl,rfl,h.symm⟩
theorem flat_agga {t el:TypeId} {g:Bool} {ks:List Nat} {n:Nat} (hu:P.underlying t=some (.array n el)) (h:flatT P t=some (g,ks)):g=true:=by
 rcases flatT_some h with ⟨_,c,_,hc⟩ | ⟨hg,_⟩
 ·obtain ⟨d,hd,hk⟩:=flatC_some hc
  rw [hu] at hd
  injection hd with hd
  subst hd
  rcases hk with ⟨k,h1,_⟩ | ⟨h1,_⟩ | ⟨h1,_⟩<;>cases h1
 ·exact hg
theorem cls_bin {op:BinOp} {t t2:TypeId} {x y:Operand} (ho:o.op = .binOp op t x y t2):Cls P o (trBin P op t x y):=by
 unfold trBin
 refine bad_ok cls_bad fun i hi=>?_
 obtain ⟨a,b,ha,hb,rfl⟩:=map2_some hi
 have hx:=x_ok ha
 have hy:=x_ok hb
 split
 ·rename_i k hu
  exact p_bin (k:=kn k) hx hy ho
 ·exact p_bs hx hy ho
 ·rename_i hu
  cases op<;>first | exact cls_bad | skip
  ·exact p_bb (neg:=false) hx hy hu ho
  ·exact p_bb (neg:=true) hx hy hu ho
 ·rename_i fs hu
  have key:∀ neg,o.op = .binOp (if neg then .neq else .eql) t x y t2→Cls P o (match flatT2 P t with | some ks=>.eqs neg true ks a b | none=>.bad):=by
   intro neg ho'
   split
   ·rename_i ks hf
    exact p_eqs (neg:=neg) hx hy (eqOk_flat2 hf) ⟨_,hu,fun k=>by simp⟩ rfl ho'
   ·exact cls_bad
  cases op<;>first | exact cls_bad | skip
  ·exact key false ho
  ·exact key true ho
 ·rename_i nn el hu
  have key:∀ neg,o.op = .binOp (if neg then .neq else .eql) t x y t2→Cls P o (match flatT P t with | some (g,ks)=>.eqs neg g ks a b | none=>.bad):=by
   intro neg ho'
   split
   ·rename_i g ks hf
    exact p_eqs (neg:=neg) hx hy (eqOk_flat hf) ⟨_,hu,fun k=>by simp⟩ (flat_agga hu hf) ho'
   ·exact cls_bad
  cases op<;>first | exact cls_bad | skip
  ·exact key false ho
  ·exact key true ho
 ·rename_i ms hu
  split
  ·rename_i hc
   have hc:isC x=true∨isC y=true:=by simpa using hc
   cases op<;>first | exact cls_bad | skip
   ·exact a_eqn (neg:=false) hx hy (tc:=4) ⟨⟨ms,hu⟩,hc⟩ ho
   ·exact a_eqn (neg:=true) hx hy (tc:=4) ⟨⟨ms,hu⟩,hc⟩ ho
  ·exact cls_bad
 ·rename_i e hu
  split
  ·exact cls_bad
  ·rename_i hs
   have:∃ n,sizeT P e=some n∧n≠0:=by
    cases h:sizeT P e with
    | none=>rw [h] at hs;exact absurd rfl hs
    | some n=>rw [h] at hs;exact ⟨n,rfl,fun hn=>hs (by rw [hn];rfl)⟩
   obtain ⟨n,h1,h2⟩:=this
   cases op<;>first | exact cls_bad | skip
   ·exact a_eqn (neg:=false) hx hy (tc:=0) ⟨e,n,hu,h1,h2⟩ ho
   ·exact a_eqn (neg:=true) hx hy (tc:=0) ⟨e,n,hu,h1,h2⟩ ho
 ·rename_i e hu
  cases op<;>first | exact cls_bad | skip
  ·exact a_eqn (neg:=false) hx hy (tc:=1) ⟨e,hu⟩ ho
  ·exact a_eqn (neg:=true) hx hy (tc:=1) ⟨e,hu⟩ ho
 ·rename_i k e hu
  cases op<;>first | exact cls_bad | skip
  ·exact a_eqn (neg:=false) hx hy (tc:=2) ⟨k,e,hu⟩ ho
  ·exact a_eqn (neg:=true) hx hy (tc:=2) ⟨k,e,hu⟩ ho
 ·rename_i a b c hu
  cases op<;>first | exact cls_bad | skip
  ·exact a_eqn (neg:=false) hx hy (tc:=3) ⟨a,b,c,hu⟩ ho
  ·exact a_eqn (neg:=true) hx hy (tc:=3) ⟨a,b,c,hu⟩ ho
 ·exact cls_bad
theorem args_one {c:Call} {x:X} (h:omap trX c.args.toList=some [x]):∃ Y,c.args.toList=[Y]∧trX Y=some x:=by
 obtain ⟨h1,h2⟩:=omap_some h
 obtain ⟨Y,hY⟩:∃ Y,c.args.toList=[Y]:=List.length_eq_one_iff.1 (by simpa using h1)
 obtain ⟨x',q1,q2⟩:=h2 0 Y (by rw [hY];rfl)
 have:x' = x:=by simpa using q1.symm
 subst this
 exact ⟨Y,hY,q2⟩
theorem args_two {c:Call} {x y:X} (h:omap trX c.args.toList=some [x,y]):∃ U V,c.args.toList=[U,V]∧trX U=some x∧trX V=some y:=by
 obtain ⟨h1,h2⟩:=omap_some h
 obtain ⟨U,V,hY⟩:=len_two (l:=c.args.toList) (by simpa using h1)
 obtain ⟨x',q1,q2⟩:=h2 0 U (by rw [hY];rfl)
 obtain ⟨y',q3,q4⟩:=h2 1 V (by rw [hY];rfl)
 have:x' = x:=by simpa using q1.symm
 subst this
 have:y' = y:=by simpa using q3.symm
 subst this
 exact ⟨U,V,hY,q2,q4⟩
theorem cls_builtin {ps:String} {b:Builtin} {c:Call} {xs:List X} (hxs:omap trX c.args.toList=some xs) (hc:c.callee = .builtin b) (ho:o.op = .call c):Cls P o (trB P ps b c.argTypes.toList xs):=by
 unfold trB
 split
 ·rename_i t x ht
  obtain ⟨Y,hY,hx⟩:=args_one hxs
  split
  ·rename_i hu;exact r_lens (x_ok hx) hu hc hY ht ho
  ·rename_i e hu;exact r_lenl (x_ok hx) hu hc hY ht ho
  ·rename_i k e hu;exact r_lenm (x_ok hx) hu hc hY ht ho
  ·exact cls_bad
 ·exact p_mm (mx:=false) (xs_ok hxs) hc ho
 ·exact p_mm (mx:=true) (xs_ok hxs) hc ho
 ·rename_i t u x y ht
  obtain ⟨U,V,hY,hx,hy⟩:=args_two hxs
  have go:∀ e,P.underlying t=some (.slice e)→((∃ e',P.underlying u=some (.slice e'))∨P.underlying u=some .string)→Cls P o (bad .bad (map3 (fun s b z=>if posA ps then (if s == 1 then if z.length == 1 then .apb e b x y else .bad else .bad) else if z.length == s then .apn x y s b else .bad) (sizeT P e) (bytesT P e) (zeroT P e))):=by
   intro e hu hk
   refine bad_ok cls_bad fun i hi=>?_
   obtain ⟨s,b,z,h1,h2,h3,rfl⟩:=map3_some hi
   split
   ·split
    ·rename_i hs
     split
     ·rename_i hz
      exact b_apb (x_ok hx) (x_ok hy) hu hk (by rw [h1,eq_of_beq hs]) h2 h3 (eq_of_beq hz) hc hY ht ho
     ·exact cls_bad
    ·exact cls_bad
   ·split
    ·rename_i hz
     exact a_apn (x_ok hx) (x_ok hy) hu hk h1 h2 h3 (eq_of_beq hz) hc hY ht ho
    ·exact cls_bad
  split
  ·rename_i e e' hu hu2;exact go e hu (.inl ⟨e',hu2⟩)
  ·rename_i e hu hu2;exact go e hu (.inr hu2)
  ·rename_i e k hu hu2
   refine bad_ok cls_bad fun i hi=>?_
   obtain ⟨s,b,z,h1,h2,h3,rfl⟩:=map3_some hi
   split
   ·rename_i hz
    exact a_apz (x_ok hx) (x_ok hy) hu hu2 h1 h2 h3 (eq_of_beq hz) hc hY ht ho
   ·exact cls_bad
  ·exact cls_bad
 ·rename_i t x ht
  obtain ⟨Y,hY,hx⟩:=args_one hxs
  split
  ·rename_i e hu
   refine bad_ok cls_bad fun i hi=>?_
   obtain ⟨z,hz,rfl⟩:=Option.map_eq_some_iff.1 hi
   exact a_clr (x_ok hx) hu hz hc hY ht ho
  ·exact cls_bad
 ·rename_i t r x y ht
  obtain ⟨U,V,hY,hx,hy⟩:=args_two hxs
  split
  ·rename_i e hu
   refine bad_ok cls_bad fun i hi=>?_
   obtain ⟨s,hs,rfl⟩:=Option.map_eq_some_iff.1 hi
   split
   ·exact b_cpn (x_ok hx) (x_ok hy) hu hs hc hY ⟨r,ht⟩ ho ⟨t,.inl ⟨e,hu⟩⟩
   ·exact a_cpy (x_ok hx) (x_ok hy) hu hs hc hY ⟨r,ht⟩ ho ⟨t,.inl ⟨e,hu⟩⟩
  ·exact cls_bad
 ·rename_i t x ht
  obtain ⟨Y,hY,hx⟩:=args_one hxs
  split
  ·rename_i e hu;exact b_cap (x_ok hx) hu hc hY ht ho
  ·exact cls_bad
 ·rename_i x
  obtain ⟨Y,hY,hx⟩:=args_one hxs
  exact b_usd (x_ok hx) hc hY rfl ho
 ·rename_i t u x y ht
  obtain ⟨U,V,hY,hx,hy⟩:=args_two hxs
  split
  ·rename_i e hu
   split
   ·rename_i s hs
    split
    ·rename_i h1
     exact b_ust (x_ok hx) (x_ok hy) hu (by rw [hs,eq_of_beq h1]) hc hY ht ho
    ·exact cls_bad
   ·exact cls_bad
  ·exact cls_bad
 ·rename_i t r x k ht
  obtain ⟨U,V,hY,hx,hy⟩:=args_two hxs
  split
  ·rename_i kt e hu
   split
   ·rename_i g ks hf
    exact a_dlt (t2:=t) (x_ok hx) (x_ok hy) hu hf hc hY ⟨r,ht⟩ ho
   ·exact cls_bad
  ·exact cls_bad
 ·exact cls_bad
theorem optX_no {m:Option X} {mx:Option Operand}:(match m with | none=>true | some _=>false)=true→optX mx=some m→mx=none:=by
 intro hn hm
 cases mx with
 | none=>rfl
 | some mx=>
  unfold optX at hm
  simp only at hm
  obtain ⟨b,_,rfl⟩:=Option.map_eq_some_iff.1 hm
  cases hn
theorem optX_no2 {m:Option X} {mx:Option Operand}:(match m with | none=>true | some _=>false)=false→optX mx=some m→mx≠none:=by
 intro hn hm hx
 subst hx
 unfold optX at hm
 simp only [Option.some.injEq] at hm
 subst hm
 cases hn
theorem cls_slice {dr:Bool} {t:TypeId} {x:Operand} {lo qi mx:Option Operand} (hop:o.op = .slice t x lo qi mx) (hmh:qi=none→mx=none):Cls P o (bad .bad (trSl P dr t x lo qi mx)):=by
  refine bad_ok cls_bad fun i hi=>?_
  unfold trSl at hi
  split at hi
  ·rename_i e hu
   split at hi
   ·rename_i a s ha hs
    obtain ⟨l,h,m,hl,hh,hm,rfl⟩:=map3_some hi
    cases dr with
    | false=>exact a_slc (x_ok ha) (bd_ok hl) (bd_ok hh) (bd_ok hm) (fun hn=>optX_no hn hm) (fun hn=>optX_no2 hn hm) hmh hu hs hop
    | true=>exact r_slr (x_ok ha) (bd_ok hl) (bd_ok hh) (bd_ok hm) (fun hn=>optX_no hn hm) (fun hn=>optX_no2 hn hm) hmh hu hs hop
   ·cases hi
  ·rename_i hu
   cases mx with
   | some m=>cases hi
   | none=>
    obtain ⟨a,l,h,ha,hl,hh,rfl⟩:=map3_some hi
    exact p_sls (x_ok ha) (bd_ok hl) (bd_ok hh) hu hop
  ·rename_i n e hu
   split at hi
   ·rename_i a s ha hs
    obtain ⟨l,h,m,hl,hh,hm,rfl⟩:=map3_some hi
    exact p_sla (x_ok ha) (bd_ok hl) (bd_ok hh) (bd_ok hm) hmh hu hs hop
   ·cases hi
  ·cases hi
theorem pinL_ok {u t off n:Nat} (h:(t,off,n) ∈ pinL P u):liesAt P P.depth t (n / P.cellsOf t) off u 1=true:=(List.mem_filter.1 h).2
theorem extT {c:Call} {f:FuncId} {fn:Func} {n:String} {row:Array TypeId→Array TypeId→Array Value→Sem Value} (ho:o.op = .call c) (hc:c.callee = .value (.func f)) (hf:P.funcs[f]? = some fn) (hb:fn.body.isNone=true) (hog:(fn.origin == fn.name || fn.origin == "")=true) (hn:fn.name=n)
  (h0:(n == "runtime.NumGoroutine")=false) (h1:(Extern.allNextRows.lookup n).isNone=true) (h2:(Extern.allGenericRows.lookup n).isNone=true) (h3:Extern.allTypedRows.lookup n=some row):ExtC P o (row fn.params fn.resultTypes) c.args.toList where
 run:=by
  intro a w w' v hrun
  have hfind:Extern.find fn=some (row fn.params fn.resultTypes):=by
   unfold Extern.find
   have h2:Extern.allGenericRows.lookup n=none:=by simpa using h2
   simp [hn,h2,h3]
  refine ext_run ho hc hf hb (by rw [hn];exact h0) (next_none hn hog h1 (by kernel_rfl)) hfind ?_
  have:(c.args.toList.map a.eval).toArray=c.args.map a.eval:=by apply Array.ext';simp
  rw [this] at hrun
  exact hrun
theorem mnz_ok {c:Call} {f:FuncId} {fn:Func} {xs:List AM.X} (hxs:omap trX c.args.toList=some xs) (ho:o.op = .call c) (hc:c.callee = .value (.func f)) (hf:P.funcs[f]? = some fn) (hb:fn.body.isNone=true) (hog:(fn.origin == fn.name || fn.origin == "")=true)
  (hn:(fn.name == "internal/bytealg.MakeNoZero")=true):Cls P o (mnzI P fn xs):=by
 have he:=extT (row:=Extern.BytealgMakeNoZero.makeNoZero) ho hc hf hb hog (eq_of_beq hn) (by kernel_rfl) (by kernel_rfl) (by kernel_rfl) (by kernel_rfl)
 unfold mnzI
 split
 ·rename_i x t ht
  obtain ⟨Y,hY,hx⟩:=args_one hxs
  split
  ·rename_i e hu
   have ht':fn.resultTypes = #[t]:=by apply Array.ext';exact ht
   rw [ht',hY] at he
   exact b_mnz (x_ok hx) hu he
  ·exact cls_bad
 ·exact cls_bad
theorem cls_ok {dr:Bool} {ps:String}:Cls P o (trI P dr ps o.op):=by
 cases hop:o.op<;>(try exact cls_bad)<;>unfold trI
 case move x=>
  refine bad_ok cls_bad fun i hi=>?_
  obtain ⟨a,ha,rfl⟩:=Option.map_eq_some_iff.1 hi
  exact p_mv (x_ok ha) (.inl hop)
 case assign x=>
  refine bad_ok cls_bad fun i hi=>?_
  obtain ⟨a,ha,rfl⟩:=Option.map_eq_some_iff.1 hi
  exact p_mv (x_ok ha) (.inr hop)
 case pick c x y=>
  refine bad_ok cls_bad fun i hi=>?_
  obtain ⟨a,b,d,ha,hb,hd,rfl⟩:=map3_some hi
  exact p_pick (x_ok ha) (x_ok hb) (x_ok hd) hop
 case alloc e=>
  refine bad_ok cls_bad fun i hi=>?_
  obtain ⟨z,hz,rfl⟩:=Option.map_eq_some_iff.1 hi
  split
  ·exact n_als hz hop
  ·exact n_al hz hop
 case box e x=>
  refine bad_ok cls_bad fun i hi=>?_
  obtain ⟨a,ha,rfl⟩:=Option.map_eq_some_iff.1 hi
  split
  ·exact n_bxs (x_ok ha) hop
  ·exact n_bx (x_ok ha) hop
 case build t ps=>
  refine bad_ok cls_bad fun i hi=>?_
  split at hi
  ·rename_i fs z hu hz
   split at hi
   ·rename_i hs
    obtain ⟨pts,hp,rfl⟩:=Option.map_eq_some_iff.1 hi
    exact p_blds hu hz hs hp hop
   ·cases hi
  ·rename_i n e z hu hz
   split at hi
   ·rename_i hs
    obtain ⟨pts,hp,rfl⟩:=Option.map_eq_some_iff.1 hi
    obtain ⟨s,hs⟩:=Option.isSome_iff_exists.1 hs
    exact p_blda hu hz hs hp hop
   ·cases hi
  ·cases hi
 case buildSlice t len ps=>
  refine bad_ok cls_bad fun i hi=>?_
  split at hi
  ·rename_i e hu
   split at hi
   ·rename_i z s hz hs
    split at hi
    ·rename_i hc
     simp only [Bool.and_eq_true,beq_iff_eq,decide_eq_true_eq] at hc
     obtain ⟨pts,hp,rfl⟩:=Option.map_eq_some_iff.1 hi
     exact n_bsl hu hz hs hc.1 hc.2 hp hop
    ·cases hi
   ·cases hi
  ·cases hi
 case load t x=>
  refine bad_ok cls_bad fun i hi=>?_
  obtain ⟨a,s,g,ha,hs,hg,rfl⟩:=map3_some hi
  cases g with
  | true=>exact r_ld (x_ok ha) hg hs hop
  | false=>exact r_ld1 (x_ok ha) hg hop
 case store t x y=>
  refine bad_ok cls_bad fun i hi=>?_
  obtain ⟨a,b,s,ha,hb,hs,rfl⟩:=map3_some hi
  exact a_st (x_ok ha) (x_ok hb) hs hop
 case nilCheck x=>
  refine bad_ok cls_bad fun i hi=>?_
  obtain ⟨a,ha,rfl⟩:=Option.map_eq_some_iff.1 hi
  exact p_nc (x_ok ha) hop
 case binOp op t x y t2=>exact cls_bin hop
 case unOp op t x=>
  refine bad_ok cls_bad fun i hi=>?_
  obtain ⟨a,ha,rfl⟩:=Option.map_eq_some_iff.1 hi
  cases op
  case not=>exact p_nt (x_ok ha) hop
  case neg=>exact p_ng (x_ok ha) hop
  case xor=>exact p_cm (x_ok ha) hop
  case plus=>exact cls_bad
 case convert s d x=>
  refine bad_ok cls_bad fun i hi=>?_
  obtain ⟨a,ha,rfl⟩:=Option.map_eq_some_iff.1 hi
  split
  ·rename_i k1 k hs hd
   exact p_cvi (k0:=0) (x_ok ha) hs (by rw [kind_kn];exact hd) hop
  ·rename_i e hs hd
   split
   ·rename_i h8
    have he:P.underlying e=some (.int .u8):=by
     unfold isU8 at h8
     split at h8
     ·assumption
     ·cases h8
    exact r_b2s (x_ok ha) hs he hd hop
   ·exact cls_bad
  ·rename_i e hs hd
   split
   ·rename_i h8
    have he:P.underlying e=some (.int .u8):=by
     unfold isU8 at h8
     split at h8
     ·assumption
     ·cases h8
    exact a_s2b (x_ok ha) hs hd he hop
   ·exact cls_bad
  ·rename_i hs hd
   exact p_sid (x_ok ha) hs hd hop
  ·rename_i e e2 hs hd
   split
   ·rename_i h8
    simp only [Bool.and_eq_true] at h8
    have hsd:s=d:=eq_of_beq h8.1
    subst hsd
    have he:P.underlying e=some (.int .u8):=by
     have h8:=h8.2
     unfold isU8 at h8
     split at h8
     ·assumption
     ·cases h8
    exact a_msh (x_ok ha) hs he hop
   ·exact cls_bad
  ·rename_i e hs hd
   split
   ·exact cls_bad
   ·rename_i hn
    have:∃ n,sizeT P e=some n∧n≠0:=by
     cases h:sizeT P e with
     | none=>rw [h] at hn;exact absurd rfl hn
     | some n=>rw [h] at hn;exact ⟨n,rfl,fun h0=>hn (by rw [h0];rfl)⟩
    obtain ⟨n,h1,h2⟩:=this
    exact a_uptr (x_ok ha) hs hd h1 h2 hop
  ·rename_i u hs hd
   split
   ·rename_i hu
    obtain ⟨j,hj⟩:=Option.isSome_iff_exists.1 hu
    exact b_cvp (x_ok ha) hs hd hj (fun t off n h=>pinL_ok h) hop
   ·exact cls_bad
  ·exact cls_bad
 case sliceToArrayPointer t x=>
  refine bad_ok cls_bad fun i hi=>?_
  split at hi
  ·rename_i n e hu
   obtain ⟨a,ha,rfl⟩:=Option.map_eq_some_iff.1 hi
   exact p_s2a (x_ok ha) hu hop
  ·cases hi
 case makeInterface t x=>
  refine bad_ok cls_bad fun i hi=>?_
  obtain ⟨a,ha,rfl⟩:=Option.map_eq_some_iff.1 hi
  split
  ·exact cls_bad
  ·rename_i d hd hu
   exact p_mki (x_ok ha) hu (fun ms h=>by subst h;exact hd ms rfl) hop
  ·exact cls_bad
 case makeFunc fn first cs=>
  cases fn<;>try exact cls_bad
  rename_i f
  show Cls P o (if first.size == 0 then _ else _)
  split
  ·rename_i hf
   have hf:first = #[]:=by simpa using hf
   subst hf
   refine bad_ok cls_bad fun i hi=>?_
   obtain ⟨xs,hxs,rfl⟩:=Option.map_eq_some_iff.1 hi
   exact p_mkf (xs_ok hxs) hop
  ·exact cls_bad
 case makeMap t r=>
  cases r with
  | none=>exact a_mkm hop
  | some r=>exact cls_bad
 case makeSlice t x y=>
  refine bad_ok cls_bad fun i hi=>?_
  split at hi
  ·rename_i e hu
   split at hi
   ·rename_i z s hz hs
    split at hi
    ·rename_i hc
     simp only [Bool.and_eq_true,beq_iff_eq,decide_eq_true_eq] at hc
     obtain ⟨a,b,c,ha,hb,hcc,rfl⟩:=map3_some hi
     exact n_mks (x_ok ha) (x_ok hb) hu hz hs hc.1 hc.2 hcc hop
    ·cases hi
   ·cases hi
  ·cases hi
 case slice t x lo qi mx=>
  cases qi with
  | none=>cases mx with
   | none=>exact cls_slice hop (fun _=>rfl)
   | some m=>exact cls_bad
  | some q=>cases mx with
   | none=>exact cls_slice hop (fun h=>nomatch h)
   | some m=>exact cls_slice hop (fun h=>nomatch h)
 case fieldAddr t x f=>
  refine bad_ok cls_bad fun i hi=>?_
  split at hi
  ·rename_i fs hu
   split at hi
   ·rename_i fd hf
    split at hi
    ·cases hi
    ·rename_i hn
     have:∃ n,sizeT P fd.type=some n∧n≠0:=by
      cases h:sizeT P fd.type with
      | none=>rw [h] at hn;exact absurd rfl hn
      | some n=>rw [h] at hn;exact ⟨n,rfl,fun h0=>hn (by rw [h0];rfl)⟩
     obtain ⟨n,h1,h2⟩:=this
     obtain ⟨a,ha,rfl⟩:=Option.map_eq_some_iff.1 hi
     exact p_fa (x_ok ha) hu hf h1 h2 rfl hop
   ·cases hi
  ·cases hi
 case field t x f=>
  refine bad_ok cls_bad fun i hi=>?_
  split at hi
  ·rename_i fs hu
   split at hi
   ·rename_i fd hf
    obtain ⟨a,s,g,ha,hs,hg,rfl⟩:=map3_some hi
    cases g with
    | true=>exact p_fld (x_ok ha) hu hf hs hg rfl hop
    | false=>exact p_fl1 (x_ok ha) hu hf hg rfl hop
   ·cases hi
  ·cases hi
 case indexAddr t x y=>
  refine bad_ok cls_bad fun i hi=>?_
  split at hi
  ·rename_i e hu
   obtain ⟨a,b,s,ha,hb,hs,rfl⟩:=map3_some hi
   exact p_ias (x_ok ha) (x_ok hb) hu hs hop
  ·rename_i n e hu
   obtain ⟨a,b,s,ha,hb,hs,rfl⟩:=map3_some hi
   exact p_iaa (x_ok ha) (x_ok hb) hu hs hop
  ·cases hi
 case index t x y=>
  refine bad_ok cls_bad fun i hi=>?_
  split at hi
  ·rename_i hu
   obtain ⟨a,b,ha,hb,rfl⟩:=map2_some hi
   exact p_ixs (x_ok ha) (x_ok hb) hu hop
  ·cases hi
 case lookup t x k ok=>
  refine bad_ok cls_bad fun i hi=>?_
  split at hi
  ·rename_i kt e hu
   split at hi
   ·rename_i g ks hf
    obtain ⟨a,b,z,ha,hb,hz,rfl⟩:=map3_some hi
    exact r_lkp (x_ok ha) (x_ok hb) hu hf hz hop
   ·cases hi
  ·cases hi
 case mapUpdate t m k v=>
  refine bad_ok cls_bad fun i hi=>?_
  split at hi
  ·rename_i kt e hu
   split at hi
   ·rename_i g ks hf
    obtain ⟨a,b,c,ha,hb,hc,rfl⟩:=map3_some hi
    exact a_mpu (x_ok ha) (x_ok hb) (x_ok hc) hu hf (.inl hop)
   ·cases hi
  ·cases hi
 case insert t m k v=>
  refine bad_ok cls_bad fun i hi=>?_
  split at hi
  ·rename_i kt e hu
   split at hi
   ·rename_i g ks hf
    obtain ⟨a,b,c,ha,hb,hc,rfl⟩:=map3_some hi
    exact a_mpu (x_ok ha) (x_ok hb) (x_ok hc) hu hf (.inr hop)
   ·cases hi
  ·cases hi
 case mapEntry t m k=>
  refine bad_ok cls_bad fun i hi=>?_
  split at hi
  ·rename_i kt e hu
   split at hi
   ·rename_i g ks hf
    obtain ⟨a,b,z,ha,hb,hz,rfl⟩:=map3_some hi
    exact a_mpe (x_ok ha) (x_ok hb) hu hf hz hop
   ·cases hi
  ·cases hi
 case entryStore t m s v=>
  refine bad_ok cls_bad fun i hi=>?_
  obtain ⟨a,b,c,ha,hb,hc,rfl⟩:=map3_some hi
  exact a_ens (x_ok ha) (x_ok hb) (x_ok hc) hop
 case range t x=>
  refine bad_ok cls_bad fun i hi=>?_
  split at hi
  ·rename_i kt e hu
   obtain ⟨a,ha,rfl⟩:=Option.map_eq_some_iff.1 hi
   exact a_rng (x_ok ha) hu hop
  ·cases hi
 case entry x=>
  refine bad_ok cls_bad fun i hi=>?_
  obtain ⟨a,ha,rfl⟩:=Option.map_eq_some_iff.1 hi
  exact a_ety (x_ok ha) hop
 case next x s=>
  cases s with
  | true=>exact cls_bad
  | false=>
   refine bad_ok cls_bad fun i hi=>?_
   obtain ⟨a,ha,rfl⟩:=Option.map_eq_some_iff.1 hi
   exact a_nxt (x_ok ha) hop
 case extract x n=>
  refine bad_ok cls_bad fun i hi=>?_
  obtain ⟨a,ha,rfl⟩:=Option.map_eq_some_iff.1 hi
  exact p_ext (x_ok ha) hop
 case call c=>
  show Cls P o (match c.callee,trXs c.args with
   | .builtin b,some xs=>trB P ps b c.argTypes.toList xs
   | .value (.func f),some xs=>(match P.funcs[f]? with | some fn=>if fn.body.isNone && (fn.origin == fn.name || fn.origin == "") then (if fn.name == "internal/bytealg.MakeNoZero" then mnzI P fn xs else trExt fn.name xs) else .bad | none=>.bad)
   | _,_=>.bad)
  split
  ·rename_i b xs hc hxs
   exact cls_builtin hxs hc hop
  ·rename_i f xs hc hxs
   split
   ·rename_i fn hf
    split
    ·rename_i hb
     simp only [Bool.and_eq_true] at hb
     split
     ·rename_i hn
      exact mnz_ok hxs hop hc hf hb.1 hb.2 hn
     ·have:=ext_ok hxs hop hc hf hb.1 hb.2
      have hcl:∀ i,(i=trExt fn.name xs)→(clsI i=3):=by
       rintro i rfl
       unfold trExt
       split<;>(repeat' split)<;>rfl
      unfold Cls
      rw [hcl _ rfl]
      exact this
    ·exact cls_bad
   ·exact cls_bad
  ·exact cls_bad
end
end Go.AM

namespace Go.AM
open Go
section
variable {P:Program}
theorem er_set {θ:Th} {en:Env} {tmps:Array Value} (h:ER θ en tmps) {t:Nat} {v:AV} {u:Value} (hv:VR θ v u) (ht:t < 512) (hs:t < tmps.size):ER θ (setL AV v 3 t en) (tmps.setIfInBounds t u):=by
 intro s hs'
 by_cases e:s=t
 ·subst e
  rw [getL_setL,Array.getD_eq_getD_getElem?,Array.getElem?_setIfInBounds_self_of_lt hs]
  exact hv
 ·rw [getL_setL_ne (i:=t) (j:=s) v 3 en ht hs' e,Array.getD_eq_getD_getElem?,Array.getElem?_setIfInBounds_ne (Ne.symm e),← Array.getD_eq_getD_getElem?]
  exact h s hs'
def putE:Ds→AV→Env→Env
 | .n,_,en=>en
 | .d t,v,en=>setL AV v 3 t en
theorem dD_eq (d:Ds) (v:AV) (en:Env) (κ:Env→R):dD d v en κ=κ (putE d v en):=by
 cases d with
 | n=>rfl
 | d t=>exact setK_eq v 3 t en κ
theorem trD_some {nt:Nat} {o:Oper} {d:Ds} (h:trD nt o=some d):(o.dst=none∧d = .n)∨∃ t,o.dst=some t∧d = .d t∧t < nt:=by
 unfold trD at h
 split at h
 ·rename_i t ht
  split at h
  ·rename_i hn;injection h with h;exact .inr ⟨t,ht,h.symm,hn⟩
  ·cases h
 ·rename_i hn;injection h with h;exact .inl ⟨hn,h.symm⟩
theorem er_put {nt:Nat} {o:Oper} {d:Ds} (hd:trD nt o=some d) {θ:Th} {en:Env} {a:Act} (h:ER θ en a.tmps) (hn:nt≤a.tmps.size) (h5:nt≤512) {v:AV} {u:Value} (hv:VR θ v u):ER θ (putE d v en) (a.put o.dst u).tmps:=by
 rcases trD_some hd with ⟨h1,rfl⟩ | ⟨t,h1,rfl,h2⟩
 ·rw [h1];exact h
 ·rw [h1];exact er_set h hv (Nat.lt_of_lt_of_le h2 h5) (Nat.lt_of_lt_of_le h2 hn)
theorem put_size {a:Act} {o:Option Tmp} {u:Value}:(a.put o u).tmps.size=a.tmps.size:=by cases o<;>simp [Act.put]
theorem put_defers {a:Act} {o:Option Tmp} {u:Value}:(a.put o u).defers=a.defers:=by cases o<;>rfl
theorem trG_some {ops:Array Oper} {o:Oper} {g:Gd} (h:trG ops o=some g):(o.guard=none∧g = .n)∨∃ j b t,o.guard=some (j,b)∧(ops[j]?).bind (·.dst)=some t∧t < 512∧g = .g t b:=by
 unfold trG at h
 split at h
 ·rename_i hg;injection h with h;exact .inl ⟨hg,h.symm⟩
 ·rename_i j b hg
  split at h
  ·rename_i d hd
   split at h
   ·rename_i ht;injection h with h;exact .inr ⟨j,b,d,hg,hd,ht,h.symm⟩
   ·cases h
  ·cases h
inductive GSays (g:Gd) (en:Env):Bool→Prop where
 | yes (h:∀ A B,dG g en A B=A):GSays g en true
 | no (h:∀ A B,dG g en A B=B):GSays g en false
theorem gd_ok {ops:Array Oper} {o:Oper} {g:Gd} (hg:trG ops o=some g) {θ:Th} {en:Env} {a:Act} (hE:ER θ en a.tmps) {A B:R} (e:dG g en A B=true) :
  (GSays g en true∧A=true∧Region.wanted o (yielded ops a.tmps)=true)∨(GSays g en false∧B=true∧Region.wanted o (yielded ops a.tmps)=false):=by
 rcases trG_some hg with ⟨h1,rfl⟩ | ⟨j,b,t,h1,h2,h3,rfl⟩
 ·exact .inl ⟨.yes fun _ _=>rfl,e,by simp [Region.wanted,h1]⟩
 ·have hval:=hE t h3
  have hdef:∀ A B:R,dG (.g t b) en A B=(match getL AV 3 t en with | .b c=>br (eqB c b) A B | .tu _=>B | _=>false):=by
   intro A B
   show getK AV (fun v=>match v with | .b c=>br (eqB c b) A B | .tu _=>B | _=>false) 3 t en=_
   rw [getK_eq]
  rw [hdef] at e
  cases hv:getL AV 3 t en<;>rw [hv] at e hval<;>first | (cases e;done) | skip
  ·rename_i c
   have hu:=hval.b
   have hty:a.tmps[t]? = some (.bool c):=by
    rw [Array.getD_eq_getD_getElem?] at hu
    cases ht:a.tmps[t]? with
    | none=>rw [ht] at hu;cases hu
    | some x=>rw [ht] at hu;exact congrArg some hu
   have hy:yielded ops a.tmps j=some c:=by
    unfold yielded
    rw [h2]
    simp [hty]
   have hw:Region.wanted o (yielded ops a.tmps)=(c == b):=by
    simp only [Region.wanted,h1,hy]
    cases c<;>cases b<;>rfl
   have e:br (eqB c b) A B=true:=e
   rw [eqB_eq] at e
   cases hc:(c == b) with
   | true=>
    rw [hc] at e hw
    exact .inl ⟨.yes fun A B=>by rw [hdef,hv];show br (eqB c b) A B=A;rw [eqB_eq,hc];rfl,e,hw⟩
   | false=>
    rw [hc] at e hw
    exact .inr ⟨.no fun A B=>by rw [hdef,hv];show br (eqB c b) A B=B;rw [eqB_eq,hc];rfl,e,hw⟩
  ·rename_i l
   have hu:=hval.2
   have hy:yielded ops a.tmps j=none:=by
    unfold yielded
    rw [h2]
    rw [Array.getD_eq_getD_getElem?] at hu
    cases ht:a.tmps[t]? with
    | none=>simp [ht]
    | some x=>
     rw [ht] at hu
     have hu:x=_:=hu
     simp only [Option.bind_some,ht]
     rw [hu];rfl
   refine .inr ⟨.no fun A B=>by rw [hdef,hv],e,?_⟩
   simp only [Region.wanted,h1,hy]
   cases b<;>rfl
def Agree (l:List Nat) (en en':Env):Prop:=∀ t ∈ l,getL AV 3 t en=getL AV 3 t en'
theorem Agree.left {l m:List Nat} {en en':Env} (h:Agree (l ++ m) en en'):Agree l en en':=fun t ht=>h t (List.mem_append_left _ ht)
theorem Agree.right {l m:List Nat} {en en':Env} (h:Agree (l ++ m) en en'):Agree m en en':=fun t ht=>h t (List.mem_append_right _ ht)
theorem Agree.symm {l:List Nat} {en en':Env} (h:Agree l en en'):Agree l en' en:=fun t ht=>(h t ht).symm
theorem dX_agree {x:X} {en en':Env} (h:Agree (rdX x) en en'):∀ κ,dX x en κ=dX x en' κ:=by
 intro κ
 cases x with
 | t t=>
  show getK AV κ 3 t en=getK AV κ 3 t en'
  rw [getK_eq,getK_eq,h t (by simp [rdX])]
 | c v=>rfl
theorem dXs_agree:∀ {xs:List X} {en en':Env},Agree (xs.flatMap rdX) en en'→∀ κ,dXs xs en κ=dXs xs en' κ
 | [],_,_,_,_=>rfl
 | x :: xs,en,en',h,κ=>by
  rw [List.flatMap_cons] at h
  show dX x en (fun v=>dXs xs en fun vs=>κ (v :: vs))=dX x en' (fun v=>dXs xs en' fun vs=>κ (v :: vs))
  rw [dX_agree h.left]
  congr 1
  funext v
  exact dXs_agree h.right _
theorem dB_agree {x:Option X} {en en':Env} (h:Agree (rdO x) en en'):∀ d κ,dB x en d κ=dB x en' d κ:=by
 intro d κ
 cases x with
 | none=>rfl
 | some x=>exact dX_agree h _
theorem dP_agree:∀ {ps:List Pt} {en en':Env},Agree (ps.flatMap fun | .mk _ _ x=>rdX x) en en'→∀ l κ,dP ps en l κ=dP ps en' l κ
 | [],_,_,_,_,_=>rfl
 | .mk off size x :: ps,en,en',h,l,κ=>by
  rw [List.flatMap_cons] at h
  show dX x en (cellsK fun vs=>br (Nat.beq (lenN AV vs) size) (putLK vs off l fun l=>dP ps en l κ) false)=dX x en' (cellsK fun vs=>br (Nat.beq (lenN AV vs) size) (putLK vs off l fun l=>dP ps en' l κ) false)
  have:(fun l=>dP ps en l κ)=fun l=>dP ps en' l κ:=funext fun l=>dP_agree h.right l κ
  rw [dX_agree h.left,this]
theorem dBin_agree {op:BinOp} {k:Nat} {x y:X} {en en':Env} (hx:∀ κ,dX x en κ=dX x en' κ) (hy:∀ κ,dX y en κ=dX y en' κ):dBin op k (dX x) (dX y) en=dBin op k (dX x) (dX y) en':=by
 cases op<;>(funext h nx κ;simp only [dBin,oAr,oLa,oQuo,oAnd,oAd,oRem,oShl,oShr,oLt,oLe,oGt,oGe,oEq,hx,hy])
theorem dBs_agree {op:BinOp} {x y:X} {en en':Env} (hx:∀ κ,dX x en κ=dX x en' κ) (hy:∀ κ,dX y en κ=dX y en' κ):dBs op (dX x) (dX y) en=dBs op (dX x) (dX y) en':=by
 cases op<;>(funext h nx κ;simp only [dBs,oCat,oSS,oSQ,oBad,hx,hy])
theorem dI_agree {i:I} {en en':Env} (h:Agree (rdI i) en en'):dI i en=dI i en':=by
 cases i<;>simp only [rdI] at h
 case mv x=>have hx:=dX_agree h;funext h' nx κ;simp only [dI,oMv,hx]
 case sid x=>have hx:=dX_agree h;funext h' nx κ;simp only [dI,oSid,hx]
 case pick c x y=>have hc:=dX_agree h.left.left;have hx:=dX_agree h.left.right;have hy:=dX_agree h.right;funext h' nx κ;simp only [dI,oPick,hc,hx,hy]
 case nc x=>have hx:=dX_agree h;funext h' nx κ;simp only [dI,oNc,hx]
 case bin op k x y=>exact dBin_agree (dX_agree h.left) (dX_agree h.right)
 case bs op x y=>exact dBs_agree (dX_agree h.left) (dX_agree h.right)
 case bb g x y=>have hx:=dX_agree h.left;have hy:=dX_agree h.right;funext h' nx κ;simp only [dI,oBB,hx,hy]
 case eqs n g ks x y=>have hx:=dX_agree h.left;have hy:=dX_agree h.right;funext h' nx κ;simp only [dI,oEqs,hx,hy]
 case eqn n tc x y=>have hx:=dX_agree h.left;have hy:=dX_agree h.right;funext h' nx κ;simp only [dI,oEqn,hx,hy]
 case nt x=>have hx:=dX_agree h;funext h' nx κ;simp only [dI,oNt,hx]
 case ng x=>have hx:=dX_agree h;funext h' nx κ;simp only [dI,oNg,hx]
 case cm x=>have hx:=dX_agree h;funext h' nx κ;simp only [dI,oCm,hx]
 case cvi k x=>have hx:=dX_agree h;funext h' nx κ;simp only [dI,oCvi,hx]
 case b2s x=>have hx:=dX_agree h;funext h' nx κ;simp only [dI,oB2s,hx]
 case s2b x=>have hx:=dX_agree h;funext h' nx κ;simp only [dI,oS2b,hx]
 case uptr x=>have hx:=dX_agree h;funext h' nx κ;simp only [dI,oUptr,hx]
 case s2a x n=>have hx:=dX_agree h;funext h' nx κ;simp only [dI,oS2a,hx]
 case mki t x=>have hx:=dX_agree h;funext h' nx κ;simp only [dI,oMki,hx]
 case mkf f xs=>have hx:=dXs_agree h;funext h' nx κ;simp only [dI,oMkf,hx]
 case ext x n=>have hx:=dX_agree h;funext h' nx κ;simp only [dI,oExt,hx]
 case fa x o=>have hx:=dX_agree h;funext h' nx κ;simp only [dI,oFa,hx]
 case fld x o n=>have hx:=dX_agree h;funext h' nx κ;simp only [dI,oFld,hx]
 case fl1 x o=>have hx:=dX_agree h;funext h' nx κ;simp only [dI,oFl1,hx]
 case ias x y s=>have hx:=dX_agree h.left;have hy:=dX_agree h.right;funext h' nx κ;simp only [dI,oIas,hx,hy]
 case iaa x y l s=>have hx:=dX_agree h.left;have hy:=dX_agree h.right;funext h' nx κ;simp only [dI,oIaa,hx,hy]
 case ixs x y=>have hx:=dX_agree h.left;have hy:=dX_agree h.right;funext h' nx κ;simp only [dI,oIxs,hx,hy]
 case lens x=>have hx:=dX_agree h;funext h' nx κ;simp only [dI,oLens,hx]
 case lenl x=>have hx:=dX_agree h;funext h' nx κ;simp only [dI,oLenl,hx]
 case lenm x=>have hx:=dX_agree h;funext h' nx κ;simp only [dI,oLenm,hx]
 case mm b xs=>have hx:=dXs_agree h;funext h' nx κ;simp only [dI,oMm,hx]
 case ld x n=>have hx:=dX_agree h;funext h' nx κ;simp only [dI,oLd,hx]
 case ld1 x=>have hx:=dX_agree h;funext h' nx κ;simp only [dI,oLd1,hx]
 case st x y n=>have hx:=dX_agree h.left;have hy:=dX_agree h.right;funext h' nx κ;simp only [dI,oSt,hx,hy]
 case al z n=>rfl
 case bx x=>have hx:=dX_agree h;funext h' nx κ;simp only [dI,oBx,hx]
 case bxs t x=>have hx:=dX_agree h;funext h' nx κ;simp only [dI,oBxs,hx]
 case bld z ps=>have hx:=dP_agree h;funext h' nx κ;simp only [dI,oBld,hx]
 case bsl z n l ps=>have hx:=dP_agree h;funext h' nx κ;simp only [dI,oBsl,hx]
 case mks x y s z b=>have hx:=dX_agree h.left;have hy:=dX_agree h.right;funext h' nx κ;simp only [dI,oMks,hx,hy]
 case mkm=>rfl
 case lkp g ks x k ok z=>have hx:=dX_agree h.left;have hy:=dX_agree h.right;funext h' nx κ;simp only [dI,oLkp,hx,hy]
 case mpu g ks x k v=>have hx:=dX_agree h.left.left;have hk:=dX_agree h.left.right;have hv:=dX_agree h.right;funext h' nx κ;simp only [dI,oMpu,hx,hk,hv]
 case mpe g ks x k z=>have hx:=dX_agree h.left;have hy:=dX_agree h.right;funext h' nx κ;simp only [dI,oMpe,hx,hy]
 case ens x s v=>have hx:=dX_agree h.left.left;have hk:=dX_agree h.left.right;have hv:=dX_agree h.right;funext h' nx κ;simp only [dI,oEns,hx,hk,hv]
 case slc x l q m s=>have hx:=dX_agree h.left.left.left;have hl:=dB_agree h.left.left.right;have hq:=dB_agree h.left.right;have hm:=dB_agree h.right;funext h' nx κ;simp only [dI,oSlc,hx,hl,hq,hm]
 case slr x l q m s=>have hx:=dX_agree h.left.left.left;have hl:=dB_agree h.left.left.right;have hq:=dB_agree h.left.right;have hm:=dB_agree h.right;funext h' nx κ;simp only [dI,oSlr,hx,hl,hq,hm]
 case sls x l q=>have hx:=dX_agree h.left.left;have hl:=dB_agree h.left.right;have hq:=dB_agree h.right;funext h' nx κ;simp only [dI,oSls,hx,hl,hq]
 case sla x l q m n s=>have hx:=dX_agree h.left.left.left;have hl:=dB_agree h.left.left.right;have hq:=dB_agree h.left.right;have hm:=dB_agree h.right;funext h' nx κ;simp only [dI,oSla,hx,hl,hq,hm]
 case apn x y s b=>have hx:=dX_agree h.left;have hy:=dX_agree h.right;funext h' nx κ;simp only [dI,oApn,hx,hy]
 case apz x y s b z=>have hx:=dX_agree h.left;have hy:=dX_agree h.right;funext h' nx κ;simp only [dI,oApz,hx,hy]
 case clr x z=>have hx:=dX_agree h;funext h' nx κ;simp only [dI,oClr,hx]
 case msh x=>have hx:=dX_agree h;funext h' nx κ;simp only [dI,oMsh,hx]
 case ety x=>have hx:=dX_agree h;funext h' nx κ;simp only [dI,oEty,hx]
 case cpy x y s=>have hx:=dX_agree h.left;have hy:=dX_agree h.right;funext h' nx κ;simp only [dI,oCpy,hx,hy]
 case dlt g ks x k=>have hx:=dX_agree h.left;have hy:=dX_agree h.right;funext h' nx κ;simp only [dI,oDlt,hx,hy]
 case ald k x=>have hx:=dX_agree h;funext h' nx κ;simp only [dI,oAld,hx]
 case ast x y=>have hx:=dX_agree h.left;have hy:=dX_agree h.right;funext h' nx κ;simp only [dI,oAst,hx,hy]
 case acs k x y z=>have hx:=dX_agree h.left.left;have hy:=dX_agree h.left.right;have hz:=dX_agree h.right;funext h' nx κ;simp only [dI,oAcs,hx,hy,hz]
 case aad k x y=>have hx:=dX_agree h.left;have hy:=dX_agree h.right;funext h' nx κ;simp only [dI,oAad,hx,hy]
 case als t z=>rfl
 case cvp ok x=>have hx:=dX_agree h;funext h' nx κ;simp only [dI,oCvp,hx]
 case nes x=>have hx:=dX_agree h;funext h' nx κ;simp only [dI,oMv,hx]
 case apb t b x y=>have hx:=dX_agree h.left;have hy:=dX_agree h.right;funext h' nx κ;simp only [dI,oApb,hx,hy]
 case usd x=>have hx:=dX_agree h;funext h' nx κ;simp only [dI,oUsd,hx]
 case ust t x y=>have hx:=dX_agree h.left;have hy:=dX_agree h.right;funext h' nx κ;simp only [dI,oUst,hx,hy]
 case mnz t x=>have hx:=dX_agree h;funext h' nx κ;simp only [dI,oMnz,hx]
 case cnt x y=>have hx:=dX_agree h.left;have hy:=dX_agree h.right;funext h' nx κ;simp only [dI,oCnt,hx,hy]
 case idx x y=>have hx:=dX_agree h.left;have hy:=dX_agree h.right;funext h' nx κ;simp only [dI,oIdx,hx,hy]
 case cpc x=>have hx:=dX_agree h;funext h' nx κ;simp only [dI,oCap,hx]
 case cpn x y=>have hx:=dX_agree h.left;have hy:=dX_agree h.right;funext h' nx κ;simp only [dI,oCpn,hx,hy]
 case nop=>rfl
 case nopp x=>have hx:=dX_agree h;funext h' nx κ;simp only [dI,oNopp,hx]
 case bad=>rfl
 case rng x=>have hx:=dX_agree h;funext h' nx κ;simp only [dI,oRng,hx]
 case nxt x=>have hx:=dX_agree h;funext h' nx κ;simp only [dI,oNxt,hx]
theorem dG_agree {g:Gd} {en en':Env} (h:Agree (rdG (some g)) en en'):∀ A B,dG g en A B=dG g en' A B:=by
 intro A B
 cases g with
 | n=>rfl
 | g t b=>exact dX_agree (x:=.t t) h _
variable {b:Frame} {a:Act} {k:List Item} {cs:List Frame} {w w':World} {ops:Array Oper} {i:Nat} {rest:List Nat} {o:Oper}
theorem step_value {n:Next} {u:Value} (ho:ops[i]? = some o) (hw:Region.wanted o (yielded ops a.tmps)=true) (hr:(execOp a.eval o).run P w = .ok n w') (hn:fin n=some u) :
  Steps P (lone (b.atR a (.inRegion ops (i :: rest) :: k)) cs w) (lone (b.atR (a.put o.dst u) (.inRegion ops rest :: k)) cs w'):=by
 have hnd:∀ c,o.op≠.defer c:=by
  intro c hc
  have hd:execOp a.eval o=(do pure (.defer (← resolve a.eval c o.type))):=by simp only [execOp,hc]
  rw [hd] at hr
  simp only [Sem.run_bind,Sem.run_pure] at hr
  cases hq:(resolve a.eval c o.type).run P w with
  | ok x w2=>
   rw [hq] at hr
   simp only [Result.andThen] at hr
   injection hr with h1 _
   subst h1
   cases hn
  | halt x w2=>rw [hq] at hr;simp [Result.andThen] at hr
 have hg:=stepGR_op (P:=P) (b:=b) (k:=k) (cs:=cs) (w:=w) (rest:=rest) ho hw
 rw [Oper.semAt_eq _ _ _ hnd] at hg
 have hfin:∀ v,(b.atR a (.inRegion ops (i :: rest) :: k)).finish v=b.atR (a.put o.dst v) (.inRegion ops rest :: k):=by
  intro v;rw [Frame.finish_atR,ho];rfl
 refine .one (step_lone_go ?_)
 cases n<;>first | (cases hn;done) | skip
 ·injection hn with hn;subst hn
  rw [hg,← hfin];simp [stepG.apply,hr]
 ·injection hn with hn;subst hn
  rw [hg,← hfin];simp [stepG.apply,hr]
theorem step_unwanted (ho:ops[i]? = some o) (hw:Region.wanted o (yielded ops a.tmps)=false) :
  Steps P (lone (b.atR a (.inRegion ops (i :: rest) :: k)) cs w) (lone (b.atR (a.put o.dst Go.undef) (.inRegion ops rest :: k)) cs w):=by
 have hs:=stepR_op_skip (P:=P) (b:=b) (a:=a) (k:=k) (cs:=cs) (w:=w) (ops:=ops) (i:=i) (rest:=rest) (by simp [ho,hw])
 simp only [ho,Option.bind_some] at hs
 exact .one hs
theorem step_enter {f:FuncId} {args:Array Value} (ho:ops[i]? = some o) (hw:Region.wanted o (yielded ops a.tmps)=true) (hnd:∀ c,o.op≠.defer c) (hr:(execOp a.eval o).run P w = .ok (.enter f args) w') :
  Steps P (lone (b.atR a (.inRegion ops (i :: rest) :: k)) cs w) (lone (Frame.enter P f args .normal) (b.atR a (.inRegion ops (i :: rest) :: k) :: cs) w'):=by
 have hg:=stepGR_op (P:=P) (b:=b) (k:=k) (cs:=cs) (w:=w) (rest:=rest) ho hw
 rw [Oper.semAt_eq _ _ _ hnd] at hg
 exact .one (step_lone_go (by rw [hg];simp [stepG.apply,hr,Frame.atR]))
theorem step_round {l:Nat} {f:FuncId} {tmps:Array Value} {x y:Code} (ho:ops[i]? = some o) (hw:Region.wanted o (yielded ops a.tmps)=true) (hnd:∀ c,o.op≠.defer c) (hr:(execOp a.eval o).run P w = .ok (.round l f tmps x y) w') :
  Steps P (lone (b.atR a (.inRegion ops (i :: rest) :: k)) cs w) (lone (Frame.round l f tmps x y .normal) (b.atR a (.inRegion ops (i :: rest) :: k) :: cs) w'):=by
 have hg:=stepGR_op (P:=P) (b:=b) (k:=k) (cs:=cs) (w:=w) (rest:=rest) ho hw
 rw [Oper.semAt_eq _ _ _ hnd] at hg
 exact .one (step_lone_go (by rw [hg];simp [stepG.apply,hr,Frame.atR]))
theorem step_defer_op {d:Deferred} (hb:b.roundOf=none) (ho:ops[i]? = some o) (hw:Region.wanted o (yielded ops a.tmps)=true) (hr:(execOp a.eval o).run P w = .ok (.defer d) w') :
  Steps P (lone (b.atR a (.inRegion ops (i :: rest) :: k)) cs w) (lone (b.atR ({ a with defers:=d :: a.defers }.put o.dst Go.undef) (.inRegion ops rest :: k)) cs w'):=by
 have hg:=stepGR_op (P:=P) (b:=b) (k:=k) (cs:=cs) (w:=w) (rest:=rest) ho hw
 rw [hb,Oper.semAt_none] at hg
 have:({ b.atR a (.inRegion ops (i :: rest) :: k) with defers:=d :: a.defers }:Frame).finish Go.undef=b.atR ({ a with defers:=d :: a.defers }.put o.dst Go.undef) (.inRegion ops rest :: k):=by
  have:=Frame.finish_atR b { a with defers:=d :: a.defers } ops i rest k Go.undef
  rw [ho] at this;exact this
 refine .one (step_lone_go ?_)
 rw [hg];simp only [stepG.apply,Sem.runT_eq,hr,GStep.bare_after]
 exact congrArg (fun fr=>GStep.go { frame:=fr,callers:=cs,status:=.running,dying:=none } w') this
theorem step_recover (hb:b.roundOf=none) (ho:ops[i]? = some o) (hw:Region.wanted o (yielded ops a.tmps)=true) (hnd:∀ c,o.op≠.defer c) (hr:(execOp a.eval o).run P w = .ok .recover w')
  (ht:tryRecover (b.atR a (.inRegion ops (i :: rest) :: k)) cs=none) :
  Steps P (lone (b.atR a (.inRegion ops (i :: rest) :: k)) cs w) (lone (b.atR (a.put o.dst .nilIface) (.inRegion ops rest :: k)) cs w'):=by
 have hg:=stepGR_op (P:=P) (b:=b) (k:=k) (cs:=cs) (w:=w) (rest:=rest) ho hw
 rw [Oper.semAt_eq _ _ _ hnd] at hg
 have hfin:(b.atR a (.inRegion ops (i :: rest) :: k)).finish .nilIface=b.atR (a.put o.dst .nilIface) (.inRegion ops rest :: k):=by
  rw [Frame.finish_atR,ho];rfl
 refine .one (step_lone_go ?_)
 have hro:(b.atR a (.inRegion ops (i :: rest) :: k)).roundOf=none:=hb
 rw [hg,← hfin]
 simp only [stepG.apply,Sem.runT_eq,hr,hro,ht,GStep.bare_after]
 rfl
end
end Go.AM

namespace Go.AM
open Go
section
variable {P:Program} {nt:Nat} {ops:Array Oper}
theorem memb_iff {n:Nat}:∀ {l:List Nat},memb n l=true↔n ∈ l
 | []=>by simp [memb]
 | m :: r=>by
  simp only [memb,Bool.or_eq_true,List.mem_cons,memb_iff (l:=r)]
  constructor
  ·rintro (h | h)
   ·exact .inl (Nat.eq_of_beq_eq_true h).symm
   ·exact .inr h
  ·rintro (h | h)
   ·exact .inl (by rw [h];exact Nat.beq_refl _)
   ·exact .inr h
theorem memb_false {n:Nat} {l:List Nat}:memb n l=false↔n ∉ l:=by
 rw [← memb_iff];simp
inductive Waits (ops:Array Oper):Nat→Nat→Prop where
 | one {i:Nat} {o:Oper} {e:Edge} (ho:ops[i]? = some o) (he:e ∈ o.after) (hb:Region.binds .any e=true):Waits ops i e.on
 | more {i j:Nat} {o:Oper} {e:Edge} (ho:ops[i]? = some o) (he:e ∈ o.after) (hb:Region.binds .any e=true) (h:Waits ops e.on j):Waits ops i j
def Shut (ops:Array Oper) (D:Nat→Prop):Prop:=∀ i,D i→∀ o,ops[i]? = some o→∀ e ∈ o.after,Region.binds .any e=true→D e.on
theorem Waits.shut {D:Nat→Prop} (hD:Shut ops D):∀ {i j:Nat},Waits ops i j→(∀ o,ops[i]? = some o→∀ e ∈ o.after,Region.binds .any e=true→D e.on)→D j
 | _,_,.one ho he hb,h=>h _ ho _ he hb
 | _,_,.more ho he hb w,h=>w.shut hD (hD _ (h _ ho _ he hb))
theorem before_waits:∀ (i j:Nat),((Region.before ops).getD i 0).testBit j=true→Waits ops i j:=by
 have inner:∀ (acc:Array Nat) (i:Nat) (o:Oper),ops[i]? = some o→(∀ k j,((acc.getD k 0).testBit j=true→Waits ops k j))→∀ (es:List Edge) (s:Nat),(∀ e ∈ es,e ∈ o.after)→(∀ j,s.testBit j=true→Waits ops i j)→
   ∀ j,(es.foldl (fun s e=>if Region.binds .any e then s ||| 2 ^ e.on ||| acc.getD e.on 0 else s) s).testBit j=true→Waits ops i j:=by
  intro acc i o ho hacc es
  induction es with
  | nil=>intro s _ hs j hj;exact hs j hj
  | cons e es ih=>
   intro s hes hs j hj
   rw [List.foldl_cons] at hj
   refine ih _ (fun e' he'=>hes e' (List.mem_cons_of_mem _ he')) (fun j hj=>?_) j hj
   by_cases hb:Region.binds .any e=true
   ·rw [if_pos hb,Nat.testBit_or,Nat.testBit_or] at hj
    simp only [Bool.or_eq_true] at hj
    rcases hj with (hj | hj) | hj
    ·exact hs j hj
    ·rw [Nat.testBit_two_pow] at hj
     have:e.on=j:=by simpa using hj
     subst this
     exact .one ho (hes e (List.mem_cons_self ..)) hb
    ·exact .more ho (hes e (List.mem_cons_self ..)) hb (hacc _ _ hj)
   ·rw [if_neg hb] at hj;exact hs j hj
 have outer:∀ (l:List Oper) (acc:Array Nat),(∀ k,k < acc.size + l.length→ops[k]?≠none)→(∀ k o,l[k]? = some o→ops[acc.size + k]? = some o)→(∀ k j,((acc.getD k 0).testBit j=true→Waits ops k j))→
   ∀ k j,(((l.foldl (fun acc o=>acc.push (o.after.foldl (fun s e=>if Region.binds .any e then s ||| 2 ^ e.on ||| acc.getD e.on 0 else s) 0)) acc).getD k 0).testBit j=true→Waits ops k j):=by
  intro l
  induction l with
  | nil=>intro acc _ _ hacc;exact hacc
  | cons o l ih=>
   intro acc hsz hl hacc
   rw [List.foldl_cons]
   refine ih _ (fun k hk=>hsz k (by simp at hk ⊢;omega)) (fun k o' hk=>?_) (fun k j hj=>?_)
   ·have:=hl (k + 1) o' (by simpa using hk)
    simp only [Array.size_push]
    rw [show acc.size + 1 + k=acc.size + (k + 1) by omega];exact this
   ·rw [Array.getD_eq_getD_getElem?,Array.getElem?_push] at hj
    split at hj
    ·rename_i hk
     have ho:=hl 0 o rfl
     rw [Nat.add_zero] at ho
     rw [hk]
     rw [← Array.foldl_toList] at hj
     exact inner acc acc.size o ho hacc o.after.toList 0 (fun e he=>by simpa using he) (fun j hj=>by simp at hj) j hj
    ·exact hacc k j (by rw [Array.getD_eq_getD_getElem?];exact hj)
 intro i j h
 unfold Region.before at h
 rw [← Array.foldl_toList] at h
 exact outer ops.toList #[] (fun k hk=>by simp at hk;simp [hk]) (fun k o hk=>by simpa using hk) (fun k j hj=>by simp at hj) i j h
def Lin (ops:Array Oper):(Nat→Prop)→List Nat→Prop
 | D,[]=>∀ i o,ops[i]? = some o→¬ D i→∃ e ∈ o.after,Region.binds .any e=true∧¬ D e.on
 | D,i :: r=>i < ops.size∧¬ D i∧(∀ o,ops[i]? = some o→∀ e ∈ o.after,Region.binds .any e=true→D e.on)∧Lin ops (fun j=>D j∨j=i) r
theorem Lin.congr:∀ {π:List Nat} {D D':Nat→Prop},(∀ i,D i↔D' i)→Lin ops D π→Lin ops D' π
 | [],D,D',h,hl=>fun i o ho hn=>let ⟨e,h1,h2,h3⟩:=hl i o ho (fun hd=>hn ((h i).1 hd));⟨e,h1,h2,fun hd=>h3 ((h _).2 hd)⟩
 | i :: π,D,D',h,⟨h1,h2,h3,h4⟩=>⟨h1,fun hd=>h2 ((h i).2 hd),fun o ho e he hb=>(h _).1 (h3 o ho e he hb),Lin.congr (fun j=>by rw [h j]) h4⟩
theorem lin_of_go:∀ (fuel t:Nat) (listed:Array Bool),listed.size=ops.size→(listed.toList.count false≤fuel)→Lin ops (fun i=>listed.getD i false=true) (Region.linearise.go .any ops fuel t listed []):=by
 have noneReady:∀ listed:Array Bool,listed.size=ops.size→Region.ready .any ops listed=[]→∀ i o,ops[i]? = some o→¬ (listed.getD i false=true)→∃ e ∈ o.after,Region.binds .any e=true∧¬ (listed.getD e.on false=true):=by
  intro listed hs hr i o ho hn
  apply Classical.byContradiction
  intro hcon
  have hi:i < ops.size:=(Array.getElem?_eq_some_iff.1 ho).1
  have:i ∈ Region.ready .any ops listed:=by
   unfold Region.ready
   rw [List.mem_filter]
   refine ⟨List.mem_range.2 hi,?_⟩
   have hl:i < listed.size:=by omega
   have h1:listed.getD i true=false:=by
    rw [Array.getD_eq_getD_getElem?,Array.getElem?_eq_getElem hl]
    rw [Array.getD_eq_getD_getElem?,Array.getElem?_eq_getElem hl] at hn
    simpa using hn
   have h2:o.after.all (fun e=>!Region.binds .any e || listed.getD e.on false)=true:=by
    rw [Array.all_eq_true']
    intro e he
    cases hb:Region.binds .any e with
    | false=>rfl
    | true=>
     cases hl:listed.getD e.on false with
     | true=>rfl
     | false=>exact absurd ⟨e,he,hb,by rw [hl];simp⟩ hcon
   rw [h1,ho,Option.map_some,Option.getD_some,h2];rfl
  rw [hr] at this
  cases this
 intro fuel
 induction fuel with
 | zero=>
  intro t listed hs hc
  have hall:∀ i,i < ops.size→listed.getD i false=true:=by
   intro i hi
   have hl:i < listed.size:=by omega
   have:false ∉ listed.toList:=List.count_eq_zero.1 (by omega)
   rw [Array.getD_eq_getD_getElem?,Array.getElem?_eq_getElem hl]
   cases hv:listed[i] with
   | true=>rfl
   | false=>exact absurd (by rw [← hv];exact Array.getElem_mem_toList hl) this
  intro i o ho hn
  exact absurd (hall i (Array.getElem?_eq_some_iff.1 ho).1) hn
 | succ fuel ih=>
  intro t listed hs hc
  simp only [Region.linearise.go]
  change Lin ops _ (match (Region.ready .any ops listed)[t % (Region.ready .any ops listed).length]? with
   | some i=>Region.linearise.go .any ops fuel (t / (Region.ready .any ops listed).length) (listed.setIfInBounds i true) [i]
   | none=>[].reverse)
  cases hi:(Region.ready .any ops listed)[t % (Region.ready .any ops listed).length]? with
  | none=>
   have hnil:Region.ready .any ops listed=[]:=by
    cases hr:Region.ready .any ops listed with
    | nil=>rfl
    | cons x xs=>
     rw [hr] at hi
     have hlt:t % (x :: xs).length < (x :: xs).length:=Nat.mod_lt _ (by simp)
     simp at hi
     simp at hlt
     omega
   exact noneReady listed hs hnil
  | some i=>
   have hm:=List.mem_of_getElem? hi
   unfold Region.ready at hm
   rw [List.mem_filter] at hm
   obtain ⟨h1,h2⟩:=hm
   have h1:=List.mem_range.1 h1
   simp only [Bool.and_eq_true,Bool.not_eq_true'] at h2
   obtain ⟨h2,h3⟩:=h2
   have hl:i < listed.size:=by omega
   have hfalse:listed[i]=false:=by
    rw [Array.getD_eq_getD_getElem?,Array.getElem?_eq_getElem hl] at h2
    simpa using h2
   show Lin ops _ (Region.linearise.go .any ops fuel (t / (Region.ready .any ops listed).length) (listed.setIfInBounds i true) [i])
   rw [linearise_go_acc,List.reverse_singleton,List.singleton_append]
   refine ⟨h1,?_,?_,?_⟩
   ·show ¬ (listed.getD i false=true)
    rw [Array.getD_eq_getD_getElem?,Array.getElem?_eq_getElem hl,hfalse];simp
   ·intro o ho e he hb
    rw [ho] at h3
    simp only [Option.map_some,Option.getD_some] at h3
    have:=Array.all_eq_true'.1 h3 e he
    rw [hb] at this
    simpa using this
   ·refine Lin.congr (fun j=>?_) (ih (t / (Region.ready .any ops listed).length) (listed.setIfInBounds i true) (by simpa using hs) ?_)
    ·show (listed.setIfInBounds i true).getD j false=true↔(listed.getD j false=true∨j=i)
     rw [Array.getD_eq_getD_getElem?,Array.getD_eq_getD_getElem?]
     by_cases hj:i=j
     ·subst hj
      rw [Array.getElem?_setIfInBounds_self_of_lt hl];simp
     ·rw [Array.getElem?_setIfInBounds_ne hj]
      constructor
      ·exact .inl
      ·rintro (h | h)
       ·exact h
       ·exact absurd h.symm hj
    ·rw [Array.toList_setIfInBounds]
     have hlt:i < listed.toList.length:=by simpa using hl
     rw [List.count_set hlt]
     have:listed.toList[i]=false:=by simpa using hfalse
     have hpos:0 < listed.toList.count false:=List.count_pos_iff.2 (by rw [← this];exact List.getElem_mem hlt)
     rw [this]
     simp only [BEq.rfl,if_true]
     rw [if_neg (by decide)]
     omega
theorem lin_schedule (hm:P.follows .mixedOrders=true) (t:Nat):Lin ops (fun _=>False) (Region.schedule (P.follows .mixedOrders) ops t):=by
 simp only [Region.schedule,hm,Bool.true_or,if_true,Region.linearise]
 refine Lin.congr (fun i=>?_) (lin_of_go ops.size t (Array.replicate ops.size false) (by simp) (by simp))
 rw [Array.getD_eq_getD_getElem?,Array.getElem?_replicate]
 split<;>simp
end
end Go.AM

namespace Go.AM
open Go
mutual
theorem beqV_eq:∀ (x y:AV),beqV x y=true→x=y
 | .i k n,y,h=>by
  cases y<;>simp [beqV] at h
  obtain ⟨h1,h2⟩:=h
  rw [h1,h2]
 | .b c,y,h=>by cases y<;>simp [beqV] at h;rw [h]
 | .s l,y,h=>by cases y<;>simp [beqV] at h;rw [h]
 | .p o i,y,h=>by cases y<;>simp [beqV] at h;rw [h.1,h.2]
 | .np,y,h=>by cases y<;>simp [beqV] at h;rfl
 | .sl o i l c,y,h=>by cases y<;>simp [beqV] at h;rw [h.1.1.1,h.1.1.2,h.1.2,h.2]
 | .ns,y,h=>by cases y<;>simp [beqV] at h;rfl
 | .m o,y,h=>by cases y<;>simp [beqV] at h;rw [h]
 | .nm,y,h=>by cases y<;>simp [beqV] at h;rfl
 | .fn f l,y,h=>by
  cases y<;>simp [beqV] at h
  rw [h.1,beqVs_eq l _ h.2]
 | .yl o,y,h=>by cases y<;>simp [beqV] at h;rw [h]
 | .nf,y,h=>by cases y<;>simp [beqV] at h;rfl
 | .ifc t v,y,h=>by
  cases y<;>simp [beqV] at h
  rw [h.1,beqV_eq v _ h.2]
 | .ni,y,h=>by cases y<;>simp [beqV] at h;rfl
 | .x n,y,h=>by cases y<;>simp [beqV] at h;rw [h]
 | .xi n k r m,y,h=>by cases y<;>simp [beqV] at h;rw [h.1.1.1,h.1.1.2,h.1.2,h.2]
 | .l k n,y,h=>by cases y<;>simp [beqV] at h;rw [h.1,h.2]
 | .q o i n,y,h=>by cases y<;>simp [beqV] at h;rw [h.1.1,h.1.2,h.2]
 | .t l,y,h=>by
  cases y<;>simp [beqV] at h
  rw [beqVs_eq l _ h]
 | .f n m,y,h=>by cases y<;>simp [beqV] at h;rw [h.1,h.2]
 | .z n m,y,h=>by cases y<;>simp [beqV] at h;rw [h.1,h.2]
 | .ag l,y,h=>by
  cases y<;>simp [beqV] at h
  rw [beqVs_eq l _ h]
 | .tu l,y,h=>by
  cases y<;>simp [beqV] at h
  rw [beqVs_eq l _ h]
theorem beqVs_eq:∀ (l m:List AV),beqVs l m=true→l=m
 | [],m,h=>by cases m<;>simp [beqVs] at h;rfl
 | x :: r,m,h=>by
  cases m<;>simp [beqVs] at h
  rw [beqV_eq x _ h.1,beqVs_eq r _ h.2]
end
theorem inj_of_nodup {α β:Type} {f:α→β}:∀ {l:List α},(l.map f).Nodup→∀ {x y:α},x ∈ l→y ∈ l→f x=f y→x=y
 | [],_,x,_,hx,_,_=>by cases hx
 | a :: l,hn,x,y,hx,hy,h=>by
  simp only [List.map_cons,List.nodup_cons] at hn
  rcases List.mem_cons.1 hx with ex | hx
  ·rcases List.mem_cons.1 hy with ey | hy
   ·rw [ex,ey]
   ·exact absurd (List.mem_map.2 ⟨y,hy,by rw [← h,ex]⟩) hn.1
  ·rcases List.mem_cons.1 hy with ey | hy
   ·exact absurd (List.mem_map.2 ⟨x,hx,by rw [h,ey]⟩) hn.1
   ·exact inj_of_nodup hn.2 hx hy h
section
variable {P:Program} {nt:Nat} {ops:Array Oper}
theorem trH_op {dr:Bool} {ps:String} {op:Op} {i:I} (h:trH P dr ps op = .op i):i=trI P dr ps op:=by
 unfold trH at h
 split at h
 ·split at h
  ·cases h
  ·split at h
   ·cases h
   ·injection h with h;exact h.symm
  ·split at h
   ·cases h
   ·cases h
  ·split at h<;>cases h
  ·injection h with h;exact h.symm
 ·split at h
  ·split at h
   ·cases h
   ·cases h
  ·split at h
   ·cases h
   ·cases h
  ·cases h
 ·injection h with h;exact h.symm
theorem cls_of {dr:Bool} {o:Oper} {i:I} (h:trH P dr o.pos o.op = .op i):Cls P o i:=by rw [trH_op h];exact cls_ok
structure Fitd (P:Program) (nt:Nat) (ops:Array Oper) (i:Nat) (o:Oper) (g:Gd) (d:Ds):Prop where
 ho:ops[i]? = some o
 hg:trG ops o=some g
 hd:trD nt o=some d
 lt:∀ t ∈ rdOf P ops o,t < 512
 rd:∀ j o' t,ops[j]? = some o'→o'.dst=some t→t ∈ rdOf P ops o→Waits ops i j∨Waits ops j i
 ds:∀ j o' t,ops[j]? = some o'→o'.dst=some t→i=j∨o.dst≠some t
theorem fitL_ok {done:List Nat} {i:Nat} (h:fitL P nt ops (Region.before ops) done i=true):(∃ o g d,Fitd P nt ops i o g d)∧i ∉ done∧∀ o,ops[i]? = some o→∀ e ∈ o.after,Region.binds .any e=true→e.on ∈ done:=by
 unfold fitL at h
 cases ho:ops[i]? with
 | none=>rw [ho] at h;cases h
 | some o=>
  rw [ho] at h
  simp only [Bool.and_eq_true,Bool.not_eq_true'] at h
  obtain ⟨⟨⟨⟨⟨h1,h2⟩,h3⟩,h4⟩,h5⟩,h6⟩:=h
  obtain ⟨g,hg⟩:=Option.isSome_iff_exists.1 h2
  obtain ⟨d,hd⟩:=Option.isSome_iff_exists.1 h3
  have key:∀ j o' t,ops[j]? = some o'→o'.dst=some t→((memb t (rdOf P ops o)=false∨((Region.before ops).getD i 0).testBit j=true)∨((Region.before ops).getD j 0).testBit i=true)∧(i=j∨o.dst≠some t):=by
   intro j o' t ho' ht
   have hj:j < ops.size:=(Array.getElem?_eq_some_iff.1 ho').1
   have:=List.all_eq_true.1 h6 j (List.mem_range.2 hj)
   simp only [ho',ht,Bool.and_eq_true,Bool.or_eq_true,Bool.not_eq_true'] at this
   obtain ⟨q1,q2⟩:=this
   refine ⟨q1,?_⟩
   rcases q2 with q2 | q2
   ·exact .inl (Nat.eq_of_beq_eq_true q2)
   ·right
    intro hod
    rw [hod] at q2
    have q2:(!Nat.beq t t)=true:=q2
    have:Nat.beq t t=true:=Nat.beq_refl t
    rw [this] at q2;cases q2
  refine ⟨⟨o,g,d,ho,hg,hd,fun t ht=>?_,fun j o' t ho' hd' hm=>?_,fun j o' t ho' hd'=>(key j o' t ho' hd').2⟩,memb_false.1 h1,fun o' ho' e he hb=>?_⟩
  ·have:=List.all_eq_true.1 h4 t ht
   simpa [Nat.blt_eq] using this
  ·rcases (key j o' t ho' hd').1 with (h | h) | h
   ·exact absurd hm (memb_false.1 h)
   ·exact .inl (before_waits i j h)
   ·exact .inr (before_waits j i h)
  ·injection ho' with ho';subst ho'
   have:=List.all_eq_true.1 h5 e (by simpa using he)
   rw [hb] at this
   simpa using memb_iff.1 (by simpa using this)
theorem fitB_ok {i:Nat} (h:fitB P ops (Region.before ops) i=true) {o:Oper} (ho:ops[i]? = some o):∀ j o' t,ops[j]? = some o'→o'.dst=some t→t ∈ rdOf P ops o→Waits ops i j:=by
 intro j o' t ho' ht hm
 unfold fitB at h
 rw [ho] at h
 have hj:j < ops.size:=(Array.getElem?_eq_some_iff.1 ho').1
 have:=List.all_eq_true.1 h j (List.mem_range.2 hj)
 simp only [ho',ht,Bool.or_eq_true,Bool.not_eq_true'] at this
 rcases this with h | h
 ·exact absurd hm (memb_false.1 h)
 ·exact before_waits i j h
def EnI (ops:Array Oper) (i:Nat) (rd:List Nat) (eni en enM:Env):Prop:=∀ t ∈ rd,
 ((∀ j oj,ops[j]? = some oj→oj.dst=some t→Waits ops i j)∧getL AV 3 t eni=getL AV 3 t en)∨
 ((∃ j oj,ops[j]? = some oj∧oj.dst=some t∧Waits ops j i∧¬ Waits ops i j)∧getL AV 3 t eni=getL AV 3 t enM)
def Pend (P:Program) (ops:Array Oper) (qs:List (Nat × Nat × AO)) (st:List Nat) (h:H) (en enM:Env) (i:Nat) (o:Oper) (g:Gd) (d:Ds):Prop:=
 ∃ I eni,trH P true o.pos o.op = .op I∧clsI I < 3∧EnI ops i (rdOf P ops o) eni en enM∧
  ((GSays g eni false∧∀ t,d = .d t→getL AV 3 t en=undef)∨
   (GSays g eni true∧
    ((clsI I=0∧∃ v,(∀ t,d = .d t→getL AV 3 t en=v)∧∀ h' nx' κ',dI I eni h' nx' κ' = κ' v h' nx')∨
     (clsI I=1∧(i ∈ st∨∃ v,(∀ t,d = .d t→getL AV 3 t en=v)∧∀ h',Ext h h'→∀ nx' κ',dI I eni h' nx' κ' = κ' v h' nx'))∨
     (clsI I=2∧∃ (a0:AO) (vf:Nat→AV) (o':Nat),(i,o',a0) ∈ qs∧(∀ t,d = .d t→getL AV 3 t en=vf o')∧∀ h' nx' κ',nx' < 2097152→dI I eni h' nx' κ' = κ' (vf nx') (setO h' nx' a0) (nx' + 1)))))
def Ord (ops:Array Oper):List Nat→Prop
 | []=>True
 | i :: A=>(∀ o,ops[i]? = some o→∀ e ∈ o.after,Region.binds .any e=true→e.on ∈ A)∧Ord ops A
theorem Ord.shut:∀ {A:List Nat},Ord ops A→Shut ops (fun i=>i ∈ A)
 | [],_,i,hi=>by cases hi
 | j :: A,⟨h1,h2⟩,i,hi=>by
  intro o ho e he hb
  rcases List.mem_cons.1 hi with rfl | hi
  ·exact List.mem_cons_of_mem _ (h1 o ho e he hb)
  ·exact List.mem_cons_of_mem _ (h2.shut i hi o ho e he hb)
structure Dr (P:Program) (nt:Nat) (ops:Array Oper) (θ:Th) (h:H) (qs:List (Nat × Nat × AO)) (L:List (Bool × Nat)) (A st:List Nat) (en enM:Env) (tmps:Array Value) (π:List Nat) (D:Nat→Prop):Prop where
 chk:okL P nt ops (Region.before ops) L A st=true
 lin:Lin ops D π
 shut:Shut ops D
 sub:∀ i,D i→i ∈ A
 ord:Ord ops A
 act:∀ i ∈ A,3≤clsAt P ops i→D i
 er:ER θ enM tmps
 agr:∀ t,t < 512→(∀ i o,i ∈ A→¬ D i→ops[i]? = some o→o.dst≠some t)→getL AV 3 t en=getL AV 3 t enM
 pend:∀ i ∈ A,∃ o g d,Fitd P nt ops i o g d∧(¬ D i→Pend P ops qs st h en enM i o g d)
theorem GSays.agree {g:Gd} {en en':Env} (h:Agree (rdG (some g)) en en') {c:Bool} (hs:GSays g en c):GSays g en' c:=by
 cases hs with
 | yes h1=>exact .yes fun A B=>by rw [← dG_agree h];exact h1 A B
 | no h1=>exact .no fun A B=>by rw [← dG_agree h];exact h1 A B
theorem rdOf_I {o:Oper} {I:I} {g:Gd} (hI:trH P true o.pos o.op = .op I) (hg:trG ops o=some g) {en en':Env} (h:Agree (rdOf P ops o) en en'):Agree (rdI I) en en'∧Agree (rdG (some g)) en en':=by
 unfold rdOf at h
 rw [hI,hg] at h
 exact ⟨h.left,h.right⟩
theorem putE_ne {d:Ds} {v:AV} {en:Env} {t:Nat} (ht:t < 512) (hn:nt≤512) {o:Oper} (hd:trD nt o=some d) (hne:o.dst≠some t):getL AV 3 t (putE d v en)=getL AV 3 t en:=by
 rcases trD_some hd with ⟨_,rfl⟩ | ⟨s,h1,rfl,h2⟩
 ·rfl
 ·exact getL_setL_ne (i:=s) (j:=t) v 3 en (Nat.lt_of_lt_of_le h2 hn) ht (fun e=>hne (by rw [h1,e]))
theorem putE_same {d:Ds} {v:AV} {en:Env} {t:Nat} (h:d = .d t):getL AV 3 t (putE d v en)=v:=by
 subst h;exact getL_setL v 3 t en
theorem Pend.move {qs:List (Nat × Nat × AO)} {st:List Nat} {h:H} {en enM en' enM':Env} {i:Nat} {o:Oper} {g:Gd} {d:Ds} (hp:Pend P ops qs st h en enM i o g d)
  (hd:∀ t,d = .d t→getL AV 3 t en' = getL AV 3 t en)
  (h1:∀ t ∈ rdOf P ops o,(∀ j oj,ops[j]? = some oj→oj.dst=some t→Waits ops i j)→getL AV 3 t en' = getL AV 3 t en)
  (h2:∀ t ∈ rdOf P ops o,∀ j oj,ops[j]? = some oj→oj.dst=some t→Waits ops j i→getL AV 3 t enM' = getL AV 3 t enM):Pend P ops qs st h en' enM' i o g d:=by
 obtain ⟨I,eni,hI,hlt,hE,hp⟩:=hp
 refine ⟨I,eni,hI,hlt,fun t ht=>?_,?_⟩
 ·rcases hE t ht with ⟨q1,q2⟩ | ⟨⟨j,oj,q1,q2,q3,q4⟩,q5⟩
  ·exact .inl ⟨q1,by rw [h1 t ht q1];exact q2⟩
  ·exact .inr ⟨⟨j,oj,q1,q2,q3,q4⟩,by rw [h2 t ht j oj q1 q2 q3];exact q5⟩
 ·rcases hp with ⟨p1,p2⟩ | ⟨p1,p2⟩
  ·exact .inl ⟨p1,fun t ht=>by rw [hd t ht];exact p2 t ht⟩
  ·refine .inr ⟨p1,?_⟩
   rcases p2 with ⟨c,v',q1,q2⟩ | ⟨c,hs | ⟨v',q1,q2⟩⟩ | ⟨c,a0,vf,o',q1,q2,q3⟩
   ·exact .inl ⟨c,v',fun t ht=>by rw [hd t ht];exact q1 t ht,q2⟩
   ·exact .inr (.inl ⟨c,.inl hs⟩)
   ·exact .inr (.inl ⟨c,.inr ⟨v',fun t ht=>by rw [hd t ht];exact q1 t ht,q2⟩⟩)
   ·exact .inr (.inr ⟨c,a0,vf,o',q1,fun t ht=>by rw [hd t ht];exact q2 t ht,q3⟩)
theorem Pend.put {qs:List (Nat × Nat × AO)} {st:List Nat} {h:H} {en enM enM':Env} {i:Nat} {o:Oper} {g:Gd} {d:Ds} (hn:nt≤512) (hf:Fitd P nt ops i o g d) (hp:Pend P ops qs st h en enM i o g d)
  {j:Nat} {oj:Oper} {dj:Ds} {v:AV} (hoj:ops[j]? = some oj) (hdj:trD nt oj=some dj) (hij:i≠j) (hw:¬ Waits ops i j)
  (h2:∀ t ∈ rdOf P ops o,∀ j oj,ops[j]? = some oj→oj.dst=some t→Waits ops j i→getL AV 3 t enM' = getL AV 3 t enM):Pend P ops qs st h (putE dj v en) enM' i o g d:=by
 refine hp.move (fun t ht=>?_) (fun t ht hb=>?_) h2
 ·rcases trD_some hf.hd with ⟨_,h2⟩ | ⟨s,h1,h2,h3⟩
  ·rw [h2] at ht;cases ht
  ·rw [h2] at ht;injection ht with ht;subst ht
   refine putE_ne (Nat.lt_of_lt_of_le h3 hn) hn hdj (fun e=>?_)
   rcases hf.ds j oj s hoj e with h | h
   ·exact hij h
   ·exact h h1
 ·exact putE_ne (hf.lt t ht) hn hdj (fun e=>hw (hb j oj hoj e))
theorem Fitd.keep {j:Nat} {oj:Oper} {gj:Gd} {dj:Ds} (hn:nt≤512) (fj:Fitd P nt ops j oj gj dj) {i:Nat} (hw:¬ Waits ops j i) {v:AV} {enM:Env} {t:Nat} (ht:t < 512) :
  ∀ k ok,ops[k]? = some ok→ok.dst=some t→Waits ops k i→getL AV 3 t (putE dj v enM)=getL AV 3 t enM:=by
 intro k ok hk hkt hki
 refine putE_ne ht hn fj.hd (fun e=>?_)
 rcases fj.ds k ok t hk hkt with h | h
 ·subst h;exact hw hki
 ·exact h e
theorem Pend.ext {qs qs':List (Nat × Nat × AO)} {st:List Nat} {h h':H} {en enM:Env} {i:Nat} {o:Oper} {g:Gd} {d:Ds} (hp:Pend P ops qs st h en enM i o g d) (hx:Ext h h') (hq:∀ x ∈ qs,x.1=i→x ∈ qs'):Pend P ops qs' st h' en enM i o g d:=by
 obtain ⟨I,eni,hI,hlt,hE,hp⟩:=hp
 refine ⟨I,eni,hI,hlt,hE,hp.imp id fun ⟨p1,p2⟩=>⟨p1,?_⟩⟩
 rcases p2 with p2 | ⟨c,hs | ⟨v',q1,q2⟩⟩ | ⟨c,a0,vf,o',q1,q2,q3⟩
 ·exact .inl p2
 ·exact .inr (.inl ⟨c,.inl hs⟩)
 ·exact .inr (.inl ⟨c,.inr ⟨v',q1,fun h'' hx'=>q2 h'' (fun o a e=>hx' o a (hx o a e))⟩⟩)
 ·exact .inr (.inr ⟨c,a0,vf,o',hq _ q1 rfl,q2,q3⟩)
section
variable {θ:Th} {h:H} {qs:List (Nat × Nat × AO)} {L:List (Bool × Nat)} {A st:List Nat} {en enM:Env} {a:Act} {π:List Nat} {D:Nat→Prop} {w0 w:World} {pd:List (Nat × AO)} {nx:Nat} {b:Frame} {k:List Item} {cs:List Frame}
theorem Dr.agree {i:Nat} (hD:Dr P nt ops θ h qs L A st en enM a.tmps (i :: π) D) (hia:i ∉ A) {o:Oper} {g:Gd} {d:Ds} (hf:Fitd P nt ops i o g d):Agree (rdOf P ops o) en enM:=by
 intro t ht
 refine hD.agr t (hf.lt t ht) fun j oj hj hnd hoj hdst=>?_
 rcases hf.rd j oj t hoj hdst ht with h | h
 ·exact hnd (h.shut hD.shut hD.lin.2.2.1)
 ·exact hia (h.shut hD.ord.shut (fun o ho e he hb=>hD.ord.shut j hj o ho e he hb))
theorem Dr.agreeP {i:Nat} (hD:Dr P nt ops θ h qs L A st en enM a.tmps (i :: π) D) {o:Oper} {g:Gd} {d:Ds} (hf:Fitd P nt ops i o g d) {eni:Env} (hE:EnI ops i (rdOf P ops o) eni en enM):Agree (rdOf P ops o) eni enM:=by
 intro t ht
 rcases hE t ht with ⟨h1,h2⟩ | ⟨_,h2⟩
 ·rw [h2]
  exact hD.agr t (hf.lt t ht) fun j oj hj hnd hoj hdst=>hnd ((h1 j oj hoj hdst).shut hD.shut hD.lin.2.2.1)
 ·exact h2
theorem dr_one {j:Nat} (hD:Dr P nt ops θ h qs L A [] en enM a.tmps (j :: π) D) (hj:j ∈ A) (hR:HR P w0 (qs.map (·.2) ++ pd) θ h nx w) (hsz:nt≤a.tmps.size) (hn:nt≤512) :
  ∃ θ' w' qs' enM' a',θ.le θ'∧Steps P (lone (b.atR a (.inRegion ops (j :: π) :: k)) cs w) (lone (b.atR a' (.inRegion ops π :: k)) cs w')∧HR P w0 (qs'.map (·.2) ++ pd) θ' h nx w'∧
   Dr P nt ops θ' h qs' L A [] en enM' a'.tmps π (fun x=>D x∨x=j)∧a'.tmps.size=a.tmps.size∧a'.defers=a.defers:=by
 obtain ⟨hlt,hnd,hdeps,hlin⟩:=hD.lin
 obtain ⟨o,g,d,hf,hpend⟩:=hD.pend j hj
 obtain ⟨I,eni,hI,hcl,hEni,hp⟩:=hpend hnd
 have hag:=hD.agreeP hf hEni
 obtain ⟨a1,a2⟩:=rdOf_I hI hf.hg hag
 have hI':dI I enM=dI I eni:=(dI_agree a1).symm
 have hcls:=cls_of hI
 have fin':∀ {θ':Th} {w':World} {qs':List (Nat × Nat × AO)} {v:AV} {u:Value},θ.le θ'→VR θ' v u→(∀ t,d = .d t→getL AV 3 t en=v)→(∀ x ∈ qs,x.1≠j→x ∈ qs')→
   Dr P nt ops θ' h qs' L A [] en (putE d v enM) (a.put o.dst u).tmps π (fun x=>D x∨x=j):=by
  intro θ' w' qs' v u hle hvr hval hq
  refine ⟨hD.chk,hlin,?_,?_,hD.ord,fun i hi hc=>.inl (hD.act i hi hc),er_put hf.hd (hD.er.mono hle) hsz hn hvr,?_,?_⟩
  ·rintro i (hi | rfl) o' ho' e he hb
   ·exact .inl (hD.shut i hi o' ho' e he hb)
   ·exact .inl (hdeps o' ho' e he hb)
  ·rintro i (hi | rfl)
   ·exact hD.sub i hi
   ·exact hj
  ·intro t ht hno
   by_cases e:o.dst=some t
   ·rcases trD_some hf.hd with ⟨h1,_⟩ | ⟨s,h1,h2,_⟩
    ·rw [h1] at e;cases e
    ·rw [h1] at e;injection e with e
     have hd:d = .d t:=by rw [h2];exact congrArg Ds.d e
     rw [putE_same hd];exact hval t hd
   ·rw [putE_ne ht hn hf.hd e]
    refine hD.agr t ht fun i o' hi hnd' ho'=>?_
    by_cases hij:i=j
    ·subst hij
     rw [hf.ho] at ho';injection ho' with ho';subst ho';exact e
    ·exact hno i o' hi (fun h=>h.elim hnd' hij) ho'
  ·intro i hi
   obtain ⟨o',g',d',hf',hp'⟩:=hD.pend i hi
   refine ⟨o',g',d',hf',fun hnd'=>?_⟩
   have hwj:¬ Waits ops j i:=fun hw=>hnd' (.inl (hw.shut hD.shut hdeps))
   exact ((hp' fun h=>hnd' (.inl h)).move (fun _ _=>rfl) (fun _ _ _=>rfl) (fun t ht=>hf.keep hn hwj (hf'.lt t ht))).ext (Ext.refl h) (fun x hx hxi=>hq x hx (fun e=>hnd' (.inr (hxi ▸ e))))
 rcases hp with ⟨p1,p2⟩ | ⟨p1,p2⟩
 ·have p1':=p1.agree a2
  have hw:Region.wanted o (yielded ops a.tmps)=false:=by
   have e:dG g enM false true=true:=by cases p1' with | no h=>exact h _ _
   rcases gd_ok hf.hg hD.er e with ⟨_,h,_⟩ | ⟨_,_,h⟩
   ·cases h
   ·exact h
  exact ⟨θ,w,qs,_,_,.refl θ,step_unwanted hf.ho hw,hR,fin' (w':=w) (.refl θ) (vr_undef θ) p2 (fun x hx _=>hx),put_size,put_defers⟩
 ·have p1':=p1.agree a2
  have hw:Region.wanted o (yielded ops a.tmps)=true:=by
   have e:dG g enM true false=true:=by cases p1' with | yes h=>exact h _ _
   rcases gd_ok hf.hg hD.er e with ⟨_,_,h⟩ | ⟨_,h,_⟩
   ·exact h
   ·cases h
  rcases p2 with ⟨c,v,q1,q2⟩ | ⟨c,hs | ⟨v,q1,q2⟩⟩ | ⟨c,a0,vf,o',q1,q2,q3⟩
  ·unfold Cls at hcls
   rw [c] at hcls
   obtain ⟨v',k1,k2⟩:=hcls enM h nx (fun _ _ _=>true) (by rw [hI',q2])
   obtain ⟨u,k3,k4⟩:=k2 θ a w hD.er
   have hv:v' = v:=by
    have:=k1 h nx (is1 v)
    rw [hI',q2] at this
    have h2:is1 v v h nx=true:=by simp [is1]
    rw [h2] at this
    simpa [is1] using this.symm
   subst hv
   exact ⟨θ,w,qs,_,_,.refl θ,step_value hf.ho hw k4 rfl,hR,fin' (w':=w) (.refl θ) k3 q1 (fun x hx _=>hx),put_size,put_defers⟩
  ·cases hs
  ·unfold Cls at hcls
   rw [c] at hcls
   obtain ⟨v',k1,k2⟩:=hcls enM h nx (fun _ _ _=>true) (by rw [hI',q2 h (Ext.refl h)])
   obtain ⟨u,k3,k4⟩:=k2 θ a w w0 _ nx hD.er hR
   have hv:v' = v:=by
    have:=k1 h (Ext.refl h) nx (is1 v)
    rw [hI',q2 h (Ext.refl h)] at this
    have h2:is1 v v h nx=true:=by simp [is1]
    rw [h2] at this
    simpa [is1] using this.symm
   subst hv
   exact ⟨θ,w,qs,_,_,.refl θ,step_value hf.ho hw k4 rfl,hR,fin' (w':=w) (.refl θ) k3 q1 (fun x hx _=>hx),put_size,put_defers⟩
  ·unfold Cls at hcls
   rw [c] at hcls
   obtain ⟨a0',vf',k0,_,_,k1,k2⟩:=hcls enM h 0 (fun _ _ _=>true) (by rw [hI',q3 h 0 _ (by omega)])
   have hmem:(o',a0) ∈ qs.map (·.2) ++ pd:=List.mem_append_left _ (List.mem_map.2 ⟨_,q1,rfl⟩)
   have ho':o' < 2097152:=Nat.lt_of_lt_of_le (hR.pend o' a0 hmem).2.1 hR.lim
   have hsame:vf' o' = vf o'∧a0' = a0:=by
    have:=k1 h o' (fun v hh _=>@decide (v=vf o'∧hh=setO h o' a0) (Classical.propDecidable _)) ho'
    rw [hI',q3 h o' _ ho'] at this
    have h2:(vf' o' = vf o'∧setO h o' a0' = setO h o' a0):=by simpa using this.symm
    refine ⟨h2.1,?_⟩
    have e1:=obj_set h o' a0'
    rw [h2.2,obj_set] at e1
    injection e1 with e1;exact e1.symm
   obtain ⟨s1,s2⟩:=hsame
   subst s2
   obtain ⟨u,θ',w',m1,m2,m3,m4⟩:=k2 w0 _ θ a w h nx o' hD.er hR hmem
   rw [s1] at m2
   have hnod:=hR.nodup
   rw [List.map_append,List.nodup_append] at hnod
   have hqn:(qs.map (fun x=>x.2.1)).Nodup:=by
    have:=hnod.1
    rw [List.map_map] at this
    exact this
   refine ⟨θ',w',qs.filter (fun x=>x.2.1 != o'),_,_,m1,step_value hf.ho hw m4 rfl,?_,fin' (w':=w') m1 m2 q2 (fun x hx hxj=>?_),put_size,put_defers⟩
   ·have e1:(qs.map (·.2) ++ pd).filter (fun q=>q.1 != o')=(qs.filter (fun x=>x.2.1 != o')).map (·.2) ++ pd:=by
     rw [List.filter_append]
     congr 1
     ·rw [List.filter_map];rfl
     ·apply List.filter_eq_self.2
      intro q hq
      have:q.1≠o':=fun e=>hnod.2.2 o' (List.mem_map.2 ⟨(o',a0'),List.mem_map.2 ⟨_,q1,rfl⟩,rfl⟩) q.1 (List.mem_map.2 ⟨q,hq,rfl⟩) e.symm
      simpa using this
    rw [← e1];exact m3
   ·rw [List.mem_filter]
    refine ⟨hx,?_⟩
    have:x.2.1≠o':=fun e=>hxj (by rw [inj_of_nodup hqn hx q1 e])
    simpa using this
theorem okL_cover:∀ {L:List (Bool × Nat)} {A st:List Nat},okL P nt ops (Region.before ops) L A st=true→∀ i,i < ops.size→i ∈ A∨(false,i) ∈ L
 | [],A,st,h,i,hi=>by
  simp only [okL,Bool.and_eq_true] at h
  exact .inl (memb_iff.1 (List.all_eq_true.1 h.2 i (List.mem_range.2 hi)))
 | (true,j) :: L,A,st,h,i,hi=>by
  simp only [okL,Bool.and_eq_true] at h
  exact (okL_cover h.2 i hi).imp id (List.mem_cons_of_mem _)
 | (false,j) :: L,A,st,h,i,hi=>by
  simp only [okL,Bool.and_eq_true] at h
  have:∃ st',okL P nt ops (Region.before ops) L (j :: A) st' = true:=by
   have h2:=h.2
   split at h2
   ·exact ⟨_,h2⟩
   ·simp only [Bool.and_eq_true] at h2;exact ⟨_,h2.2⟩
  obtain ⟨st',h2⟩:=this
  rcases okL_cover h2 i hi with h3 | h3
  ·rcases List.mem_cons.1 h3 with rfl | h3
   ·exact .inr (List.mem_cons_self ..)
   ·exact .inl h3
  ·exact .inr (List.mem_cons_of_mem _ h3)
theorem all_done:∀ {A:List Nat},Ord ops A→(∀ i ∈ A,∃ o,ops[i]? = some o)→Lin ops D []→∀ i ∈ A,D i
 | [],_,_,_,i,hi=>by cases hi
 | j :: A,⟨h1,h2⟩,hex,hl,i,hi=>by
  have ih:=all_done h2 (fun i hi=>hex i (List.mem_cons_of_mem _ hi)) hl
  rcases List.mem_cons.1 hi with rfl | hi
  ·apply Classical.byContradiction
   intro hn
   obtain ⟨o,ho⟩:=hex i (List.mem_cons_self ..)
   obtain ⟨e,he,hb,hnd⟩:=hl i o ho hn
   exact hnd (ih _ (h1 o ho e he hb))
  ·exact ih i hi
theorem dr_catch {i:Nat} (hi:i < ops.size) (hia:i ∉ A) (hdeps:∀ o,ops[i]? = some o→∀ e ∈ o.after,Region.binds .any e=true→e.on ∈ A) (hlater:∀ j,j < ops.size→j ∉ A→j=i∨Waits ops j i) (hn:nt≤512) :
  ∀ (π:List Nat) (θ:Th) (qs:List (Nat × Nat × AO)) (enM:Env) (a:Act) (D:Nat→Prop) (w:World),Dr P nt ops θ h qs L A [] en enM a.tmps π D→HR P w0 (qs.map (·.2) ++ pd) θ h nx w→nt≤a.tmps.size→
   ∃ π' θ' qs' enM' a' D' w',θ.le θ'∧Steps P (lone (b.atR a (.inRegion ops π :: k)) cs w) (lone (b.atR a' (.inRegion ops (i :: π') :: k)) cs w')∧HR P w0 (qs'.map (·.2) ++ pd) θ' h nx w'∧
    Dr P nt ops θ' h qs' L A [] en enM' a'.tmps (i :: π') D'∧a'.tmps.size=a.tmps.size∧a'.defers=a.defers:=by
 intro π
 induction π with
 | nil=>
  intro θ qs enM a D w hD hR hsz
  have hall:=all_done hD.ord (fun i hi=>let ⟨o,_,_,hf,_⟩:=hD.pend i hi;⟨o,hf.ho⟩) hD.lin
  have ho:ops[i]? = some ops[i]:=Array.getElem?_eq_getElem hi
  obtain ⟨e,he,hb,hnd⟩:=hD.lin i _ ho (fun hd=>hia (hD.sub i hd))
  exact absurd (hall _ (hdeps _ ho e he hb)) hnd
 | cons j π ih=>
  intro θ qs enM a D w hD hR hsz
  by_cases hji:j=i
  ·subst hji
   exact ⟨π,θ,qs,enM,a,D,w,.refl θ,.refl P _,hR,hD,rfl,rfl⟩
  ·have hj:j ∈ A:=by
    apply Classical.byContradiction
    intro hja
    rcases hlater j hD.lin.1 hja with h | h
    ·exact hji h
    ·exact hia (hD.sub i (h.shut hD.shut hD.lin.2.2.1))
   obtain ⟨θ',w',qs',enM',a',k1,k2,k3,k4,k5,k6⟩:=dr_one (b:=b) (k:=k) (cs:=cs) hD hj hR hsz hn
   obtain ⟨π',θ'',qs'',enM'',a'',D'',w'',m1,m2,m3,m4,m5,m6⟩:=ih θ' qs' enM' a' _ w' k4 k3 (by omega)
   exact ⟨π',θ'',qs'',enM'',a'',D'',w'',k1.trans m1,k2.trans m2,m3,m4,m5.trans k5,m6.trans k6⟩
theorem dr_end (hall:∀ i,i < ops.size→i ∈ A) (hn:nt≤512) :
  ∀ (π:List Nat) (θ:Th) (qs:List (Nat × Nat × AO)) (enM:Env) (a:Act) (D:Nat→Prop) (w:World),Dr P nt ops θ h qs L A [] en enM a.tmps π D→HR P w0 (qs.map (·.2) ++ pd) θ h nx w→nt≤a.tmps.size→
   ∃ θ' a' w',θ.le θ'∧Steps P (lone (b.atR a (.inRegion ops π :: k)) cs w) (lone (b.atR a' k) cs w')∧HR P w0 pd θ' h nx w'∧ER θ' en a'.tmps∧a'.tmps.size=a.tmps.size∧a'.defers=a.defers:=by
 intro π
 induction π with
 | nil=>
  intro θ qs enM a D w hD hR hsz
  have hdone:=all_done hD.ord (fun i hi=>let ⟨o,_,_,hf,_⟩:=hD.pend i hi;⟨o,hf.ho⟩) hD.lin
  refine ⟨θ,a,w,.refl θ,.one stepR_region_end,?_,fun t ht=>?_,rfl,rfl⟩
  ·refine ⟨hR.lim,hR.own,hR.apart,hR.size,hR.kept,hR.plain,fun o a ho=>hR.pend o a (List.mem_append_right _ ho),?_,hR.fresh,hR.glo⟩
   have:=hR.nodup
   rw [List.map_append,List.nodup_append] at this
   exact this.2.1
  ·have:=hD.agr t ht (fun i o hi hnd _=>absurd (hdone i hi) hnd)
   rw [this]
   exact hD.er t ht
 | cons j π ih=>
  intro θ qs enM a D w hD hR hsz
  obtain ⟨θ',w',qs',enM',a',k1,k2,k3,k4,k5,k6⟩:=dr_one (b:=b) (k:=k) (cs:=cs) hD (hall j hD.lin.1) hR hsz hn
  obtain ⟨θ'',a'',w'',m1,m2,m3,m4,m5,m6⟩:=ih θ' qs' enM' a' _ w' k4 k3 (by omega)
  exact ⟨θ'',a'',w'',k1.trans m1,k2.trans m2,m3,m4,m5.trans k5,m6.trans k6⟩
theorem dr_act {i:Nat} (hD:Dr P nt ops θ h qs ((false,i) :: L) A [] en enM a.tmps (i :: π) D) (hcl:3≤clsAt P ops i) {o:Oper} {g:Gd} {d:Ds} (hf:Fitd P nt ops i o g d) (hsz:nt≤a.tmps.size) (hn:nt≤512)
  {θ':Th} (hle:θ.le θ') (h':H) {v:AV} {u:Value} (hv:VR θ' v u) :
  ∃ st',Dr P nt ops θ' h' qs L (i :: A) st' (putE d v en) (putE d v enM) (a.put o.dst u).tmps π (fun x=>D x∨x=i):=by
 have hchk:=hD.chk
 simp only [okL,Bool.and_eq_true] at hchk
 obtain ⟨hfit,hrest⟩:=hchk
 obtain ⟨_,hia,hdepA⟩:=fitL_ok hfit
 rw [if_neg (by omega)] at hrest
 simp only [Bool.and_eq_true] at hrest
 obtain ⟨hlt,hnd,hdeps,hlin⟩:=hD.lin
 refine ⟨A.filter fun j=>Nat.beq (clsAt P ops j) 1 && !(((Region.before ops).getD i 0).testBit j),hrest.2,hlin,?_,?_,⟨fun o' ho' e he hb=>hdepA o' ho' e he hb,hD.ord⟩,?_,er_put hf.hd (hD.er.mono hle) hsz hn hv,?_,?_⟩
 ·rintro j (hj | rfl) o' ho' e he hb
  ·exact .inl (hD.shut j hj o' ho' e he hb)
  ·exact .inl (hdeps o' ho' e he hb)
 ·rintro j (hj | rfl)
  ·exact List.mem_cons_of_mem _ (hD.sub j hj)
  ·exact List.mem_cons_self ..
 ·intro j hj hc
  rcases List.mem_cons.1 hj with rfl | hj
  ·exact .inr rfl
  ·exact .inl (hD.act j hj hc)
 ·intro t ht hno
  by_cases e:o.dst=some t
  ·rcases trD_some hf.hd with ⟨h1,_⟩ | ⟨s,h1,h2,_⟩
   ·rw [h1] at e;cases e
   ·rw [h1] at e;injection e with e
    have hd:d = .d t:=by rw [h2];exact congrArg Ds.d e
    rw [putE_same hd,putE_same hd]
  ·rw [putE_ne ht hn hf.hd e,putE_ne ht hn hf.hd e]
   exact hD.agr t ht fun j o' hj hnd' ho'=>hno j o' (List.mem_cons_of_mem _ hj) (fun h=>h.elim hnd' (fun e=>hia (e ▸ hj))) ho'
 ·intro j hj
  rcases List.mem_cons.1 hj with rfl | hj
  ·exact ⟨o,g,d,hf,fun h=>absurd (.inr rfl) h⟩
  ·obtain ⟨o',g',d',hf',hp'⟩:=hD.pend j hj
   refine ⟨o',g',d',hf',fun hnd'=>?_⟩
   have hji:j≠i:=fun e=>hia (e ▸ hj)
   have hw:¬ Waits ops j i:=fun h=>hia (h.shut hD.ord.shut (fun o ho e he hb=>hD.ord.shut j hj o ho e he hb))
   have hwi:¬ Waits ops i j:=fun hw=>hnd' (.inl (hw.shut hD.shut hdeps))
   have hp:=(hp' fun h=>hnd' (.inl h)).put (v:=v) hn hf' hf.ho hf.hd hji hw (fun t ht=>hf.keep (v:=v) (enM:=enM) hn hwi (hf'.lt t ht))
   obtain ⟨I,eni,hI,hc,hEi,hp⟩:=hp
   refine ⟨I,eni,hI,hc,hEi,hp.imp id fun ⟨p1,p2⟩=>⟨p1,?_⟩⟩
   rcases p2 with p2 | ⟨c,_⟩ | p2
   ·exact .inl p2
   ·refine .inr (.inl ⟨c,.inl ?_⟩)
    rw [List.mem_filter]
    refine ⟨hj,?_⟩
    have hcj:clsAt P ops j=1:=by unfold clsAt cls;rw [hf'.ho];simp only [hI,clsH];exact c
    have hnb:((Region.before ops).getD i 0).testBit j=false:=by
     cases hb:((Region.before ops).getD i 0).testBit j with
     | false=>rfl
     | true=>exact absurd (.inl ((before_waits i j hb).shut hD.shut hdeps)) hnd'
    rw [hcj,hnb];rfl
   ·exact .inr (.inr p2)
end
end
end Go.AM

namespace Go.AM
open Go
structure FnC (P:Program) (f:Nat) (fn:Func) (body:Code):Prop where
 hfn:P.funcs[f]? = some fn
 hbody:fn.body=some body
 nt:fn.ntmps≤512
 res:(fn.results.toList.map (trRs P)).all dsOk=true
 rv:fn.results.toList.all (rvOk P)=true
 nrf:nrf body≤16
 name:(fn.name == "runtime.NumGoroutine")=false
theorem trF_some {P:Program} {f:Nat} {u:AFn} (h:trF P f=some u):∃ fn body,FnC P f fn body∧u = .mk (dC (trC P fn.ntmps (liOf f) body)) (dRs (fn.results.toList.map (trRs P))):=by
 unfold trF at h
 split at h
 ·rename_i fn hf
  split at h
  ·rename_i c hc
   split at h
   ·rename_i hh
    simp only [Bool.and_eq_true,Bool.not_eq_true'] at hh
    obtain ⟨⟨⟨⟨h1,h2⟩,h3⟩,h4⟩,h5⟩:=hh
    injection h with h
    exact ⟨fn,c,⟨hf,hc,Nat.le_of_ble_eq_true h1,h2,h3,Nat.le_of_ble_eq_true h4,h5⟩,h.symm⟩
   ·cases h
  ·cases h
 ·cases h
def SpOk (P:Program) (f:Nat) (s:SpF):Prop:=∀ w0 pd θ h nx w vs κ,HR P w0 pd θ h nx w→Oks θ vs→s vs h nx κ=true→
 Calls P f (toVs θ vs).toArray w fun e w'=>∃ v u θ' h' nx',e = .returned u∧θ.le θ'∧VR θ' v u∧HR P w0 pd θ' h' nx' w'∧κ v h' nx' = true
def SplOk (s:SegF) (c:C):Prop:=∀ (F:L (Option AFn) 4) (Lp:L (Option ALp) 5) (en:Env) (k:List T) (fr:Fr) (cs:List AFr) (h:H) (nx:Nat) (κ:ASt→R),
 s en h nx (fun en h nx=>κ (.mk en k fr cs h nx))=true→∃ n,run (.mk F Lp false) n (.mk en (.c c :: k) fr cs h nx) κ=true
inductive CR:C→C→Prop where
 | refl (c:C):CR c c
 | spl {s:SegF} {c:C} (h:SplOk s c):CR (.spl s c) c
 | bad (c:C):CR .bad c
 | seq {a b x y:C} (h:CR a x) (h':CR b y):CR (.seq a b) (.seq x y)
 | cond {g:XF} {a b x y:C} (h:CR a x) (h':CR b y):CR (.cond g a b) (.cond g x y)
 | blk {id:Nat} {a x:C} (h:CR a x):CR (.blk id a) (.blk id x)
 | loop {a x:C} (h:CR a x):CR (.loop a) (.loop x)
 | sc {a x:C} (h:CR a x):CR (.sc a) (.sc x)
def CRs (c c0:C):Prop:=match c0 with
 | .seq x y=>∃ a b,c = .seq a b∧CR a x∧CR b y
 | .cond g x y=>∃ a b,c = .cond g a b∧CR a x∧CR b y
 | .blk id x=>∃ a,c = .blk id a∧CR a x
 | .loop x=>∃ a,c = .loop a∧CR a x
 | .sc x=>∃ a,c = .sc a∧CR a x
 | c0=>c=c0
theorem CRs.refl (c:C):CRs c c:=by
 cases c with
 | seq a b=>exact ⟨a,b,rfl,.refl _,.refl _⟩
 | cond g a b=>exact ⟨a,b,rfl,.refl _,.refl _⟩
 | blk id a=>exact ⟨a,rfl,.refl _⟩
 | loop a=>exact ⟨a,rfl,.refl _⟩
 | sc a=>exact ⟨a,rfl,.refl _⟩
 | _=>exact rfl
theorem CR.inv {c c0:C} (h:CR c c0):(∃ s,c = .spl s c0∧SplOk s c0)∨c = .bad∨CRs c c0:=by
 cases h with
 | refl=>exact .inr (.inr (.refl _))
 | spl h=>exact .inl ⟨_,rfl,h⟩
 | bad=>exact .inr (.inl rfl)
 | seq h h'=>exact .inr (.inr ⟨_,_,rfl,h,h'⟩)
 | cond h h'=>exact .inr (.inr ⟨_,_,rfl,h,h'⟩)
 | blk h=>exact .inr (.inr ⟨_,rfl,h⟩)
 | loop h=>exact .inr (.inr ⟨_,rfl,h⟩)
 | sc h=>exact .inr (.inr ⟨_,rfl,h⟩)
structure TbOk (tb:Tb) (P:Program):Prop where
 fn:∀ {f κ},fnOf tb f κ=true→∃ c0 c r,trF P f=some (.mk c0 r)∧CR c c0∧κ c r=true
 lp:∀ {l κ},lpOf tb l κ=true→∃ p a b,trL P l=some (.mk p a b)∧κ p a b=true
 en:∀ {f κ σ},enOf tb f κ σ=true→(∃ c0 c r,trF P f=some (.mk c0 r)∧CR c c0∧κ c=true)∨∃ s fn body,FnC P f fn body∧SpOk P f s∧σ s=true
def Sub (f:Nat) (body:Code) (k:Nat) (c:Code):Prop:=∀ e ∈ rfs k c,e ∈ rfs (liOf f) body
def bF (f:Nat) (kd:Bool) (ro:Option Nat):Frame:={ (default:Frame) with fn:=f,kind:=if kd then .deferred else .normal,roundOf:=ro }
inductive IR (P:Program) (θ:Th) (f nt:Nat) (body:Code):T→Item→Prop where
 | code {k:Nat} {c:Code} {c':C} (h:Sub f body k c) (hc:CR c' (dC (trC P nt k c))):IR P θ f nt body (.c c') (.code c)
 | reg {ops:Array Oper} {rest:List Nat} (h:∀ i ∈ rest,i < ops.size):IR P θ f nt body (.rg (dR (trOs P nt ops (rest.filterMap (ops[·]?))))) (.inRegion ops rest)
 | blk (id:Nat):IR P θ f nt body (.blk id) (.inBlock id)
 | lp {k:Nat} {c:Code} {c':C} (h:Sub f body k c) (hc:CR c' (dC (trC P nt k c))):IR P θ f nt body (.lp c') (.inLoop c)
 | sc (c:Code):IR P θ f nt body .sc (.inScope c)
 | irf {o:Nat} (h:θ.has o):IR P θ f nt body (.irf o) (.inRangeFunc (θ.blk o))
 | erf {o:Nat} (h:θ.has o):IR P θ f nt body (.erf o) (.endRangeFunc (θ.blk o))
 | br:IR P θ f nt body .br .beginRound
inductive TdR (P:Program) (θ:Th) (f nt:Nat) (body:Code):List T→List Item→Prop where
 | nil:TdR P θ f nt body [] []
 | cons {t:T} {i:Item} {td:List T} {todo:List Item} (h:IR P θ f nt body t i) (r:TdR P θ f nt body td todo):TdR P θ f nt body (t :: td) (i :: todo)
theorem IR.mono {P:Program} {θ θ':Th} (hle:θ.le θ') {f nt:Nat} {body:Code} {t:T} {i:Item} (h:IR P θ f nt body t i):IR P θ' f nt body t i:=by
 cases h with
 | code h hc=>exact .code h hc
 | reg h=>exact .reg h
 | blk id=>exact .blk id
 | lp h hc=>exact .lp h hc
 | sc c=>exact .sc c
 | irf h=>rw [← hle.blk _ h];exact .irf (hle.has _ h)
 | erf h=>rw [← hle.blk _ h];exact .erf (hle.has _ h)
 | br=>exact .br
theorem TdR.mono {P:Program} {θ θ':Th} (hle:θ.le θ') {f nt:Nat} {body:Code} {td:List T} {todo:List Item} (h:TdR P θ f nt body td todo):TdR P θ' f nt body td todo:=by
 induction h with
 | nil=>exact .nil
 | cons h _ ih=>exact .cons (h.mono hle) ih
def DsR (θ:Th):List AD→List Deferred→Prop
 | [],ds=>ds=[]
 | .fn f vs :: r,ds=>∃ d cap ds',ds=d :: ds'∧d.target = .fn (.func f) cap∧d.args ++ cap=(toVs θ vs).toArray∧Oks θ vs∧DsR θ r ds'
 | .col o :: r,ds=>∃ ds',ds = { target:=.collected (θ.blk o),args:=#[] } :: ds'∧θ.has o∧DsR θ r ds'
theorem DsR.mono {θ θ':Th} (hle:θ.le θ'):∀ {l:List AD} {ds:List Deferred},DsR θ l ds→DsR θ' l ds
 | [],_,h=>h
 | .fn f vs :: r,_,⟨d,cap,ds',h1,h2,h3,h4,h5⟩=>⟨d,cap,ds',h1,h2,by rw [(monos hle vs h4).1];exact h3,(monos hle vs h4).2,h5.mono hle⟩
 | .col o :: r,_,⟨ds',h1,h2,h3⟩=>⟨ds',by rw [hle.blk o h2];exact h1,hle.has o h2,h3.mono hle⟩
inductive FR (P:Program) (θ:Th) (h:H):List (Nat × AO)→Env→List T→Fr→Frame→Prop where
 | run {en:Env} {td:List T} {f:Nat} {df:List AD} {kd:Bool} {rd:Option Nat} {a:Act} {todo:List Item} {fn:Func} {body:Code} (hf:FnC P f fn body) (hr:∀ o,rd=some o→θ.has o∧kd=false)
   (hd:DsR θ df a.defers) (hs:fn.ntmps≤a.tmps.size) (he:ER θ en a.tmps) (ht:TdR P θ f fn.ntmps body td todo):FR P θ h [] en td (.mk f df kd rd) ((bF f kd (rd.map θ.blk)).atR a todo)
 | draw {en enM:Env} {td:List T} {f:Nat} {df:List AD} {kd:Bool} {rd:Option Nat} {a:Act} {todo:List Item} {fn:Func} {body:Code} {ops:Array Oper} {qs:List (Nat × Nat × AO)} {L:List (Bool × Nat)} {A st π:List Nat} {D:Nat→Prop}
   (hf:FnC P f fn body) (hr:∀ o,rd=some o→θ.has o∧kd=false) (hd:DsR θ df a.defers) (hs:fn.ntmps≤a.tmps.size) (ht:TdR P θ f fn.ntmps body td todo)
   (hD:Dr P fn.ntmps ops θ h qs L A st en enM a.tmps π D):FR P θ h (qs.map (·.2)) en (.rg (dR (trDr P fn.ntmps ops L)) :: td) (.mk f df kd rd) ((bF f kd (rd.map θ.blk)).atR a (.inRegion ops π :: todo))
 | ret {en:Env} {f:Nat} {df:List AD} {kd:Bool} {a:Act} {todo:List Item} {fn:Func} {body:Code} (hf:FnC P f fn body) (hd:DsR θ df a.defers) (he:ER θ en a.tmps) :
   FR P θ h [] en [.rt] (.mk f df kd none) { (bF f kd none).atR a todo with mode:=.returning }
def kdOf:Fr→Bool
 | .mk _ _ kd _=>kd
def WaitR (P:Program) (θ:Th) (q:List (Nat × AO)) (en:Env) (td:List T) (fr:Fr) (F:Frame):Bool→Prop
 | true=>F.mode = .returning∧∀ θ' h',θ.le θ'→FR P θ' h' q en td fr F
 | false=>∀ θ' h' v u,θ.le θ'→VR θ' v u→match td with
  | .wt d r :: k=>∃ d0:Ds,d=dD d0∧FR P θ' h' q (putE d0 v en) (.rg r :: k) fr (F.finish u)
  | .irf o :: k=>FR P θ' h' q en (.erf o :: k) fr (F.finish u)
  | _=>True
def fnO:Fr→Nat
 | .mk f _ _ _=>f
structure F0 where
 f:Nat
 pd:List (Nat × AO)
 θ:Th
def CsR (P:Program) (θ:Th) (f0:F0):Nat→Bool→List AFr→List Frame→List (Nat × AO)→Prop
 | f,kd,[],Fs,pd=>f=f0.f∧kd=false∧Fs=[]∧pd=f0.pd∧f0.θ.le θ
 | _,kd,.mk en td fr :: cs,Fs,pd=>∃ F Fs' q pd',Fs=F :: Fs'∧pd=q ++ pd'∧WaitR P θ q en td fr F kd∧CsR P θ f0 (fnO fr) (kdOf fr) cs Fs' pd'
theorem WaitR.mono {P:Program} {θ θ':Th} (hle:θ.le θ') {q:List (Nat × AO)} {en:Env} {td:List T} {fr:Fr} {F:Frame}:∀ {kd:Bool},WaitR P θ q en td fr F kd→WaitR P θ' q en td fr F kd
 | true,⟨h1,h2⟩=>⟨h1,fun θ'' h' hl=>h2 θ'' h' (hle.trans hl)⟩
 | false,h=>fun θ'' h' v u hl=>h θ'' h' v u (hle.trans hl)
theorem CsR.mono {P:Program} {θ θ':Th} {f0:F0} (hle:θ.le θ'):∀ {cs:List AFr} {f:Nat} {kd:Bool} {Fs:List Frame} {pd:List (Nat × AO)},CsR P θ f0 f kd cs Fs pd→CsR P θ' f0 f kd cs Fs pd
 | [],_,_,_,_,⟨h1,h2,h3,h4,h5⟩=>⟨h1,h2,h3,h4,h5.trans hle⟩
 | .mk en td fr :: cs,_,_,_,_,⟨F,Fs',q,pd',h1,h2,h3,h4⟩=>⟨F,Fs',q,pd',h1,h2,h3.mono hle,h4.mono hle⟩
inductive StR (P:Program) (w0:World) (cs0:List Frame) (f0:F0):ASt→Machine→Prop where
 | mk {en:Env} {td:List T} {fr:Fr} {cs:List AFr} {h:H} {nx:Nat} {θ:Th} {q pd:List (Nat × AO)} {F:Frame} {Fs:List Frame} {w:World} (hR:HR P w0 (q ++ pd) θ h nx w) (hF:FR P θ h q en td fr F) (hC:CsR P θ f0 (fnO fr) (kdOf fr) cs Fs pd) :
   StR P w0 cs0 f0 (.mk en td fr cs h nx) (lone F (Fs ++ cs0) w)
 | fin {v:AV} {u:Value} {h:H} {nx:Nat} {θ:Th} {F:Frame} {w:World} (hR:HR P w0 f0.pd θ h nx w) (hv:VR θ v u) (hl:F.leaving P w (.returned u)) (hfn:F.fn=f0.f) (hle:f0.θ.le θ):StR P w0 cs0 f0 (.fin v h nx) (lone F cs0 w)
def Goal (P:Program) (w0:World) (cs0:List Frame) (f0:F0) (κ:ASt→R) (m:Machine):Prop:=∃ s m',Steps P m m'∧StR P w0 cs0 f0 s m'∧κ s=true
theorem Goal.of_steps {P:Program} {w0:World} {cs0:List Frame} {f0:F0} {κ:ASt→R} {m m₁:Machine} (h:Steps P m m₁):Goal P w0 cs0 f0 κ m₁→Goal P w0 cs0 f0 κ m
 | ⟨s,m',h1,h2,h3⟩=>⟨s,m',h.trans h1,h2,h3⟩
section
variable {P:Program} {w0:World} {cs0:List Frame} {f0:F0} {κ:ASt→R} {tb:Tb} {θ:Th} {h:H} {nx:Nat} {w w':World}
def enlF:List AV→Nat→Env→Env
 | [],_,en=>en
 | v :: vs,j,en=>enlF vs (j + 1) (setL AV v 3 j en)
theorem enlK_eq:∀ (vs:List AV) (j:Nat) (en:Env) (κ:Env→R),enlK vs j en κ=κ (enlF vs j en)
 | [],_,_,_=>rfl
 | v :: vs,j,en,κ=>by
  show setK AV v 3 j en (fun en=>fnat (Nat.succ j) fun j=>enlK vs j en κ)=_
  rw [setK_eq,fnat_eq,enlK_eq vs]
  rfl
theorem getL_enlF:∀ (vs:List AV) (j:Nat) (en:Env) (t:Nat),j + vs.length≤512→t < 512→getL AV 3 t (enlF vs j en)=if j≤t∧t < j + vs.length then vs.getD (t - j) undef else getL AV 3 t en
 | [],j,en,t,_,_=>by simp [enlF];omega
 | v :: vs,j,en,t,hl,ht=>by
  simp only [List.length_cons] at hl
  rw [enlF,getL_enlF vs (j + 1) _ t (by omega) ht]
  by_cases e:t=j
  ·subst e
   rw [if_neg (by omega),if_pos (by simp),getL_setL]
   simp
  ·by_cases h1:j + 1≤t∧t < j + 1 + vs.length
   ·rw [if_pos h1,if_pos (by simp;omega),show t - j=(t - (j + 1)) + 1 by omega]
    simp
   ·rw [if_neg h1,if_neg (by simp;omega),getL_setL_ne (i:=j) (j:=t) v 3 en (by omega) ht e]
theorem er_enter {vs:List AV} (hl:vs.length≤512) (hv:Oks θ vs) (n:Nat):ER θ (enlF vs 0 e0) ((toVs θ vs).toArray ++ Array.replicate (n - (toVs θ vs).toArray.size) Go.undef):=by
 intro t ht
 rw [getL_enlF vs 0 e0 t (by omega) ht,Array.getD_eq_getD_getElem?]
 by_cases h1:t < vs.length
 ·rw [if_pos (by omega),Array.getElem?_append_left (by simp;exact h1),List.getElem?_toArray,toVs_get,List.getElem?_eq_getElem h1]
  simp only [Nat.sub_zero,List.getD_eq_getElem?_getD,List.getElem?_eq_getElem h1,Option.getD_some,Option.map_some]
  exact ⟨Oks_iff.1 hv _ (List.getElem_mem h1),rfl⟩
 ·rw [if_neg (by omega)]
  have h2:getL AV 3 t e0=undef:=getL_repL undef 3 t
  rw [h2,Array.getElem?_append_right (by simp;omega),Array.getElem?_replicate]
  split<;>exact vr_undef θ
theorem run_callFunc {f:Nat} {fn:Func} {body:Code} (hf:FnC P f fn body) (args:Array Value):(callFunc f args).run P w = .ok (.enter f args) w:=by
 have hb:fn.body.isNone=false:=by rw [hf.hbody];rfl
 simp only [callFunc,Sem.run_bind,run_program,Result.andThen,hf.hfn,hf.name,hb,Bool.false_eq_true,if_false,Sem.run_pure]
def rsS (tmps:Array Value):ResultVar→Sem Value
 | .tmp t=>pure (tmps.getD t Go.undef)
 | .cell a t=>do loadVar t (← asAddr (tmps.getD a Go.undef))
theorem r1_ok {q:List (Nat × AO)} (hR:HR P w0 q θ h nx w) {en:Env} {tmps:Array Value} (hE:ER θ en tmps) {rv:ResultVar} (hd:dsOk (trRs P rv)=true) (hrv:rvOk P rv=true) {κ:AV→R} (e:r1 (trRs P rv) en h κ=true) :
  ∃ v u,κ v=true∧VR θ v u∧(rsS tmps rv).run P w = .ok u w:=by
 cases rv with
 | tmp t=>
  have ht:t < 512:=by simpa [dsOk,trRs,Nat.blt_eq] using hd
  have e:getK AV κ 3 t en=true:=e
  rw [getK_eq] at e
  exact ⟨_,_,e,hE t ht,rfl⟩
 | cell a t=>
  simp only [rvOk,Bool.and_eq_true] at hrv
  obtain ⟨g,hg⟩:=Option.isSome_iff_exists.1 hrv.1
  obtain ⟨n,hn⟩:=Option.isSome_iff_exists.1 hrv.2
  cases g with
  | true=>
   have hrs:trRs P (.cell a t) = .c a n:=by simp [trRs,hg,hn,bad]
   rw [hrs] at hd e
   have ht:a < 512:=by simpa [dsOk,Nat.blt_eq] using hd
   have e:getK AV (asP fun o off=>rdK o off n h fun l=>κ (.ag l)) 3 a en=true:=e
   rw [getK_eq] at e
   have hE:=hE a ht
   obtain ⟨o,off,hv,e1⟩:=asP_true e
   rw [hv] at hE
   obtain ⟨hp,hh⟩:=hE.p
   obtain ⟨vs,k1,_,k3,k4,k5,k6⟩:=rd_ok hR hh e1
   refine ⟨.ag vs,.agg (toVs θ vs).toArray,k3,⟨⟨k4,k5⟩,rfl⟩,?_⟩
   have hl:=run_loadVar_agg (w:=w) hg hn (vs:=toVs θ vs) (by simp [k1]) k6
   simp only [rsS,hp,asAddr,Sem.run_bind,Sem.run_pure,Result.andThen,hl]
  | false=>
   have hrs:trRs P (.cell a t) = .c1 a:=by simp [trRs,hg]
   rw [hrs] at hd e
   have ht:a < 512:=by simpa [dsOk,Nat.blt_eq] using hd
   have e:getK AV (asP fun o off=>rd1 o off h κ) 3 a en=true:=e
   rw [getK_eq] at e
   have hE:=hE a ht
   obtain ⟨o,off,hv,e1⟩:=asP_true e
   rw [hv] at hE
   obtain ⟨hp,hh⟩:=hE.p
   obtain ⟨c,_,k2,k3,_,k5⟩:=rd1_ok hR hh e1
   refine ⟨c,toV θ c,k2,⟨k3,rfl⟩,?_⟩
   have hl:=run_loadVar_one (w:=w) hg k5
   simp only [rsS,hp,asAddr,Sem.run_bind,Sem.run_pure,Result.andThen,hl]
theorem rsL_ok {q:List (Nat × AO)} (hR:HR P w0 q θ h nx w) {en:Env} {tmps:Array Value} (hE:ER θ en tmps):∀ {rvs:List ResultVar} {κ:List AV→R},(rvs.map (trRs P)).all dsOk=true→rvs.all (rvOk P)=true→rsL (rvs.map (trRs P)) en h κ=true→
  ∃ vs us,κ vs=true∧vs.length=rvs.length∧Oks θ vs∧us=toVs θ vs∧
   (rvs.mapM (rsS tmps)).run P w = .ok us w
 | [],κ,_,_,e=>⟨[],[],e,rfl,trivial,rfl,rfl⟩
 | rv :: rvs,κ,hd,hrv,e=>by
  simp only [List.map_cons,List.all_cons,Bool.and_eq_true] at hd hrv
  obtain ⟨v,u,e1,h1,h2⟩:=r1_ok hR hE hd.1 hrv.1 (show r1 (trRs P rv) en h (fun v=>rsL (rvs.map (trRs P)) en h fun vs=>κ (v :: vs))=true from e)
  obtain ⟨vs,us,k1,k2,k3,k4,k5⟩:=rsL_ok hR hE hd.2 hrv.2 e1
  refine ⟨v :: vs,u :: us,k1,by simp [k2],⟨h1.1,k3⟩,by rw [k4,h1.2];rfl,?_⟩
  rw [List.mapM_cons]
  simp only [Sem.run_bind,h2,Result.andThen,k5,Sem.run_pure]
theorem res_ok {q:List (Nat × AO)} (hR:HR P w0 q θ h nx w) {f:Nat} {fn:Func} {body:Code} (hf:FnC P f fn body) {en:Env} {tmps:Array Value} (hE:ER θ en tmps) {κ:AV→R} (e:dRs (fn.results.toList.map (trRs P)) en h κ=true) :
  ∃ v u,κ v=true∧VR θ v u∧(results fn tmps).run P w = .ok u w:=by
 have hgen:∀ {κ:List AV→R},rsL (fn.results.toList.map (trRs P)) en h κ=true→∃ vs us,κ vs=true∧vs.length=fn.results.toList.length∧Oks θ vs∧us=toVs θ vs∧
   (results fn tmps).run P w = .ok (if h:us.toArray.size=1 then us.toArray[0] else .tuple us.toArray) w:=by
  intro κ e
  obtain ⟨vs,us,k1,k2,k3,k4,k5⟩:=rsL_ok hR hE hf.res hf.rv e
  refine ⟨vs,us,k1,k2,k3,k4,?_⟩
  have hfun:(fun (x:ResultVar)=>match x with | .tmp t=>(pure (tmps.getD t Go.undef):Sem Value) | .cell a t=>do loadVar t (← asAddr (tmps.getD a Go.undef)))=rsS tmps:=by
   funext x;cases x<;>rfl
  have hr:results fn tmps=(fn.results.mapM (rsS tmps) >>= fun vs=>pure (if h:vs.size=1 then vs[0] else .tuple vs)):=by
   rw [← hfun];rfl
  rw [hr,Array.mapM_eq_mapM_toList]
  simp only [Sem.run_bind,Sem.run_map,Result.andThen,k5]
  rfl
 cases hl:fn.results.toList.map (trRs P) with
 | nil=>
  rw [hl] at e
  have e:rsL (fn.results.toList.map (trRs P)) en h (fun vs=>κ (.tu vs))=true:=by rw [hl];exact e
  obtain ⟨vs,us,k1,k2,k3,k4,k5⟩:=hgen e
  have hlen:vs.length=0:=by rw [k2];have:=congrArg List.length hl;simpa using this
  subst k4
  rw [dif_neg (by simp [hlen])] at k5
  exact ⟨.tu vs,_,k1,⟨k3,rfl⟩,k5⟩
 | cons d ds=>
  cases ds with
  | nil=>
   rw [hl] at e
   have e:rsL (fn.results.toList.map (trRs P)) en h (fun vs=>match vs with | [v]=>κ v | _=>false)=true:=by rw [hl];exact e
   obtain ⟨vs,us,k1,k2,k3,k4,k5⟩:=hgen e
   have hlen:vs.length=1:=by rw [k2];have:=congrArg List.length hl;simpa using this
   obtain ⟨v,rfl⟩:=List.length_eq_one_iff.1 hlen
   subst k4
   exact ⟨v,toV θ v,k1,⟨k3.1,rfl⟩,k5⟩
  | cons d2 ds=>
   rw [hl] at e
   have e:rsL (fn.results.toList.map (trRs P)) en h (fun vs=>κ (.tu vs))=true:=by rw [hl];exact e
   obtain ⟨vs,us,k1,k2,k3,k4,k5⟩:=hgen e
   have hlen:vs.length≠1:=by rw [k2];have:=congrArg List.length hl;simp at this;simp [this]
   subst k4
   rw [dif_neg (by simpa using hlen)] at k5
   exact ⟨.tu vs,_,k1,⟨k3,rfl⟩,k5⟩
theorem back_ok {f:Nat} {kd:Bool} {v:AV} {u:Value} {cs:List AFr} {Fs:List Frame} {pd:List (Nat × AO)} (e:backK kd v cs h nx κ=true) (hR:HR P w0 pd θ h nx w) (hv:VR θ v u) (hC:CsR P θ f0 f kd cs Fs pd) {m:Machine}
  (hn:kd=false→∀ c rest,Steps P m (lone (c.finish u) (rest ++ cs0) w)∨Fs≠c :: rest) (hk:kd=true→∀ c rest,c.mode = .returning→Steps P m (lone c (rest ++ cs0) w)∨Fs≠c :: rest)
  (hf:Fs=[]→StR P w0 cs0 f0 (.fin v h nx) m):Goal P w0 cs0 f0 κ m:=by
 cases cs with
 | nil=>
  obtain ⟨h0,h1,h2,h3⟩:=hC
  exact ⟨_,m,.refl P m,hf h2,e⟩
 | cons c cs=>
  obtain ⟨en,td,fr⟩:=c
  obtain ⟨F,Fs',q,pd',rfl,rfl,hw,hC'⟩:=hC
  cases kd with
  | true=>
   obtain ⟨h1,h2⟩:=hw
   rcases hk rfl F Fs' h1 with hs | hs
   ·have e:κ (.mk en td fr cs h nx)=true:=e
    exact ⟨_,_,hs,.mk hR (h2 θ h (.refl θ)) hC',e⟩
   ·exact absurd rfl hs
  | false=>
   have hw:=hw θ h v u (.refl θ) hv
   rcases hn rfl F Fs' with hs | hs
   ·cases td with
    | nil=>cases e
    | cons t k=>
     cases t<;>first | (cases e;done) | skip
     ·rename_i d r hw
      obtain ⟨d0,hd,hF⟩:=hw
      have e:d v en (fun en=>κ (.mk en (.rg r :: k) fr cs h nx))=true:=e
      rw [hd,dD_eq] at e
      exact ⟨_,_,hs,.mk hR hF hC',e⟩
     ·rename_i o hw
      have e:κ (.mk en (.erf o :: k) fr cs h nx)=true:=e
      exact ⟨_,_,hs,.mk hR hw hC',e⟩
   ·exact absurd rfl hs
theorem allN_true {κ:Nat→R}:∀ {m:Nat},allN m κ=true→∀ r,r < m→κ r=true
 | m + 1,e,r,hr=>by
  have e:br (fnat m κ) (allN m κ) false=true:=e
  obtain ⟨e1,e2⟩:=br_t e
  rw [fnat_eq] at e1
  by_cases h:r=m
  ·subst h;exact e1
  ·exact allN_true e2 r (by omega)
theorem forkA_true {θ:Th}:∀ {vs:List AV} {κ:List AV→R},forkA vs κ=true→Oks θ vs→∃ vs',κ vs' = true∧Oks θ vs'∧toVs θ vs' = toVs θ vs
 | [],κ,e,h=>⟨[],e,h,rfl⟩
 | v :: vs,κ,e,h=>by
  by_cases hf:∃ n m,v = .f n m
  ·obtain ⟨n,m,rfl⟩:=hf
   have e:allN m (fun r=>fnat (Nat.add r (Nat.div n 65536)) fun r=>forkA vs fun vs=>κ (.i 3 (.ofNat r) :: vs))=true:=e
   obtain ⟨⟨⟨w,hw⟩,hm⟩,h2⟩:=h
   have e1:=allN_true e (w % m) (Nat.mod_lt _ hm)
   rw [fnat_eq] at e1
   obtain ⟨vs',k1,k2,k3⟩:=forkA_true e1 h2
   refine ⟨_,k1,⟨trivial,k2⟩,?_⟩
   simp only [toVs,k3,toV,hw]
   rfl
  ·have e:forkA vs (fun vs=>κ (v :: vs))=true:=by
    cases v<;>first | exact e | exact absurd ⟨_,_,rfl⟩ hf
   obtain ⟨vs',k1,k2,k3⟩:=forkA_true e h.2
   exact ⟨_,k1,⟨h.1,k2⟩,by simp only [toVs,k3]⟩
theorem enter_ok (ht:TbOk tb P) {f:Nat} {vs:List AV} {kd:Bool} {cs:List AFr} {Fs:List Frame} {pd:List (Nat × AO)} (e:enterK tb f vs kd cs h nx κ=true) (hv:Oks θ vs) (hR:HR P w0 pd θ h nx w) (hC:CsR P θ f0 f kd cs Fs pd) :
  ∃ fn body,FnC P f fn body∧Goal P w0 cs0 f0 κ (lone (Frame.enter P f (toVs θ vs).toArray (if kd then .deferred else .normal)) (Fs ++ cs0) w):=by
 obtain ⟨h1,e1⟩:=br_t e
 have h1:vs.length≤512:=by have:=Nat.le_of_ble_eq_true h1;rwa [lenN_eq] at this
 rcases ht.en e1 with ⟨c0,c,r,h2,hcr,e2⟩ | ⟨s,fn,body,hf,hs,e2⟩
 case inr=>
  cases kd with
  | true=>cases e2
  | false=>
   obtain ⟨_,w',fr',⟨v,u,θ',h',nx',rfl,k1,k2,k3,k4⟩,hcomes,_,hl⟩:=hs w0 pd θ h nx w vs _ hR hv e2 (Fs ++ cs0)
   cases cs with
   | nil=>cases k4
   | cons c cs=>
    have k4:backK false v (c :: cs) h' nx' κ=true:=k4
    refine ⟨fn,body,hf,back_ok (f:=f) k4 k3 k2 (hC.mono k1) (fun _ c' rest=>?_) (fun h=>absurd h (by simp)) (fun hn=>?_)⟩
    ·by_cases hF:Fs=c' :: rest
     ·refine .inl ?_
      have hst:Steps P (lone (Frame.enter P f (toVs θ vs).toArray .normal) (Fs ++ cs0) w) (lone fr' (Fs ++ cs0) w'):=hcomes
      refine hst.trans ?_
      rw [hF]
      exact .one (step_leave_returned hl)
     ·exact .inr hF
    ·obtain ⟨en,td,fr⟩:=c
     obtain ⟨F,Fs',q,pd',rfl,_⟩:=hC
     cases hn
 obtain ⟨fn,body,hf,hu⟩:=trF_some h2
 injection hu with hu1 hu2
 subst hu1 hu2
 obtain ⟨vs',e2,hv',htv⟩:=forkA_true e2 hv
 rw [← htv]
 have h1:vs'.length≤512:=by
  have:=congrArg List.length htv
  simp only [toVs_length] at this
  omega
 clear hv htv
 have hv:=hv'
 rw [enlK_eq] at e2
 refine ⟨fn,body,hf,_,_,.refl P _,?_,e2⟩
 have hfr:Frame.enter P f (toVs θ vs').toArray (if kd then .deferred else .normal)=(bF f kd ((none:Option Nat).map θ.blk)).atR { tmps:=(toVs θ vs').toArray ++ Array.replicate (fn.ntmps - (toVs θ vs').toArray.size) Go.undef,defers:=[] } [.code body]:=by
  simp [Frame.enter,Frame.atR,hf.hfn,hf.hbody,bF]
 rw [hfr]
 exact .mk (q:=[]) hR (.run hf (fun o h=>nomatch h) rfl (by simp;omega) (er_enter h1 hv _) (.cons (.code (fun e he=>he) hcr) .nil)) hC
end
end Go.AM

namespace Go.AM
open Go
section
variable {tb:Tb} {en:Env} {k:List T} {fr:Fr} {cs:List AFr} {h:H} {nx:Nat} {κ:ASt→R}
theorem rgK_sOp (d:DsF) (f:OpF) (r:Rg):rgK tb (ahead (sOp d f) r) en k fr cs h nx κ=f en h nx fun v h nx=>d v en fun en=>rgK tb r en k fr cs h nx κ:=by cases r<;>rfl
theorem rgK_sOpG (g:GdF) (d:DsF) (f:OpF) (r:Rg):rgK tb (ahead (sOpG g d f) r) en k fr cs h nx κ =
  g en (f en h nx fun v h nx=>d v en fun en=>rgK tb r en k fr cs h nx κ) (d undef en fun en=>rgK tb r en k fr cs h nx κ):=by cases r<;>rfl
theorem rgK_sAg (g:GdF) (x:XF) (f:OpF) (r:Rg):rgK tb (ahead (sAg g x f) r) en k fr cs h nx κ =
  g en (x en fun old=>f en h nx fun v _ _=>br (beqV old v) (rgK tb r en k fr cs h nx κ) false) (rgK tb r en k fr cs h nx κ):=by cases r<;>rfl
theorem rgK_op (g:Gd) (d:Ds) (i:I) (r:DR):rgK tb (dR (.op g d i r)) en k fr cs h nx κ =
  dG g en (dI i en h nx fun v h nx=>rgK tb (dR r) (putE d v en) k fr cs h nx κ) (rgK tb (dR r) (putE d undef en) k fr cs h nx κ):=by
 have e1:∀ (v:AV) (h:H) (nx:Nat),dD d v en (fun en=>rgK tb (dR r) en k fr cs h nx κ)=rgK tb (dR r) (putE d v en) k fr cs h nx κ:=fun v h nx=>dD_eq d v en _
 cases g with
 | n=>
  show rgK tb (ahead (sOp (dD d) (dI i)) (dR r)) en k fr cs h nx κ=_
  rw [rgK_sOp]
  simp only [e1]
  rfl
 | g t b=>
  show rgK tb (ahead (sOpG (dG (.g t b)) (dD d) (dI i)) (dR r)) en k fr cs h nx κ=_
  rw [rgK_sOpG]
  simp only [e1]
theorem rgK_rck (g:Gd) (t:Nat) (i:I) (r:DR):rgK tb (dR (.rck g t i r)) en k fr cs h nx κ =
  dG g en (dI i en h nx fun v _ _=>br (beqV (getL AV 3 t en) v) (rgK tb (dR r) en k fr cs h nx κ) false) (rgK tb (dR r) en k fr cs h nx κ):=by
 show rgK tb (ahead (sAg (dG g) (xT t) (dI i)) (dR r)) en k fr cs h nx κ=_
 rw [rgK_sAg]
 congr 1
 show getK AV _ 3 t en=_
 rw [getK_eq]
theorem rgK_call (g:Gd) (d:Ds) (f:Nat) (xs:List X) (r:DR):rgK tb (dR (.call g d f xs r)) en k fr cs h nx κ =
  dG g en (dXs xs en fun vs=>enterK tb f vs false (.mk en (.wt (dD d) (dR r) :: k) fr :: cs) h nx κ) (κ (.mk (putE d undef en) (.rg (dR r) :: k) fr cs h nx)):=by
 show dG g en _ (dD d undef en fun en=>κ (.mk en (.rg (dR r) :: k) fr cs h nx))=_
 rw [dD_eq]
theorem rgK_calv (g:Gd) (d:Ds) (x:X) (xs:List X) (r:DR):rgK tb (dR (.calv g d x xs r)) en k fr cs h nx κ =
  dG g en (dX x en fun v=>dXs xs en fun vs=>callvK tb v vs (.mk en (.wt (dD d) (dR r) :: k) fr :: cs) h nx κ) (κ (.mk (putE d undef en) (.rg (dR r) :: k) fr cs h nx)):=by
 show dG g en _ (dD d undef en fun en=>κ (.mk en (.rg (dR r) :: k) fr cs h nx))=_
 rw [dD_eq]
theorem rgK_inv (g:Gd) (d:Ds) (tbl:List (Nat × Nat)) (x:X) (xs:List X) (r:DR):rgK tb (dR (.inv g d tbl x xs r)) en k fr cs h nx κ =
  dG g en (dX x en fun v=>dXs xs en fun vs=>invK tb tbl v vs (.mk en (.wt (dD d) (dR r) :: k) fr :: cs) h nx κ) (κ (.mk (putE d undef en) (.rg (dR r) :: k) fr cs h nx)):=by
 show dG g en _ (dD d undef en fun en=>κ (.mk en (.rg (dR r) :: k) fr cs h nx))=_
 rw [dD_eq]
theorem rgK_dfr (g:Gd) (d:Ds) (x:X) (xs:List X) (r:DR) (fn:Nat) (df:List AD) (kd:Bool) (rd:Option Nat):rgK tb (dR (.dfr g d x xs r)) en k (.mk fn df kd rd) cs h nx κ =
  dG g en (match rd with
   | none=>dX x en fun v=>dXs xs en fun vs=>(match v with
    | .fn f caps=>appK AV vs caps fun vs=>κ (.mk (putE d undef en) (.rg (dR r) :: k) (.mk fn (.fn f vs :: df) kd none) cs h nx)
    | _=>false)
   | some _=>false) (κ (.mk (putE d undef en) (.rg (dR r) :: k) (.mk fn df kd rd) cs h nx)):=by
 show dG g en _ (dD d undef en fun en=>κ (.mk en (.rg (dR r) :: k) (.mk fn df kd rd) cs h nx))=_
 rw [dD_eq]
 cases rd with
 | none=>
  congr 1
  show dX x en _=_
  congr 1;funext v
  congr 1;funext vs
  cases v<;>first | rfl | skip
  show appK AV vs _ (fun vs=>dD d undef en _)=_
  simp only [dD_eq]
 | some o=>rfl
theorem rgK_rcv (g:Gd) (d:Ds) (r:DR) (fn:Nat) (df:List AD) (kd:Bool) (rd:Option Nat):rgK tb (dR (.rcv g d r)) en k (.mk fn df kd rd) cs h nx κ =
  dG g en (match rd with | none=>κ (.mk (putE d .ni en) (.rg (dR r) :: k) (.mk fn df kd none) cs h nx) | some _=>false) (κ (.mk (putE d undef en) (.rg (dR r) :: k) (.mk fn df kd rd) cs h nx)):=by
 cases rd with
 | none=>
  show dG g en (dD d .ni en fun en=>κ (.mk en (.rg (dR r) :: k) (.mk fn df kd none) cs h nx)) (dD d undef en fun en=>κ (.mk en (.rg (dR r) :: k) (.mk fn df kd none) cs h nx))=_
  rw [dD_eq,dD_eq]
 | some o=>
  show dG g en false (dD d undef en fun en=>κ (.mk en (.rg (dR r) :: k) (.mk fn df kd (some o)) cs h nx))=_
  rw [dD_eq]
end
structure Fx (P:Program) (θ:Th) (f:Nat) (fn:Func) (body:Code) (kd:Bool) (rd:Option Nat) (df:List AD) (a:Act) (td:List T) (todo:List Item):Prop where
 hf:FnC P f fn body
 hr:∀ o,rd=some o→θ.has o∧kd=false
 hd:DsR θ df a.defers
 hs:fn.ntmps≤a.tmps.size
 ht:TdR P θ f fn.ntmps body td todo
section
variable {P:Program} {θ θ':Th} {f:Nat} {fn:Func} {body:Code} {kd:Bool} {rd:Option Nat} {df:List AD} {a a':Act} {td:List T} {todo:List Item}
theorem Fx.mono (hle:θ.le θ') (hx:Fx P θ f fn body kd rd df a td todo):Fx P θ' f fn body kd rd df a td todo:=
 ⟨hx.hf,fun o ho=>⟨hle.has o (hx.hr o ho).1,(hx.hr o ho).2⟩,hx.hd.mono hle,hx.hs,hx.ht.mono hle⟩
theorem Fx.rdm (hle:θ.le θ') (hx:Fx P θ f fn body kd rd df a td todo):rd.map θ'.blk=rd.map θ.blk:=by
 cases rd with
 | none=>rfl
 | some o=>exact congrArg some (hle.blk o (hx.hr o rfl).1)
theorem Fx.act (hx:Fx P θ f fn body kd rd df a td todo) (hs:a'.tmps.size=a.tmps.size) (hd:a'.defers=a.defers):Fx P θ f fn body kd rd df a' td todo:=
 ⟨hx.hf,hx.hr,by rw [hd];exact hx.hd,by rw [hs];exact hx.hs,hx.ht⟩
theorem Fx.run (hx:Fx P θ f fn body kd rd df a td todo) (h:H) {en:Env} (hE:ER θ en a.tmps):FR P θ h [] en td (.mk f df kd rd) ((bF f kd (rd.map θ.blk)).atR a todo):=.run hx.hf hx.hr hx.hd hx.hs hE hx.ht
theorem Fx.more (hx:Fx P θ f fn body kd rd df a td todo) {t:T} {i:Item} (h:IR P θ f fn.ntmps body t i):Fx P θ f fn body kd rd df a (t :: td) (i :: todo):=⟨hx.hf,hx.hr,hx.hd,hx.hs,.cons h hx.ht⟩
theorem Fx.tdm {td':List T} {todo':List Item} (hx:Fx P θ f fn body kd rd df a td todo) (h:TdR P θ f fn.ntmps body td' todo'):Fx P θ f fn body kd rd df a td' todo':=⟨hx.hf,hx.hr,hx.hd,hx.hs,h⟩
variable {w0 w:World} {cs0:List Frame} {f0:F0} {κ:ASt→R} {tb:Tb} {h:H} {nx:Nat} {cs:List AFr} {Fs:List Frame} {q pd:List (Nat × AO)} {en:Env}
theorem Fx.goal (hx:Fx P θ f fn body kd rd df a td todo) (hE:ER θ en a.tmps) (hR:HR P w0 pd θ h nx w) (hC:CsR P θ f0 f kd cs Fs pd) (e:κ (.mk en td (.mk f df kd rd) cs h nx)=true) :
  Goal P w0 cs0 f0 κ (lone ((bF f kd (rd.map θ.blk)).atR a todo) (Fs ++ cs0) w):=
 ⟨_,_,.refl P _,.mk (q:=[]) hR (hx.run h hE) hC,e⟩
theorem rfs_in:∀ (c:Code) (k l:Nat) (ps:Array Nat) (x y:Code),(l,ps,x,y) ∈ rfs k c→k≤l∧l < k + nrf c∧(∀ e ∈ rfs (l + 1) x,e ∈ rfs k c)∧∀ e ∈ rfs (l + 1 + nrf x) y,e ∈ rfs k c:=by
 intro c
 induction c with
 | seq a b iha ihb=>
  intro k l ps x y hm
  simp only [rfs,List.mem_append] at hm
  rcases hm with hm | hm
  ·obtain ⟨h1,h2,h3,h4⟩:=iha k l ps x y hm
   exact ⟨h1,by simp only [nrf];omega,fun e he=>List.mem_append_left _ (h3 e he),fun e he=>List.mem_append_left _ (h4 e he)⟩
  ·obtain ⟨h1,h2,h3,h4⟩:=ihb _ l ps x y hm
   exact ⟨by omega,by simp only [nrf];omega,fun e he=>List.mem_append_right _ (h3 e he),fun e he=>List.mem_append_right _ (h4 e he)⟩
 | cond c a b iha ihb=>
  intro k l ps x y hm
  simp only [rfs,List.mem_append] at hm
  rcases hm with hm | hm
  ·obtain ⟨h1,h2,h3,h4⟩:=iha k l ps x y hm
   exact ⟨h1,by simp only [nrf];omega,fun e he=>List.mem_append_left _ (h3 e he),fun e he=>List.mem_append_left _ (h4 e he)⟩
  ·obtain ⟨h1,h2,h3,h4⟩:=ihb _ l ps x y hm
   exact ⟨by omega,by simp only [nrf];omega,fun e he=>List.mem_append_right _ (h3 e he),fun e he=>List.mem_append_right _ (h4 e he)⟩
 | block id a ih=>exact fun k l ps x y hm=>ih k l ps x y hm
 | loop a ih=>exact fun k l ps x y hm=>ih k l ps x y hm
 | scope a ih=>exact fun k l ps x y hm=>ih k l ps x y hm
 | rangeFunc g ps' a b iha ihb=>
  intro k l ps x y hm
  simp only [rfs,List.mem_cons,List.mem_append] at hm
  rcases hm with hm | hm | hm
  ·injection hm with h1 h2
   injection h2 with h2 h3
   injection h3 with h3 h4
   subst h1 h2 h3 h4
   exact ⟨Nat.le_refl _,by simp only [nrf];omega,fun e he=>List.mem_cons_of_mem _ (List.mem_append_left _ he),fun e he=>List.mem_cons_of_mem _ (List.mem_append_right _ he)⟩
  ·obtain ⟨h1,h2,h3,h4⟩:=iha _ l ps x y hm
   exact ⟨by omega,by simp only [nrf];omega,fun e he=>List.mem_cons_of_mem _ (List.mem_append_left _ (h3 e he)),fun e he=>List.mem_cons_of_mem _ (List.mem_append_left _ (h4 e he))⟩
  ·obtain ⟨h1,h2,h3,h4⟩:=ihb _ l ps x y hm
   exact ⟨by omega,by simp only [nrf];omega,fun e he=>List.mem_cons_of_mem _ (List.mem_append_right _ (h3 e he)),fun e he=>List.mem_cons_of_mem _ (List.mem_append_right _ (h4 e he))⟩
 | _=>intro k l ps x y hm;simp [rfs] at hm
theorem trL_some {li:Nat} {ps:AssF} {a b:C} (hl:trL P li=some (.mk ps a b)) {fnn:Nat} {fu:Func} {code:Code} {ps':Array Nat} {x y:Code} (hfu:P.funcs[fnn]? = some fu) (hb:fu.body=some code) (hn:nrf code≤16)
  (hm:(li,ps',x,y) ∈ rfs (liOf fnn) code):ps=dA ps'.toList∧a=dC (trC P fu.ntmps (li + 1) x)∧b=dC (trC P fu.ntmps (li + 1 + nrf x) y)∧(∀ t ∈ ps'.toList,t < fu.ntmps)∧FnC P fnn fu code:=by
 obtain ⟨h1,h2,_,_⟩:=rfs_in _ _ _ _ _ _ hm
 have hdiv:li / 16=fnn:=by unfold liOf at h1 h2;omega
 unfold trL at hl
 rw [hdiv,hfu] at hl
 simp only [hb] at hl
 split at hl
 ·rename_i l2 ps2 x2 y2 hflt
  have hin:(li,ps',x,y) ∈ (rfs (liOf fnn) code).filter (fun x=>Nat.beq x.1 li):=List.mem_filter.2 ⟨hm,Nat.beq_refl li⟩
  rw [hflt] at hin
  have hin:=List.mem_singleton.1 hin
  injection hin with g1 g2
  injection g2 with g2 g3
  injection g3 with g3 g4
  subst g1 g2 g3 g4
  split at hl
  ·rename_i hc
   simp only [Bool.and_eq_true] at hc
   injection hl with hl
   injection hl with k1 k2 k3
   obtain ⟨u,hu⟩:=Option.isSome_iff_exists.1 hc.2
   obtain ⟨fn',body',hfc,_⟩:=trF_some hu
   have e1:fn' = fu:=by have:=hfc.hfn;rw [hfu] at this;injection this with this;exact this.symm
   subst e1
   have e2:body' = code:=by have:=hfc.hbody;rw [hb] at this;injection this with this;exact this.symm
   subst e2
   refine ⟨k1.symm,k2.symm,k3.symm,fun t ht=>?_,hfc⟩
   have:=List.all_eq_true.1 hc.1 t ht
   simpa [Nat.blt_eq] using this
  ·cases hl
 ·cases hl
theorem dA_ok:∀ {ps:List Nat} {vs:List AV} {en:Env} {κ:Env→R} {tmps:Array Value},dA ps vs en κ=true→(∀ t ∈ ps,t < 512)→(∀ t ∈ ps,t < tmps.size)→ER θ en tmps→Oks θ vs→
  ∃ en',κ en' = true∧vs.length=ps.length∧ER θ en' ((ps.zip (toVs θ vs)).foldl (fun tmps (t,a)=>tmps.setIfInBounds t a) tmps)∧((ps.zip (toVs θ vs)).foldl (fun tmps (t,a)=>tmps.setIfInBounds t a) tmps).size=tmps.size
 | [],vs,en,κ,tmps,e,_,_,hE,hv=>by
  cases vs with
  | nil=>exact ⟨en,e,rfl,hE,rfl⟩
  | cons v vs=>cases e
 | t :: ps,vs,en,κ,tmps,e,h5,hs,hE,hv=>by
  cases vs with
  | nil=>cases e
  | cons v vs=>
   have e:setK AV v 3 t en (fun en=>dA ps vs en κ)=true:=e
   rw [setK_eq] at e
   obtain ⟨en',k1,k2,k3,k4⟩:=dA_ok (tmps:=tmps.setIfInBounds t (toV θ v)) e (fun t ht=>h5 t (List.mem_cons_of_mem _ ht)) (fun t ht=>by simpa using hs t (List.mem_cons_of_mem _ ht))
    (er_set hE ⟨hv.1,rfl⟩ (h5 t (List.mem_cons_self ..)) (hs t (List.mem_cons_self ..))) hv.2
   refine ⟨en',k1,by simp [k2],?_,?_⟩
   ·simp only [toVs,List.zip_cons_cons,List.foldl_cons];exact k3
   ·simp only [toVs,List.zip_cons_cons,List.foldl_cons];rw [k4];simp
theorem getLoop_run {l:Nat} {r:Loop} (hl:w.heap[l]? = some (.loop r)):(Instr.getLoop l).run P w = .ok r w:=by
 simp [Instr.getLoop,getObj,Sem.run,hl]
theorem callv_ok (ht:TbOk tb P) {v:AV} {u:Value} {vs:List AV} (e:callvK tb v vs cs h nx κ=true) (hv:VR θ v u) (hvs:Oks θ vs) (hR:HR P w0 pd θ h nx w) (hC:∀ g,CsR P θ f0 g false cs Fs pd) :
  ∃ d n,(Deferred.ofValue u (toVs θ vs).toArray).run P w = .ok d w∧(invoke d.target d.args).run P w = .ok n w∧
   ((∃ g args,n = .enter g args∧Goal P w0 cs0 f0 κ (lone (Frame.enter P g args .normal) (Fs ++ cs0) w))∨
    (∃ l g tmps x y,n = .round l g tmps x y∧Goal P w0 cs0 f0 κ (lone (Frame.round l g tmps x y .normal) (Fs ++ cs0) w))):=by
 obtain ⟨hok,rfl⟩:=hv
 cases v<;>first | (cases e;done) | skip
 ·rename_i g caps
  have e:appK AV vs caps (fun vs=>enterK tb g vs false cs h nx κ)=true:=e
  rw [appK_eq] at e
  have hall:Oks θ (vs ++ caps):=Oks_iff.2 fun x hx=>(List.mem_append.1 hx).elim (Oks_iff.1 hvs x) (Oks_iff.1 hok x)
  obtain ⟨fn,body,hf,hg⟩:=enter_ok ht e hall hR (hC _)
  refine ⟨{ target:=.fn (.func g) (toVs θ caps).toArray,args:=#[] ++ (toVs θ vs).toArray },_,rfl,run_callFunc hf _,.inl ⟨_,_,rfl,?_⟩⟩
  have:(#[] ++ (toVs θ vs).toArray ++ (toVs θ caps).toArray:Array Value)=(toVs θ (vs ++ caps)).toArray:=by simp [toVs_map]
  rw [this]
  exact hg
 ·rename_i o
  have hok:θ.has o:=hok
  have e:get o h (asLp fun _ _ fn li en _=>lpOf tb li fun ps a b=>ps vs en fun en=>κ (.mk en [.c a,.br,.c b] (.mk fn [] false (some o)) cs h nx))=true:=e
  obtain ⟨ao,g1,g2⟩:=get_true e
  cases ao<;>first | (cases g2;done) | skip
  rename_i st j fnn li en' ds
  have g2:lpOf tb li (fun ps a b=>ps vs en' fun en=>κ (.mk en [.c a,.br,.c b] (.mk fnn [] false (some o)) cs h nx))=true:=g2
  obtain ⟨fu,code,ps,x,y,tmps,h1,h2,h3,h4,h5,h6,h7,h8⟩:=hR.obj_ hok g1
  obtain ⟨ps',a',b',k1,k2⟩:=ht.lp g2
  obtain ⟨rfl,rfl,rfl,k3,hf⟩:=trL_some k1 h1 h2 h3 h4
  obtain ⟨en2,m1,m2,m3,m4⟩:=dA_ok k2 (fun t ht=>Nat.lt_of_lt_of_le (k3 t ht) hf.nt) (fun t ht=>Nat.lt_of_lt_of_le (k3 t ht) h7) h6 hvs
  obtain ⟨_,_,s1,s2⟩:=rfs_in _ _ _ _ _ _ h4
  refine ⟨{ target:=.fn (.yield (θ.blk o)) #[],args:=#[] ++ (toVs θ vs).toArray },.round (θ.blk o) fnn ((ps.toList.zip (toVs θ vs)).foldl (fun tmps (t,a)=>tmps.setIfInBounds t a) tmps) x y,rfl,?_,.inr ⟨_,_,_,_,_,rfl,?_⟩⟩
  ·have hsz:((#[] ++ (toVs θ vs).toArray:Array Value)).size=ps.size:=by simp [m2]
   have hz:(ps.zip (#[] ++ (toVs θ vs).toArray)).toList=ps.toList.zip (toVs θ vs):=by simp
   simp only [invoke,Instr.yield,Sem.run_bind,getLoop_run h5,Result.andThen,hsz,ne_eq,not_true,if_false,Sem.run_pure]
   rw [← Array.foldl_toList,hz]
  ·have hfx:Fx P θ fnn fu code false (some o) [] { tmps:=(ps.toList.zip (toVs θ vs)).foldl (fun tmps (t,a)=>tmps.setIfInBounds t a) tmps,defers:=[] } [.c (dC (trC P fu.ntmps (li + 1) x)),.br,.c (dC (trC P fu.ntmps (li + 1 + nrf x) y))] [.code x,.beginRound,.code y]:=
    ⟨hf,fun o' ho'=>by injection ho' with ho';subst ho';exact ⟨hok,rfl⟩,rfl,by rw [m4];exact h7,.cons (.code s1 (.refl _)) (.cons .br (.cons (.code s2 (.refl _)) .nil))⟩
   exact hfx.goal m3 hR (hC _) m1
end
end Go.AM
