/- A part of the proof of this: the program mends a meta as the document does, and what was handed in stays what it was. Conditions: none. Joined of F101, B102, F102, B103, F103, F104, F105, F106, F107, B108, F108, B109, F109, F110, B110, F111, B86T, F86T, B112, F112, B113, F113, F114. -/
import Derived.Test.YtjleagfibbbjnaaGreatC4
import Derived.LoopN
import Derived.KernelRfl
import Derived.Scope
namespace Go.Mat
open Go Go.Den Go.Proofs Go.RowKit
set_option maxRecDepth 100000
def fX:List U:=[.l [.i 0,.i 0,.i 0,.i 0,.i 0],.l [.i 0,.i 0,.i 0,.i 0,.i 0],.l [.i 0,.i 0,.i 0,.i 0,.i 0],.l [.i 0,.i 0,.i 0,.i 0,.i 0],.l [.i 0,.i 0,.i 0,.i 0,.i 0],.l [.i 0,.i 0,.i 0,.i 0,.i 0],.l [.i 0,.i 0,.i 0,.i 0,.i 0],.l [.i 0,.i 0,.i 0,.i 0,.i 0]]
def rowOf (r:U):List U:=bif (r.list.length:Int) == 0 then fX else r.list
def bj (R:List U) (j:Nat) (e:List U):List U:=R.set j (.l (c4 (U.at R j).list 0 e))
def dY (R:List U):List U:=bif !dD R then [] else R
def bm (T:List U) (k:Nat):List U:=T ++ List.replicate k (.l [])
def fj:Nat→List U→List U
 | 0,xs=>xs
 | m + 1,xs=>bif ((U.at xs m).list.length:Int) == 0 then fj m (xs.take m) else xs
def setR (T:List U) (m:Nat) (e:List U):List U:=
 let L:=bm T (m / 8 + 1 - T.length)
 let L2:=L.set (m / 8) (.l (dY (bj (rowOf (U.at L (m / 8))) (m % 8) e)))
 fj L2.length L2
def setX (T:List U) (i:Int) (a b d e g:U):List U:=bif decide (i < 0) || (decide (i ≥ 4096) || !bw T a.int b.int d.int e.int g.int 7 0) then T else setR T i.toNat [a,b,d,e,g]
def Ej:List (List U)→List (List U):=fun us=>[[.l (setX (nth (.i 0) (nth [] us 0) 0).list (nth (.i 0) (nth [] us 1) 0).int (nth (.i 0) (nth [] us 2) 0) (nth (.i 0) (nth [] us 2) 1) (nth (.i 0) (nth [] us 2) 2) (nth (.i 0) (nth [] us 2) 3) (nth (.i 0) (nth [] us 2) 4))]]
def dv (T:List U):Prop:=T.length≤1048576∧∀ j,j < T.length→(U.at T j).list.length≤1048576
def fc:List (List U)→Prop:=fun us=>dv (nth (.i 0) (nth [] us 0) 0).list
theorem Jk:KA.Ok:=(aB ao af (.cons HS .nil) .nil).panics _
theorem IW:KF.Ok:=(aB ao af .nil (.cons Ji .nil)).panics _
theorem iu {n c:Int}:∀ {T:List U} {i:Int},cx n c i T=true→∀ j,j < T.length→(U.at T j).list.length=0∨(U.at T j).list.length=8
 | [],_,_,j,hj=>by simp at hj
 | l :: r,i,h,j,hj=>by
  unfold cx at h
  split at h
  ·rename_i h0
   cases j with
   | zero=>exact .inl (by show l.list.length=0;rw [h0.1];rfl)
   | succ j=>exact iu h j (by simpa using hj)
  ·simp only [Bool.and_eq_true] at h
   cases j with
   | zero=>
    have h1:=h.1
    unfold ll at h1
    simp only [Bool.and_eq_true,decide_eq_true_eq] at h1
    exact .inr h1.1.1
   | succ j=>exact iu h.2 j (by simpa using hj)
theorem rY {T:List U} {a b d e g:Int}:∀ {n:Nat} {c:Int},bw T a b d e g n c=true→∀ j,j < T.length→(U.at T j).list.length=0∨(U.at T j).list.length=8
 | 0,_,h=>by cases h
 | n + 1,c,h=>by
  have key:∀ x y z:Bool,(bif x then (bif y then true else z) else z)=true→z=true∨y=true:=by intro x y z;cases x<;>cases y<;>simp
  rcases key _ _ _ h with h | h
  ·exact rY h
  ·unfold bU at h
   split at h
   ·cases h
   ·exact iu h
theorem oG {xs:List U} {j:Nat} (h:xs.length≤j):U.at xs j = .i 0:=by
 induction xs generalizing j with
 | nil=>simp
 | cons x r ih=>
  cases j with
  | zero=>simp at h
  | succ j=>simp only [aZ];exact ih (by simpa using h)
theorem mU {T:List U}:∀ {k j:Nat},j < T.length + k→U.at (bm T k) j=if j < T.length then U.at T j else .l []
 | 0,j,h=>by
  unfold bm
  rw [List.replicate_zero,List.append_nil,if_pos (by omega)]
 | k + 1,j,h=>by
  have e:bm T (k + 1)=bm T k ++ [.l []]:=by unfold bm;rw [List.replicate_succ',List.append_assoc]
  have hl:(bm T k).length=T.length + k:=by unfold bm;simp
  rw [e,DC,hl]
  by_cases hj:j < T.length + k
  ·rw [if_pos hj,mU hj]
  ·rw [if_neg hj,if_pos (by omega),if_neg (by omega)]
theorem nn {r:U} (h:r.list.length=0∨r.list.length=8):(rowOf r).length=8:=by
 unfold rowOf
 rcases h with h | h
 ·rw [h];rfl
 ·rw [h];exact h
theorem Gu:bh Tryz.f41 = .seq (piece stC [0]) (.seq (piece stC [1,0]) (.seq (.seq (.region (av (piece stC [1,1,0,0])) st2 false) (.cond (.tmp 23) (.seq (piece stC [1,1,0,1,0,0]) (.ret)) (.skip))) (.seq (.block 0 (.loop (.seq (.seq (.region (av (piece stC [1,1,1,0,0,0,0,0])) st4 false) (.cond (.tmp 30) (.skip) (.exit 0))) (.block 1 (piece stC [1,1,1,0,0,0,1,0]))))) (.seq (piece stC [1,1,1,1,0]) (.seq (.seq (.region (av (piece stC [1,1,1,1,1,0,0])) st7 false) (.cond (.tmp 44) (.region (av (piece stC [1,1,1,1,1,0,1,0])) st8 false) (.skip))) (.seq (.region (av (piece stC [1,1,1,1,1,1,0])) st9 false) (.seq (.seq (.region (av (piece stC [1,1,1,1,1,1,1,0,0])) FL false) (.cond (.tmp 53) (.region (av (piece stC [1,1,1,1,1,1,1,0,1,0])) HM false) (.skip))) (.seq (piece stC [1,1,1,1,1,1,1,1,0]) (.seq (.seq (.region (av (piece stC [1,1,1,1,1,1,1,1,1,0,0])) HX false) (.block 2 (.loop (.seq (.seq (.region (av (piece stC [1,1,1,1,1,1,1,1,1,0,1,0,0,0,0])) Fx false) (.cond (.tmp 74) (.skip) (.exit 2))) (.seq (.block 3 (piece stC [1,1,1,1,1,1,1,1,1,0,1,0,0,1,0,0])) (.region (av (piece stC [1,1,1,1,1,1,1,1,1,0,1,0,0,1,1])) GI false)))))) (.seq (piece stC [1,1,1,1,1,1,1,1,1,1,0]) (.ret))))))))))):=by kernel_rfl
theorem JU:cd (piece stC [0]) [(some 3,.box 24 (.tmp 0)),(some 5,.box 46 (.tmp 2)),(some 6,.alloc 24)]:=⟨av (piece stC [0]),ax (piece stC [0]),by kernel_rfl,by kernel_rfl,by kernel_rfl⟩
theorem JS:cd (piece stC [1,0]) [(some 10,.load 24 (.tmp 3)),(some (10 + 1),.call { callee:=.value (.func 47),args:=#[.tmp 10],argTypes:=#[24] }),(some 7,.alloc 24),(none,.store 24 (.tmp 7) (.tmp (10 + 1)))]:=⟨av (piece stC [1,0]),ax (piece stC [1,0]),by kernel_rfl,by kernel_rfl,by kernel_rfl⟩
theorem JI:cd (piece stC [1,1,0,1,0,0]) [(some 24,.load 24 (.tmp 7)),(none,.store 24 (.tmp 6) (.tmp 24))]:=⟨av (piece stC [1,1,0,1,0,0]),ax (piece stC [1,1,0,1,0,0]),by kernel_rfl,by kernel_rfl,by kernel_rfl⟩
theorem JR:cd (piece stC [1,1,1,0,0,0,1,0]) [(some 31,.fieldAddr 24 (.tmp 7) 0),(some (31 + 1),.load 22 (.tmp 31)),(some (31 + 2),.buildSlice 22 1 #[(0,.const (.slice none 0 0))]),(some (31 + 3),.call { callee:=.builtin .append,args:=#[.tmp (31 + 1),.tmp (31 + 2)],argTypes:=#[22,22] }),(some (31 + 4),.fieldAddr 24 (.tmp 7) 0),(none,.store 22 (.tmp (31 + 4)) (.tmp (31 + 3)))]:=⟨av (piece stC [1,1,1,0,0,0,1,0]),ax (piece stC [1,1,1,0,0,0,1,0]),by kernel_rfl,by kernel_rfl,by kernel_rfl⟩
theorem JH:cd (piece stC [1,1,1,1,0]) [(some 36,.fieldAddr 24 (.tmp 7) 0),(some (36 + 1),.load 22 (.tmp 36)),(some (36 + 2),.move (.tmp 1)),(some (36 + 3),.binOp .quo 3 (.tmp (36 + 2)) (.const (.int .i64 8)) 3),(some (36 + 4),.indexAddr 22 (.tmp (36 + 1)) (.tmp (36 + 3))),(some (36 + 5),.load 47 (.tmp (36 + 4))),(some 8,.assign (.tmp (36 + 5)))]:=⟨av (piece stC [1,1,1,1,0]),ax (piece stC [1,1,1,1,0]),by kernel_rfl,by kernel_rfl,by kernel_rfl⟩
theorem IS:cd (piece stC [1,1,1,1,1,1,1,1,0]) [(some 54,.fieldAddr 24 (.tmp 7) 0),(some (54 + 1),.load 22 (.tmp 54)),(some (54 + 2),.move (.tmp 1)),(some (54 + 3),.binOp .quo 3 (.tmp (54 + 2)) (.const (.int .i64 8)) 3),(some (54 + 4),.move (.tmp 8)),(some (54 + 5),.indexAddr 22 (.tmp (54 + 1)) (.tmp (54 + 3))),(none,.store 47 (.tmp (54 + 5)) (.tmp (54 + 4)))]:=⟨av (piece stC [1,1,1,1,1,1,1,1,0]),ax (piece stC [1,1,1,1,1,1,1,1,0]),by kernel_rfl,by kernel_rfl,by kernel_rfl⟩
theorem Jn:cd (piece stC [1,1,1,1,1,1,1,1,1,0,1,0,0,1,0,0]) [(some 77,.fieldAddr 24 (.tmp 7) 0),(some (77 + 1),.load 22 (.tmp 77)),(some (77 + 2),.move (.tmp 9)),(some (77 + 3),.binOp .sub 3 (.tmp (77 + 2)) (.const (.int .i64 1)) 3),(some (77 + 4),.slice 22 (.tmp (77 + 1)) none (some (.tmp (77 + 3))) none),(some (77 + 5),.fieldAddr 24 (.tmp 7) 0),(none,.store 22 (.tmp (77 + 5)) (.tmp (77 + 4)))]:=⟨av (piece stC [1,1,1,1,1,1,1,1,1,0,1,0,0,1,0,0]),ax (piece stC [1,1,1,1,1,1,1,1,1,0,1,0,0,1,0,0]),by kernel_rfl,by kernel_rfl,by kernel_rfl⟩
theorem JB:cd (piece stC [1,1,1,1,1,1,1,1,1,1,0]) [(some 83,.load 24 (.tmp 7)),(none,.store 24 (.tmp 6) (.tmp 83))]:=⟨av (piece stC [1,1,1,1,1,1,1,1,1,1,0]),ax (piece stC [1,1,1,1,1,1,1,1,1,1,0]),by kernel_rfl,by kernel_rfl,by kernel_rfl⟩
theorem Hc {w:World} {Z:Nat→Prop} {T i a b d e g:U} {svs:List SV} {vs:List Value} (hs:aU PR [24,3,46] [[T],[i],[a,b,d,e,g]]=some svs) (h:ab w Z none_ svs vs) :
  ∃ v vs5,vs=[.agg #[v],.int .i64 i.int,.agg vs5]∧aR w Z TRC v T∧(IntKind.i64.min≤i.int∧i.int≤IntKind.i64.max)∧aX w Z EC vs5.toList [a,b,d,e,g]:=by
 have e:aU PR [24,3,46] [[T],[i],[a,b,d,e,g]]=some [.agg [.val TRC T],vi i,.agg (vals EC [a,b,d,e,g])]:=by kernel_rfl
 rw [e] at hs
 cases hs
 obtain ⟨x1,t1,rfl,⟨a1,rfl,v,t,h1,hv,ht⟩,x2,t2,rfl,hi,x3,t3,rfl,⟨a3,rfl,h3⟩,h4⟩:=h
 have ht:t=[]:=ht
 subst ht
 have h4:t3=[]:=h4
 subst h4
 have ha1:a1 = #[v]:=by apply Array.ext';simpa using h1
 subst ha1
 have hi:x2 = .int .i64 i.int∧_:=hi
 obtain ⟨rfl,hi2⟩:=hi
 exact ⟨v,a3,rfl,hv,hi2,ab.repL h3⟩
theorem Gb:cG PR 41 fc Ej:=fun fn us hfn hP=>by
 have hf:PR.funcs[(41:Nat)]? = some Tryz.f41:=by kernel_rfl
 rw [hf] at hfn;cases hfn
 have hb:Tryz.f41.body=some (bh Tryz.f41):=by kernel_rfl
 have hnt:Tryz.f41.ntmps=84:=by kernel_rfl
 have hpar:Tryz.f41.params.toList=[24,3,46]:=by kernel_rfl
 refine ⟨by rw [hb];rfl,by kernel_rfl,?_⟩
 intro w0 Z vs hZ hsh ⟨svs,hsvs,hrep⟩
 rw [hpar] at hsh hsvs
 obtain ⟨u1,u2,u3,rfl,l1,l2,l3⟩:=m5 (m:=true) (cs:=[TRC]) (m2:=false) (cs2:=[.int .i64]) (m3:=true) (cs3:=EC) (by kernel_rfl) (by kernel_rfl) (by kernel_rfl) hsh
 obtain ⟨T,rfl⟩:=bG l1
 obtain ⟨i,rfl⟩:=bG l2
 obtain ⟨a,b,d,e,g,rfl⟩:=qy l3
 obtain ⟨v,vs5,rfl,hv,hi,h5⟩:=Hc hsvs hrep
 have hP:dv T.list:=hP
 clear hsvs hrep hsh l1 l2 l3
 refine calls_of_wp hf hb ?_
 rw [Gu,hnt]
 generalize ha0:({ tmps:=[Value.agg #[v],.int .i64 i.int,.agg vs5].toArray ++ Array.replicate (84 - ([Value.agg #[v],.int .i64 i.int,.agg vs5].toArray:Array Value).size) undef,defers:=[] }:Act)=a0
 have a0s:a0.tmps.size=84:=by rw [← ha0];simp
 have a00:a0.eval (.tmp 0) = .agg #[v]:=by rw [← ha0];simp [Act.eval,Array.getD_eq_getD_getElem?]
 have a01:a0.eval (.tmp 1) = .int .i64 i.int:=by rw [← ha0];simp [Act.eval,Array.getD_eq_getD_getElem?]
 have a02:a0.eval (.tmp 2) = .agg vs5:=by rw [← ha0];simp [Act.eval,Array.getD_eq_getD_getElem?]
 have a0d:a0.defers=[]:=by rw [← ha0]
 clear ha0
 obtain ⟨Qf,hQf⟩:∃ Qf:Exit→Act→World→Prop,Qf=bodyPost PR Tryz.f41 (Den.Ends PR Tryz.f41 (Ej [[T],[i],[a,b,d,e,g]]) w0 Z):=⟨_,rfl⟩
 show Code.wp PR _ (bodyPost PR Tryz.f41 (Den.Ends PR Tryz.f41 (Ej [[T],[i],[a,b,d,e,g]]) w0 Z)) a0 w0
 rw [← hQf]
 have hres:Tryz.f41.results = #[.cell 6 24]:=by kernel_rfl
 have hrt:Tryz.f41.resultTypes.toList=[24]:=by kernel_rfl
 have hSX:Ej [[T],[i],[a,b,d,e,g]]=[[.l (setX T.list i.int a b d e g)]]:=rfl
 rw [hSX] at hQf
 clear hSX
 refine wp_seq (wp_mono (Hm (n:=84) JU (by decide) a0s a0d a00 a01 a02 hv hZ h5) ?_)
 rintro ex a1 w3 ⟨rfl,a1s,a1d,e1,e3,e5,e6,S⟩
 have hcf:PR.funcs[(47:Nat)]? = some Tryz.f47:=by kernel_rfl
 refine wp_seq (wp_mono (Hy (n:=84) (d:=10) hcf (by kernel_rfl) (by kernel_rfl) n5 JS (by decide) a1s a1d e1 e3 e5 e6 S hP.1 hP.2) ?_)
 rintro ex a2 w4 ⟨rfl,B7,vo,rows,H⟩
 clear a0s a00 a01 a02 a0d a1s a1d e1 e3 e5 e6 h5 hv
 generalize hr:i.int=ii at hi H hQf
 have hnil:∀ (w:World) (a:Act) (p:Nat × SV),p ∈ ([]:List (Nat × SV))→ag w (fun _=>False) (fun _=>.pointer none) p.2 (a.tmps.getD p.1 undef):=fun _ _ p hp=>by cases hp
 refine wp_seq (wp_seq (wp_mono (ch (C:=KA) (ex:=[]) (k:=fun σ=>get σ.env 23=vb (.b (decide (ii < 0) || (decide (ii ≥ 4096) || !bw T.list a.int b.int d.int e.int g.int 7 0)))) rfl Jk (fun _ _ h=>h) (by kernel_rfl) (by kernel_rfl) (by kernel_rfl) H S hi (hnil _ _) (fun _ h=>h.elim) ?_) ?_))
 ·rw [Dl]
  cases h1:decide (ii < 0) with
  | true=>rw [cond_true];rfl
  | false=>
   rw [cond_false]
   cases h2:decide (ii ≥ 4096) with
   | true=>rw [cond_true];rfl
   | false=>rw [cond_false];rfl
 rintro ex a3 w5 ⟨rfl,H,F5,kp,σ,Z',G',hk,S'⟩
 have r23:=S'.slot 23
 rw [hk] at r23
 have r23:a3.eval (.tmp 23) = .bool (decide (ii < 0) || (decide (ii ≥ 4096) || !bw T.list a.int b.int d.int e.int g.int 7 0)):=r23
 refine wp_cond_split r23 (fun ht=>?_) (fun hfl=>wp_skip ?_)
 ·refine wp_mono (pG (d:=24) JI (by decide) hres hrt S H) ?_
  rintro ex a' w' ⟨rfl,h⟩
  rw [show setX T.list ii a b d e g=T.list by unfold setX;rw [ht,cond_true]] at hQf
  show Qf .ret a' w'
  rw [hQf];exact h
 simp only [Bool.or_eq_false_iff,decide_eq_false_iff_not,Bool.not_eq_false'] at hfl
 obtain ⟨i0,i1,hfit⟩:=hfl
 have hrows:=rY hfit
 obtain ⟨m,rfl⟩:∃ m:Nat,ii=(m:Int):=⟨ii.toNat,by omega⟩
 have hm:m < 4096:=by omega
 rw [show setX T.list (m:Int) a b d e g=setR T.list m [a,b,d,e,g] by
  unfold setX
  rw [show (decide ((m:Int) < 0) || (decide ((m:Int) ≥ 4096) || !bw T.list a.int b.int d.int e.int g.int 7 0))=false by
   rw [hfit];simp;omega,cond_false];rfl] at hQf
 clear hfit i0 i1 hk S' kp r23 F5
 have hm8:(Int.tdiv (m:Int) 8)=((m / 8:Nat):Int):=by rw [Int.tdiv_eq_ediv_of_nonneg (by omega)];omega
 have hw8:IntKind.i64.wrap (Int.tdiv (m:Int) 8)=((m / 8:Nat):Int):=by rw [hm8,i64_in (by omega) (by omega)]
 obtain ⟨Qp,hQp⟩:∃ Qp:Exit→Act→World→Prop,Qp=fun ex a w=>ex = .normal∧∃ vo rows,StJ 84 w0 w3 B7 (m:Int) vo rows (bm T.list (m / 8 + 1 - T.list.length)) a w:=⟨_,rfl⟩
 refine wp_seq (wp_mono (Q:=Qp) ?_ ?_)
 ·refine wp_block (wp_loop_rounds (m / 8 + 1 - T.list.length + 1) ?_)
  have key:∀ (f k:Nat) (a:Act) (w:World) (vo:Value) (rows:List Value),k + f=m / 8 + 1 - T.list.length→StJ 84 w0 w3 B7 (m:Int) vo rows (bm T.list k) a w→
    Code.rounds PR (.seq (.seq (.region (av (piece stC [1,1,1,0,0,0,0,0])) st4 false) (.cond (.tmp 30) .skip (.exit 0))) (.block 1 (piece stC [1,1,1,0,0,0,1,0])))
     (Exit.inBlock 0 Qp) (f + 1) a w:=by
   intro f
   induction f with
   | zero=>
    intro k a4 w4 vo rows hk H
    have hlen:(bm T.list k).length=T.list.length + k:=by unfold bm;simp
    rw [rounds_succ]
    refine wp_seq (wp_seq (wp_mono (ch (C:=KW) (ex:=[]) (k:=fun σ=>get σ.env 30=vb (.b (decide (((bm T.list k).length:Int)≤((m / 8:Nat):Int))))) rfl bx (fun _ _ h=>h) (by kernel_rfl) (by kernel_rfl) (by kernel_rfl) H S hi (hnil _ _) (fun _ h=>h.elim) ?_) ?_))
    ·rw [u0,hw8];rfl
    rintro ex a5 w5 ⟨rfl,H5,_,_,σ,Z',G',hk',S'⟩
    have r30:=S'.slot 30
    rw [hk'] at r30
    have r30:a5.eval (.tmp 30) = .bool (decide (((bm T.list k).length:Int)≤((m / 8:Nat):Int))):=r30
    refine wp_cond_split r30 (fun ht=>?_) (fun _=>wp_exit ?_)
    ·have ht:=of_decide_eq_true ht
     exfalso
     rw [hlen] at ht
     omega
    ·show Exit.inBlock 0 Qp (.exit 0) a5 w5
     refine cC ?_
     rw [hQp]
     refine ⟨rfl,vo,rows,?_⟩
     rw [show m / 8 + 1 - T.list.length=k by omega]
     exact H5
   | succ f ih=>
    intro k a4 w4 vo rows hk H
    have hlen:(bm T.list k).length=T.list.length + k:=by unfold bm;simp
    rw [rounds_succ]
    refine wp_seq (wp_seq (wp_mono (ch (C:=KW) (ex:=[]) (k:=fun σ=>get σ.env 30=vb (.b (decide (((bm T.list k).length:Int)≤((m / 8:Nat):Int))))) rfl bx (fun _ _ h=>h) (by kernel_rfl) (by kernel_rfl) (by kernel_rfl) H S hi (hnil _ _) (fun _ h=>h.elim) ?_) ?_))
    ·rw [u0,hw8];rfl
    rintro ex a5 w5 ⟨rfl,H5,_,_,σ,Z',G',hk',S'⟩
    have r30:=S'.slot 30
    rw [hk'] at r30
    have r30:a5.eval (.tmp 30) = .bool (decide (((bm T.list k).length:Int)≤((m / 8:Nat):Int))):=r30
    refine wp_cond_split r30 (fun _=>wp_skip ?_) (fun hf=>?_)
    ·refine wp_block (wp_mono (yy (d:=31) JR (by decide) H5 (by rw [hlen];omega)) ?_)
     rintro ex a6 w6 ⟨rfl,vo',rows',H6⟩
     have e:bm T.list (k + 1)=bm T.list k ++ [.l []]:=by unfold bm;rw [List.replicate_succ',List.append_assoc]
     exact ih (k + 1) a6 w6 vo' rows' (by omega) (by rw [e];exact H6)
    ·have hf:=of_decide_eq_false hf
     exfalso
     rw [hlen] at hf
     omega
  exact key _ 0 a3 w5 vo rows (by omega) (by rw [show bm T.list 0=T.list by unfold bm;simp];exact H)
 rw [hQp]
 rintro ex a4 w6 ⟨rfl,vo,rows,H⟩
 clear hQp
 generalize hL:bm T.list (m / 8 + 1 - T.list.length)=L at H
 have hLl:m / 8 < L.length:=by rw [← hL];unfold bm;simp;omega
 have hLr:(U.at L (m / 8)).list.length=0∨(U.at L (m / 8)).list.length=8:=by
  rw [← hL,mU (by omega)]
  split
  ·rename_i h;exact hrows _ h
  ·exact .inl rfl
 have hLs:L.length < 1073741824:=by
  rw [← hL];unfold bm
  have:=hP.1
  simp;omega
 refine wp_seq (wp_mono (zA (d:=36) hm JH (by decide) H hLl) ?_)
 rintro ex a5 w7 ⟨rfl,H,r,hr,h8⟩
 have D8:=H.deep.row _ r hr
 have hk8:m / 8 < rows.length:=by rw [H.deep.len];exact hLl
 have hfr8:∀ b,r.ownBlock=some b→w0.heap.size + 3≤b∧b≠B7∧vo.ownBlock≠some b∧∀ (j:Nat) (r':Value),j≠m / 8→rows[j]? = some r'→r'.ownBlock≠some b:=fun b hb=>
  ⟨(H.deep.rowF _ r b hr hb).1.1,(H.deep.rowF _ r b hr hb).1.2,(H.deep.rowF _ r b hr hb).2,fun j r' hj hr' hb'=>hj (H.deep.apart j (m / 8) r' r b hr' hr hb' hb)⟩
 generalize hU:U.at L (m / 8)=R at D8 hLr
 refine wp_seq (wp_mono (Q:=fun ex a w=>ex = .normal∧StJ 84 w0 w3 B7 (m:Int) vo rows L a w∧∃ r,a.eval (.tmp 8)=r∧gY w r (.l (rowOf R))∧(∀ b,r.ownBlock=some b→w0.heap.size + 3≤b∧b≠B7∧vo.ownBlock≠some b∧∀ (j:Nat) (r':Value),j≠m / 8→rows[j]? = some r'→r'.ownBlock≠some b)∧(rows[m / 8]? = some r∨∀ b,r.ownBlock=some b→∀ (j:Nat) (r':Value),rows[j]? = some r'→r'.ownBlock≠some b)) ?_ ?_)
 ·refine wp_seq (wp_mono (ch (C:=KW) (ex:=[(8,vt EC R)]) (Z8:=fun b=>b < w7.heap.size) (k:=fun σ=>get σ.env 44=vb (.b ((R.list.length:Int) == 0))) rfl bx (fun _ _ h=>h) (by kernel_rfl) (by kernel_rfl) (by kernel_rfl) H S hi (fun p hp=>?_) (fun _ h=>h) ?_) ?_)
  ·have hp:p=(8,vt EC R):=by simpa using hp
   subst hp
   show aR w7 _ (.sl true EC) (a5.eval (.tmp 8)) R
   rw [h8]
   exact D8.rep fun b hb=>D8.lt hb
  ·rw [EI];rfl
  rintro ex a6 w8 ⟨rfl,H6,F6,kp,σ,Z',G',hk,S'⟩
  have r44:=S'.slot 44
  rw [hk] at r44
  have r44:a6.eval (.tmp 44) = .bool ((R.list.length:Int) == 0):=r44
  refine wp_cond_split r44 (fun ht=>?_) (fun hfl=>wp_skip ?_)
  ·refine bJ bx fl (n:=84) (G:=fun _=>.pointer none) (Z:=fun b=>b < w8.heap.size) (env:=fo (m:Int) T [a,b,d,e,g] L []) (k:=fun σ=>get σ.env 8 = .own 5886∧az σ.objs 5886=some (.arr 46 fX)) (by kernel_rfl) (by kernel_rfl) H6.size (H6.slots S hi (hnil _ _) (fun _ h=>h.elim)) (fun _ h=>h) (fun _=>rfl) ?_ ?_
   ·rw [Eo];exact ⟨rfl,rfl⟩
   rintro σ a7 w9 Z9 G9 ⟨k1,k2⟩ S9 kp9
   have F9:Fut (fun _=>False) w8 w9:=S9.fut
   have H7:=H6.next S9.size S9.calm (aj (l:=[1,3,5,6,7]) (by kernel_rfl) kp9 rfl) (aj (l:=[1,3,5,6,7]) (by kernel_rfl) kp9 rfl) (aj (l:=[1,3,5,6,7]) (by kernel_rfl) kp9 rfl) (aj (l:=[1,3,5,6,7]) (by kernel_rfl) kp9 rfl) (aj (l:=[1,3,5,6,7]) (by kernel_rfl) kp9 rfl) F9
   obtain ⟨m2,cs2,vs,g1,g2,g3⟩:=S9.obj 5886 _ k2
   have g1:Cs PR 46=some (m2,cs2):=g1
   rw [cE] at g1
   cases g1
   have r8:=S9.slot 8
   rw [k1] at r8
   have r8:a7.eval (.tmp 8)=G9 5886:=r8
   have hge:∀ b,(G9 5886).ownBlock=some b→w8.heap.size≤b:=fun b hb=>by
    rcases (S9.free 5886 _ b k2 (by rw [dk g2];exact hb)).2 with h | h | h
    ·exact h.elim
    ·exact h.elim
    ·exact h
   have hrw:∀ b,(G9 5886).ownBlock=some b→∀ (j:Nat) (r':Value),rows[j]? = some r'→r'.ownBlock≠some b:=fun b hb j r' hr' hb'=>by
    have:=(H6.deep.row j r' hr').lt hb'
    have:=hge b hb
    omega
   refine ⟨rfl,H7,_,r8,⟨vs,?_,?_⟩,fun b hb=>?_,.inr hrw⟩
   ·rw [show rowOf R=fX by unfold rowOf;rw [ht,cond_true]];exact g2
   ·rw [show rowOf R=fX by unfold rowOf;rw [ht,cond_true]];exact ah.scal rfl g3
   ·have hg:=hge b hb
    have hf:=H6.fut.size
    have hlo:=H6.lo
    have hlt:=H6.b7lt
    exact ⟨by omega,by omega,fun e=>by have:=(H6.deep.own.lt b e).2;omega,fun j r' _=>hrw b hb j r'⟩
  ·have hro:rowOf R=R.list:=by unfold rowOf;rw [hfl,cond_false]
   refine ⟨rfl,H6,r,(kp 8 (fun o ho e=>?_)).trans h8,?_,hfr8,.inl hr⟩
   ·have:jD st7 [8]=true:=by kernel_rfl
    have:=List.all_eq_true.1 this o ho
    rw [e] at this
    cases this
   ·rw [hro]
    exact D8.same fun b hb=>F6.block b (D8.lt hb) id
 rintro ex a6 w8 ⟨rfl,H,r8,h8,D8,hfr8,hcase⟩
 have hRl:(rowOf R).length=8:=nn hLr
 have hmod:(Int.tmod (m:Int) 8)=((m % 8:Nat):Int):=by
  rw [Int.tmod_eq_emod_of_nonneg (by omega)];omega
 obtain ⟨G2,hG2⟩:∃ G2:Nat→Value,G2=fun id=>if id=2 then r8 else .pointer none:=⟨_,rfl⟩
 have hg2:G2 2=r8:=by rw [hG2];rfl
 have hfl2:∀ id,(G2 id).oneCell' = true:=fun id=>by
  rw [hG2]
  by_cases h:id=2
  ·simp only [h,if_true];exact D8.one
  ·simp only [h,if_false];rfl
 refine wp_seq (lQ bx fl (n:=84) (id:=2) (ty:=46) (us:=rowOf R) (G:=G2) (Z:=fun b=>b < w8.heap.size∧r8.ownBlock≠some b) (env:=[(8,.own 2),(1,vi (.i (m:Int))),(3,.unk),(5,.rptr EC [a,b,d,e,g]),(7,.unk)]) (k:=fun σ=>get σ.env 8 = .own 2∧az σ.objs 2=some (.arr 46 (bj (rowOf R) (m % 8) [a,b,d,e,g]))) (by kernel_rfl) (by kernel_rfl) H.size (fun t=>?_) (fun _ h=>h.1) hfl2 ?_ (fun b hb h=>?_) ?_ ?_)
 ·rw [aF]
  split
  ·rename_i h;subst h;show a6.eval (.tmp 8)=G2 2;rw [hg2];exact h8
  rw [aF]
  split
  ·rename_i h;subst h;exact ⟨H.e1,hi⟩
  rw [aF]
  split
  ·trivial
  rw [aF]
  split
  ·rename_i h;subst h
   have hlo:=H.lo
   have hlt:=H.b7lt
   refine ⟨_,0,H.e5,⟨by omega,fun e=>?_⟩,bz.mono ⟨fun b hb=>?_,fun b hb=>H.old b (by have:=S.zlt b hb;omega)⟩ EC _ _ _ (H.old _ (by omega)) S.box5⟩
   ·have:=(hfr8 _ e).1;omega
   ·have:=S.zlt b hb
    refine ⟨by omega,fun e=>?_⟩
    have:=(hfr8 _ e).1;omega
  rw [aF]
  split<;>trivial
 ·obtain ⟨vs,g1,g2⟩:=D8
  exact ⟨true,EC,vs,cE,by rw [hg2];exact g1,ah.scal rfl g2⟩
 ·obtain ⟨vs,g1,_⟩:=D8
  rw [hg2,dk g1] at hb
  exact h.2 hb
 ·rw [CN,hmod]
  have hc1:decide ((0:Int)≤((m % 8:Nat):Int)∧((m % 8:Nat):Int) < ((rowOf R).length:Int))=true:=decide_eq_true ⟨by omega,by rw [hRl];omega⟩
  have hc2:Nat.blt (((m % 8:Nat):Int).toNat) (rowOf R).length=true:=by rw [hRl];simp [Nat.blt_eq];omega
  rw [hc1,cond_true,hc2,cond_true]
  exact ⟨rfl,rfl⟩
 rintro σ a7 w9 Z9 G9 ⟨k1,k2⟩ S9 kp9
 have F9:Fut (fun b=>r8.ownBlock=some b) w8 w9:=by
  have:=S9.fut
  obtain ⟨vs,g1,_⟩:=D8
  rw [hg2,dk g1] at this
  exact this
 have e8:a7.eval (.tmp 8)=r8:=(kp9 8 (fun o ho e=>by
  have:jD st9 [8]=true:=by kernel_rfl
  have:=List.all_eq_true.1 this o ho
  rw [e] at this
  cases this)).trans h8
 have hG9:G9 2=r8:=by
  have:=S9.slot 8
  rw [k1] at this
  have this:a7.eval (.tmp 8)=G9 2:=this
  rw [← this];exact e8
 have D9:gY w9 r8 (.l (bj (rowOf R) (m % 8) [a,b,d,e,g])):=by
  obtain ⟨m2,cs2,vs,g1,g2,g3⟩:=S9.obj 2 _ k2
  have g1:Cs PR 46=some (m2,cs2):=g1
  rw [cE] at g1
  cases g1
  rw [hG9] at g2
  exact ⟨vs,g2,ah.scal rfl g3⟩
 generalize hR2:bj (rowOf R) (m % 8) [a,b,d,e,g]=R2 at D9
 have hlo:=H.lo
 have hlt:=H.b7lt
 have ob9:∀ b,b < w8.heap.size→r8.ownBlock≠some b→w9.heap[b]? = w8.heap[b]?:=fun b hb hn=>F9.block b hb hn
 obtain ⟨L9,DL9,hL9s,hL9l⟩:∃ L9,eX (fun b=>w0.heap.size + 3≤b∧b≠B7) w9 vo rows L9∧(∀ u,L9.set (m / 8) u=L.set (m / 8) u)∧L9.length=L.length:=by
  rcases hcase with e | hne
  ·exact ⟨_,H.deep.poke e D9 ob9,fun u=>List.set_set ..,by simp⟩
  ·refine ⟨L,H.deep.same2 fun b hb h=>ob9 b hb fun e=>?_,fun _=>rfl,rfl⟩
   rcases h with h | ⟨j,r',hr',hb'⟩
   ·exact (hfr8 b e).2.2.1 h
   ·exact hne b e j r' hr' hb'
 have hlen8:w0.heap.size + 3≤w8.heap.size:=by omega
 have H9:StJ 84 w0 w3 B7 (m:Int) vo rows L9 a7 w9:=
  {size:=S9.size,calm:=S9.calm.trans H.calm,e1:=(aj (l:=[1,3,5,6,7]) (by kernel_rfl) kp9 rfl).trans H.e1,e3:=(aj (l:=[1,3,5,6,7]) (by kernel_rfl) kp9 rfl).trans H.e3,e5:=(aj (l:=[1,3,5,6,7]) (by kernel_rfl) kp9 rfl).trans H.e5
   e6:=(aj (l:=[1,3,5,6,7]) (by kernel_rfl) kp9 rfl).trans H.e6,e7:=(aj (l:=[1,3,5,6,7]) (by kernel_rfl) kp9 rfl).trans H.e7
   old:=fun b hb=>(ob9 b (by omega) fun e=>by have:=(hfr8 b e).1;omega).trans (H.old b hb)
   fut:=H.fut.trans F9 (fun _ h=>h) (fun b hb e=>by have:=(hfr8 b e).1;omega)
   b7:=(ob9 B7 hlt fun e=>(hfr8 B7 e).2.1 rfl).trans H.b7,deep:=DL9,lo:=hlo }
 clear DL9 S9 kp9 k1 k2 hG9 F9 ob9 hcase H D8 hlt
 refine wp_seq (wp_mono (Q:=fun ex a w=>ex = .normal∧StJ 84 w0 w3 B7 (m:Int) vo rows L9 a w∧∃ r,a.eval (.tmp 8)=r∧gY w r (.l (dY R2))∧(∀ b,r.ownBlock=some b→w0.heap.size + 3≤b∧b≠B7∧vo.ownBlock≠some b∧∀ (j:Nat) (r':Value),j≠m / 8→rows[j]? = some r'→r'.ownBlock≠some b)) ?_ ?_)
 ·refine wp_seq (wp_mono (ch (C:=KF) (ex:=[(8,vt EC (.l R2))]) (Z8:=fun b=>b < w9.heap.size) (k:=fun σ=>get σ.env 53=vb (.b (!dD R2))) rfl IW (fun _ _ h=>h) (by kernel_rfl) (by kernel_rfl) (by kernel_rfl) H9 S hi (fun p hp=>?_) (fun _ h=>h) ?_) ?_)
  ·have hp:p=(8,vt EC (.l R2)):=by simpa using hp
   subst hp
   show aR w9 _ (.sl true EC) (a7.eval (.tmp 8)) (.l R2)
   rw [e8]
   exact D9.rep fun b hb=>D9.lt hb
  ·rw [BR];exact ⟨⟨rfl,rfl⟩,rfl⟩
  rintro ex a8 w10 ⟨rfl,H10,F10,kp,σ,Z',G',hk,S'⟩
  have r53:=S'.slot 53
  rw [hk] at r53
  have r53:a8.eval (.tmp 53) = .bool (!dD R2):=r53
  refine wp_cond_split r53 (fun ht=>?_) (fun hfl=>wp_skip ?_)
  ·refine bJ bx fl (n:=84) (G:=fun _=>.pointer none) (Z:=fun b=>b < w10.heap.size) (env:=fo (m:Int) T [a,b,d,e,g] L9 []) (k:=fun σ=>get σ.env 8 = .own 1148∧az σ.objs 1148=some (.arr 46 [])) (by kernel_rfl) (by kernel_rfl) H10.size (H10.slots S hi (hnil _ _) (fun _ h=>h.elim)) (fun _ h=>h) (fun _=>rfl) ?_ ?_
   ·rw [Ae];exact ⟨rfl,rfl⟩
   rintro σ a9 w11 Z9 G9 ⟨k1,k2⟩ S9 kp9
   have F9:Fut (fun _=>False) w10 w11:=S9.fut
   have H11:=H10.next S9.size S9.calm (aj (l:=[1,3,5,6,7]) (by kernel_rfl) kp9 rfl) (aj (l:=[1,3,5,6,7]) (by kernel_rfl) kp9 rfl) (aj (l:=[1,3,5,6,7]) (by kernel_rfl) kp9 rfl) (aj (l:=[1,3,5,6,7]) (by kernel_rfl) kp9 rfl) (aj (l:=[1,3,5,6,7]) (by kernel_rfl) kp9 rfl) F9
   obtain ⟨m2,cs2,vs,g1,g2,g3⟩:=S9.obj 1148 _ k2
   have g1:Cs PR 46=some (m2,cs2):=g1
   rw [cE] at g1
   cases g1
   have r8':=S9.slot 8
   rw [k1] at r8'
   have r8':a9.eval (.tmp 8)=G9 1148:=r8'
   have hke:dY R2=[]:=by unfold dY;rw [ht,cond_true]
   refine ⟨rfl,H11,_,r8',⟨vs,by rw [hke];exact g2,by rw [hke];exact ah.scal rfl g3⟩,fun b hb=>?_⟩
   have hge:w10.heap.size≤b:=by
    rcases (S9.free 1148 _ b k2 (by rw [dk g2];exact hb)).2 with h | h | h
    ·exact h.elim
    ·exact h.elim
    ·exact h
   have hlt:=H10.b7lt
   have hlo:=H10.lo
   exact ⟨by omega,by omega,fun e=>by have:=(H10.deep.own.lt b e).2;omega,fun j r' _ hr' hb'=>by have:=(H10.deep.row j r' hr').lt hb';omega⟩
  ·have hke:dY R2=R2:=by unfold dY;rw [hfl,cond_false]
   refine ⟨rfl,H10,r8,(kp 8 (fun o ho e=>?_)).trans e8,?_,hfr8⟩
   ·have:jD FL [8]=true:=by kernel_rfl
    have:=List.all_eq_true.1 this o ho
    rw [e] at this
    cases this
   ·rw [hke]
    exact D9.same fun b hb=>F10.block b (D9.lt hb) id
 clear D9 hfr8 e8 H9
 rintro ex a8 w10 ⟨rfl,H,r9,h9,D9,hfr9⟩
 refine wp_seq (wp_mono (DD (d:=54) hm IS (by decide) H (by rw [hL9l];exact hLl) h9 D9 hfr9) ?_)
 rintro ex a9 w11 ⟨rfl,vo,rows,H⟩
 rw [hL9s] at H
 generalize hL2:L.set (m / 8) (.l (dY R2))=L2 at H
 have hL2l:L2.length < 1073741824:=by rw [← hL2,List.length_set];exact hLs
 refine wp_seq (wp_seq (wp_mono (ch (C:=KW) (ex:=[]) (k:=fun σ=>get σ.env 9=vi (.i (L2.length:Int))) rfl bx (fun _ _ h=>h) (by kernel_rfl) (by kernel_rfl) (by kernel_rfl) H S hi (hnil _ _) (fun _ h=>h.elim) ?_) ?_))
 ·rw [zM];rfl
 rintro ex a10 w12 ⟨rfl,H,_,_,σ,Z',G',hk,S'⟩
 have r9:=S'.slot 9
 rw [hk] at r9
 have r9:a10.eval (.tmp 9) = .int .i64 (L2.length:Int):=r9.1
 obtain ⟨Qp,hQp⟩:∃ Qp:Exit→Act→World→Prop,Qp=fun ex a w=>ex = .normal∧∃ vo rows,StJ 84 w0 w3 B7 (m:Int) vo rows (fj L2.length L2) a w:=⟨_,rfl⟩
 refine wp_mono (Q:=Qp) ?_ ?_
 ·refine wp_block (wp_loop_rounds (L2.length + 1) ?_)
  have key:∀ (n:Nat) (xs:List U) (a:Act) (w:World) (vo:Value) (rows:List Value),xs.length=n→n < 1073741824→fj n xs=fj L2.length L2→StJ 84 w0 w3 B7 (m:Int) vo rows xs a w→a.eval (.tmp 9) = .int .i64 (n:Int)→
    Code.rounds PR (.seq (.seq (.region (av (piece stC [1,1,1,1,1,1,1,1,1,0,1,0,0,0,0])) Fx false) (.cond (.tmp 74) .skip (.exit 2))) (.seq (.block 3 (piece stC [1,1,1,1,1,1,1,1,1,0,1,0,0,1,0,0])) (.region (av (piece stC [1,1,1,1,1,1,1,1,1,0,1,0,0,1,1])) GI false)))
     (Exit.inBlock 2 Qp) (n + 1) a w:=by
   intro n
   induction n with
   | zero=>
    intro xs a4 w4 vo rows hx _ hxs H h9
    rw [rounds_succ]
    refine wp_seq (wp_seq (wp_mono (ch (C:=KW) (ex:=[(9,vi (.i 0))]) (Z8:=fun _=>False) (k:=fun σ=>get σ.env 74=vb (.b false)) rfl bx (fun _ _ h=>h) (by kernel_rfl) (by kernel_rfl) (by kernel_rfl) H S hi (fun p hp=>?_) (fun _ h=>h.elim) ?_) ?_))
    ·have hp:p=(9,vi (.i 0)):=by simpa using hp
     subst hp
     exact ⟨h9,by decide,by decide⟩
    ·rw [rz];rfl
    rintro ex a5 w5 ⟨rfl,H5,_,_,σ,Z',G',hk',S'⟩
    have r74:=S'.slot 74
    rw [hk'] at r74
    have r74:a5.eval (.tmp 74) = .bool false:=r74
    refine wp_cond_split r74 (fun ht=>by cases ht) (fun _=>wp_exit ?_)
    show Exit.inBlock 2 Qp (.exit 2) a5 w5
    refine cC ?_
    rw [hQp]
    exact ⟨rfl,vo,rows,by rw [← hxs];exact H5⟩
   | succ n ih=>
    intro xs a4 w4 vo rows hx hn hxs H h9
    rw [rounds_succ]
    refine wp_seq (wp_seq (wp_mono (ch (C:=KW) (ex:=[(9,vi (.i ((n + 1:Nat):Int)))]) (Z8:=fun _=>False) (k:=fun σ=>get σ.env 74=vb (.b (((U.at xs n).list.length:Int) == 0))) rfl bx (fun _ _ h=>h) (by kernel_rfl) (by kernel_rfl) (by kernel_rfl) H S hi (fun p hp=>?_) (fun _ h=>h.elim) ?_) ?_))
    ·have hp:p=(9,vi (.i ((n + 1:Nat):Int))):=by simpa using hp
     subst hp
     exact ⟨h9,by show -(2 ^ 63:Int)≤((n + 1:Nat):Int);omega,by show ((n + 1:Nat):Int)≤2 ^ 63 - 1;omega⟩
    ·rw [rz]
     have hw:IntKind.i64.wrap ((U.i ((n + 1:Nat):Int)).int - 1)=(n:Int):=by
      rw [show (U.i ((n + 1:Nat):Int)).int - 1=(n:Int) by simp,i64_in (by omega) (by omega)]
     rw [hw]
     have c1:decide ((U.i ((n + 1:Nat):Int)).int > 0)=true:=decide_eq_true (by show ((n + 1:Nat):Int) > 0;omega)
     have c2:decide ((0:Int)≤(n:Int)∧(n:Int) < ((nth (.i 0) (List.drop 0 [U.l xs]) 0).list.length:Int))=true:=decide_eq_true ⟨by omega,by show (n:Int) < (xs.length:Int);omega⟩
     rw [c1,cond_true,c2,cond_true]
     rfl
    rintro ex a5 w5 ⟨rfl,H5,F5,kp5,σ,Z',G',hk',S'⟩
    have r74:=S'.slot 74
    rw [hk'] at r74
    have r74:a5.eval (.tmp 74) = .bool (((U.at xs n).list.length:Int) == 0):=r74
    have h95:a5.eval (.tmp 9) = .int .i64 ((n + 1:Nat):Int):=(aj (l:=[9]) (by kernel_rfl) kp5 rfl).trans h9
    refine wp_cond_split r74 (fun ht=>wp_skip ?_) (fun hf=>wp_exit ?_)
    ·refine wp_seq (wp_block (wp_mono (Fz (d:=77) (show n < 1073741824 by omega) Jn (by decide) H5 h95 (by omega)) ?_))
     rintro ex a6 w6 ⟨rfl,vo',rows',H6,h96⟩
     refine wp_mono (ch (C:=KW) (ex:=[(9,vi (.i ((n + 1:Nat):Int)))]) (Z8:=fun _=>False) (k:=fun σ=>get σ.env 9=vi (.i (n:Int))) rfl bx (fun _ _ h=>h) (by kernel_rfl) (by kernel_rfl) (by kernel_rfl) H6 S hi (fun p hp=>?_) (fun _ h=>h.elim) ?_) ?_
     ·have hp:p=(9,vi (.i ((n + 1:Nat):Int))):=by simpa using hp
      subst hp
      exact ⟨h96,by show -(2 ^ 63:Int)≤((n + 1:Nat):Int);omega,by show ((n + 1:Nat):Int)≤2 ^ 63 - 1;omega⟩
     ·rw [AV]
      have hw:IntKind.i64.wrap ((U.i ((n + 1:Nat):Int)).int - 1)=(n:Int):=by
       rw [show (U.i ((n + 1:Nat):Int)).int - 1=(n:Int) by simp,i64_in (by omega) (by omega)]
      rw [hw];rfl
     rintro ex a7 w7 ⟨rfl,H7,_,_,σ,Z',G',hk7,S7⟩
     have r9:=S7.slot 9
     rw [hk7] at r9
     refine ih (xs.take n) a7 w7 vo' rows' (by rw [List.length_take];omega) (by omega) ?_ H7 r9.1
     rw [← hxs]
     show _=bif ((U.at xs n).list.length:Int) == 0 then fj n (xs.take n) else xs
     rw [ht,cond_true]
    ·show Exit.inBlock 2 Qp (.exit 2) a5 w5
     refine cC ?_
     rw [hQp]
     refine ⟨rfl,vo,rows,?_⟩
     rw [← hxs]
     show StJ 84 w0 w3 B7 (m:Int) vo rows (bif ((U.at xs n).list.length:Int) == 0 then fj n (xs.take n) else xs) a5 w5
     rw [hf,cond_false]
     exact H5
  exact key L2.length L2 a10 w12 vo rows rfl hL2l rfl H r9
 rw [hQp]
 rintro ex a11 w13 ⟨rfl,vo,rows,H⟩
 refine wp_mono (pG (d:=83) JB (by decide) hres hrt S H) ?_
 rintro ex a' w' ⟨rfl,h⟩
 show Qf .ret a' w'
 rw [hQf]
 have hset:setR T.list m [a,b,d,e,g]=fj L2.length L2:=by
  unfold setR
  simp only [hL,hU,hR2,hL2]
 rw [hset]
 exact h
end Go.Mat

namespace Go.Mat
open Go Go.Den Go.Proofs
noncomputable def KB:Ctx:=(mkC PR bM (aH 55 wQ aK) aL aC aq aq).panics fun _ _=>False
noncomputable def suC:Code:=bh Tryz.f27
noncomputable def su2:Array Oper:=ax (piece suC [1,1,0,0])
noncomputable def su4:Array Oper:=ax (piece suC [1,1,1,0,0])
noncomputable def su6:Array Oper:=ax (piece suC [1,1,1,1,0,0,0,0,0])
noncomputable def su9:Array Oper:=ax (piece suC [1,1,1,1,1,1,0,0])
noncomputable def Iu:Array Oper:=ax (piece suC [1,1,1,1,1,1,0,1,0])
noncomputable def FO:Array Oper:=ax (piece suC [1,1,1,1,1,1,1,0])
noncomputable def HK:Array Oper:=ax (piece suC [1,1,1,1,1,1,1,1,0])
noncomputable def ID:Array Oper:=ax (piece suC [1,1,1,1,1,1,1,1,1,0,0])
noncomputable def H0:Array Oper:=ax (piece suC [1,1,1,1,1,1,1,1,1,0,1,0,0,0,0])
noncomputable def II:Array Oper:=ax (piece suC [1,1,1,1,1,1,1,1,1,0,1,0,0,1,0,0])
noncomputable def HT:Array Oper:=ax (piece suC [1,1,1,1,1,1,1,1,1,0,1,0,0,1,1])
noncomputable def FV:Array Oper:=ax (piece suC [1,1,1,1,1,1,1,1,1,1,0,0])
noncomputable def HD:Array Oper:=ax (piece suC [1,1,1,1,1,1,1,1,1,1,0,1,0])
noncomputable def GJ:Array Oper:=ax (piece suC [1,1,1,1,1,1,1,1,1,1,1,1,0,0,0,0,0])
theorem EY (k:KSt) (i:Int) (T a b d e g:U) (xs:List U):(ak KB su2.toList su2.toList ⟨fo i T [a,b,d,e,g] xs [],[]⟩ k)=(bif decide (i < 0) then k (St.mk [(24,.val .bool (U.b true)),(23,.und),(19,.val .bool (U.b true)),(22,.und),(19,.val .bool (U.b true)),(21,.und),(19,.val .bool (U.b true)),(20,.und),(19,.val .bool (U.b true)),(19,.val .bool (U.b true)),(18,.val .bool (U.b true)),(17,.und),(15,.val .bool (U.b true)),(16,.und),(15,.val .bool (U.b true)),(15,.val .bool (U.b (decide (i < 0)))),(14,.val .bool (U.b (decide (i < 0)))),(13,vi (U.i i)),(1,vi (U.i i)),(3,.rptr [.sl false [.sl true EC]] [T]),(5,.rptr EC [a,b,d,e,g]),(7,.rptr [.sl false [.sl true EC]] [U.l xs])] []) else bif decide (i ≥ 4096) then k (St.mk [(24,.val .bool (U.b true)),(23,.und),(19,.val .bool (U.b true)),(22,.und),(19,.val .bool (U.b true)),(21,.und),(19,.val .bool (U.b true)),(20,.und),(19,.val .bool (U.b true)),(19,.val .bool (U.b (decide (i ≥ 4096)))),(18,.val .bool (U.b (decide (i ≥ 4096)))),(17,.val .bool (U.b (decide (i ≥ 4096)))),(15,.val .bool (U.b false)),(16,vi (U.i i)),(15,.val .bool (U.b false)),(15,.val .bool (U.b (decide (i < 0)))),(14,.val .bool (U.b (decide (i < 0)))),(13,vi (U.i i)),(1,vi (U.i i)),(3,.rptr [.sl false [.sl true EC]] [T]),(5,.rptr EC [a,b,d,e,g]),(7,.rptr [.sl false [.sl true EC]] [U.l xs])] []) else k (St.mk [(24,.val .bool (U.b !bl T.list a.int b.int d.int e.int g.int (7:Nat) 0)),(23,.val .bool (U.b !bl T.list a.int b.int d.int e.int g.int (7:Nat) 0)),(19,.val .bool (U.b false)),(22,.val .bool (U.b (bl T.list a.int b.int d.int e.int g.int (7:Nat) 0))),(19,.val .bool (U.b false)),(21,.agg [vi a,vi b,vi d,vi e,.val (.int .u32) g]),(19,.val .bool (U.b false)),(20,.agg [.val (.sl false [.sl true EC]) T]),(19,.val .bool (U.b false)),(19,.val .bool (U.b (decide (i ≥ 4096)))),(18,.val .bool (U.b (decide (i ≥ 4096)))),(17,.val .bool (U.b (decide (i ≥ 4096)))),(15,.val .bool (U.b false)),(16,vi (U.i i)),(15,.val .bool (U.b false)),(15,.val .bool (U.b (decide (i < 0)))),(14,.val .bool (U.b (decide (i < 0)))),(13,vi (U.i i)),(1,vi (U.i i)),(3,.rptr [.sl false [.sl true EC]] [T]),(5,.rptr EC [a,b,d,e,g]),(7,.rptr [.sl false [.sl true EC]] [U.l xs])] [])):=by kernel_rfl
theorem Db (k:KSt) (i:Int) (T a b d e g:U) (xs:List U):(ak KW su4.toList su4.toList ⟨fo i T [a,b,d,e,g] xs [],[]⟩ k)=(bif U.int (nth (.i 0) (List.drop (0:Nat) [a,b,d,e,g]) 0) == 0 then k (St.mk [(36,.val .bool (U.b (decide (IntKind.wrap .i64 (Int.tdiv i 8) ≥ (↑(List.length (U.list (nth (.i 0) (List.drop (0:Nat) [U.l xs]) 0))):Int))))),(35,.val .bool (U.b (decide (IntKind.wrap .i64 (Int.tdiv i 8) ≥ (↑(List.length (U.list (nth (.i 0) (List.drop (0:Nat) [U.l xs]) 0))):Int))))),(29,.val .bool (U.b true)),(34,vi (U.i (↑(List.length (U.list (nth (.i 0) (List.drop (0:Nat) [U.l xs]) 0))):Int))),(29,.val .bool (U.b true)),(33,.val (.sl false [.sl true EC]) (U.l xs)),(29,.val .bool (U.b true)),(32,.rptr [.sl false [.sl true EC]] [U.l xs]),(29,.val .bool (U.b true)),(31,vi (U.i (IntKind.wrap .i64 (Int.tdiv i 8)))),(29,.val .bool (U.b true)),(30,vi (U.i i)),(29,.val .bool (U.b true)),(29,.val .bool (U.b (U.int (nth (.i 0) (List.drop (0:Nat) [a,b,d,e,g]) 0) == 0))),(28,.val .bool (U.b (U.int (nth (.i 0) (List.drop (0:Nat) [a,b,d,e,g]) 0) == 0))),(27,vi (nth (.i 0) (List.drop (0:Nat) [a,b,d,e,g]) 0)),(26,.rptr EC [a,b,d,e,g]),(1,vi (U.i i)),(3,.rptr [.sl false [.sl true EC]] [T]),(5,.rptr EC [a,b,d,e,g]),(7,.rptr [.sl false [.sl true EC]] [U.l xs])] []) else k (St.mk [(36,.val .bool (U.b false)),(35,.und),(29,.val .bool (U.b false)),(34,.und),(29,.val .bool (U.b false)),(33,.und),(29,.val .bool (U.b false)),(32,.und),(29,.val .bool (U.b false)),(31,.und),(29,.val .bool (U.b false)),(30,.und),(29,.val .bool (U.b false)),(29,.val .bool (U.b (U.int (nth (.i 0) (List.drop (0:Nat) [a,b,d,e,g]) 0) == 0))),(28,.val .bool (U.b (U.int (nth (.i 0) (List.drop (0:Nat) [a,b,d,e,g]) 0) == 0))),(27,vi (nth (.i 0) (List.drop (0:Nat) [a,b,d,e,g]) 0)),(26,.rptr EC [a,b,d,e,g]),(1,vi (U.i i)),(3,.rptr [.sl false [.sl true EC]] [T]),(5,.rptr EC [a,b,d,e,g]),(7,.rptr [.sl false [.sl true EC]] [U.l xs])] [])):=by kernel_rfl
theorem wc (k:KSt) (i:Int) (T a b d e g:U) (xs:List U):(ak KW su6.toList su6.toList ⟨fo i T [a,b,d,e,g] xs [],[]⟩ k)=(k (St.mk [(43,SV.val Ct.bool (U.b (decide ((↑(List.length (U.list (nth (U.i 0) (List.drop (0:Nat) [U.l xs]) (0:Nat)))):Int)≤IntKind.wrap IntKind.i64 (Int.tdiv i 8))))),(42,vi (U.i (IntKind.wrap
 IntKind.i64 (Int.tdiv i 8)))),(41,vi (U.i i)),(40,vi (U.i (↑(List.length (U.list (nth (U.i 0) (List.drop (0:Nat) [U.l xs]) (0:Nat)))):Int))),(39,SV.val (Ct.sl false [Ct.sl true EC]) (U.l xs)),
 (38,SV.rptr [Ct.sl false [Ct.sl true EC]] [U.l xs]),(1,vi (U.i i)),(3,SV.rptr [Ct.sl false [Ct.sl true EC]] [T]),(5,SV.rptr EC [a,b,d,e,g]),(7,SV.rptr [Ct.sl false [Ct.sl true EC]] [U.l xs])]
 [])):=by kernel_rfl
theorem B6 (k:KSt) (i:Int) (T R a b d e g:U) (xs:List U):(ak KW su9.toList su9.toList ⟨fo i T [a,b,d,e,g] xs [(8,vt EC R)],[]⟩ k)=(k (St.mk [(57,SV.val Ct.bool (U.b ((↑(List.length R.list):Int) == 0))),(56,vi (U.i (↑(List.length R.list):Int))),(55,SV.val (Ct.sl true EC) R),(8,SV.val (Ct.sl true EC) R),(1,vi (U.i i)),
 (3,SV.rptr [Ct.sl false [Ct.sl true EC]] [T]),(5,SV.rptr EC [a,b,d,e,g]),(7,SV.rptr [Ct.sl false [Ct.sl true EC]] [U.l xs])] [])):=by kernel_rfl
theorem z5 (k:KSt) (i:Int) (T a b d e g:U) (xs:List U):(ak KW Iu.toList Iu.toList ⟨fo i T [a,b,d,e,g] xs [],[]⟩ k)=(k (St.mk [(8,SV.own 7550),(58,SV.own 7550),(1,vi (U.i i)),(3,SV.rptr [Ct.sl false [Ct.sl true EC]] [T]),(5,SV.rptr EC [a,b,d,e,g]),(7,SV.rptr [Ct.sl false [Ct.sl true EC]] [U.l xs])] [(7550,
 Obj.arr 46 [U.l [U.i 0,U.i 0,U.i 0,U.i 0,U.i 0],U.l [U.i 0,U.i 0,U.i 0,U.i 0,U.i 0],U.l [U.i 0,U.i 0,U.i 0,U.i 0,U.i 0],U.l [U.i 0,U.i 0,U.i 0,U.i 0,U.i 0],U.l [U.i 0,U.i 0,U.i 0,
 U.i 0,U.i 0],U.l [U.i 0,U.i 0,U.i 0,U.i 0,U.i 0],U.l [U.i 0,U.i 0,U.i 0,U.i 0,U.i 0],U.l [U.i 0,U.i 0,U.i 0,U.i 0,U.i 0]])])):=by kernel_rfl
theorem zY (k:KSt) (i:Int) (a b d e g:U) (R:List U):(ak KW FO.toList FO.toList ⟨[(8,.own 2),(1,vi (.i i)),(3,.unk),(5,.rptr EC [a,b,d,e,g]),(7,.unk)],[(2,.arr 46 R)]⟩ k)=(bif decide ((0:Int)≤Int.tmod i 8∧Int.tmod i (8:Int) < (↑(List.length R):Int)) then bif Nat.blt (Int.toNat (Int.tmod i 8)) (List.length R) then k (St.mk [(63,SV.aptr 2 5 (Int.toNat (Int.tmod
 i 8)) 0),(62,SV.agg [vi a,vi b,vi d,vi e,SV.val (.int .u32) g]),(61,vi (U.i (Int.tmod i 8))),(60,vi (U.i i)),(59,SV.own 2),(8,SV.own 2),(1,vi (U.i i)),(3,SV.unk),(5,SV.rptr EC [a,b,
 d,e,g]),(7,SV.unk)] [(2,Obj.arr 46 (List.set R (Int.toNat (Int.tmod i 8)) (U.l (c4 (U.list (nth (U.i 0) R (Int.toNat (Int.tmod i 8)))) (0:Nat) [a,b,d,e,g]))))]) else False else False):=by kernel_rfl
theorem zL (k:KSt) (i:Int) (T a b d e g:U) (xs:List U):(ak KW HK.toList HK.toList ⟨fo i T [a,b,d,e,g] xs [],[]⟩ k)=(k (St.mk [(9,SV.val Ct.bool (U.b false)),(1,vi (U.i i)),(3,SV.rptr [Ct.sl false [Ct.sl true EC]] [T]),(5,SV.rptr EC [a,b,d,e,g]),(7,SV.rptr [Ct.sl false [Ct.sl true EC]] [U.l xs])] [])):=by kernel_rfl
theorem zQ (k:KSt) (i:Int) (T a b d e g:U) (xs:List U):(ak KW ID.toList ID.toList ⟨fo i T [a,b,d,e,g] xs [],[]⟩ k)=(k (St.mk [(10,vi (U.i 0)),(1,vi (U.i i)),(3,SV.rptr [Ct.sl false [Ct.sl true EC]] [T]),(5,SV.rptr EC [a,b,d,e,g]),(7,SV.rptr [Ct.sl false [Ct.sl true EC]] [U.l xs])] [])):=by kernel_rfl
theorem BW (k:KSt) (i:Int) (T a b d e g n:U) (xs:List U):(ak KW H0.toList H0.toList ⟨fo i T [a,b,d,e,g] xs [(10,vi n)],[]⟩ k)=(k (St.mk [(65,SV.val Ct.bool (U.b (decide (n.int < 8)))),(64,vi n),(10,vi n),(1,vi (U.i i)),(3,SV.rptr [Ct.sl false [Ct.sl true EC]] [T]),(5,SV.rptr EC [a,b,d,e,g]),(7,SV.rptr [Ct.sl false
 [Ct.sl true EC]] [U.l xs])] [])):=by kernel_rfl
theorem Bt (k:KSt) (i:Int) (s:Bool) (T R a b d e g n:U) (xs:List U):(ak KW II.toList II.toList ⟨fo i T [a,b,d,e,g] xs [(8,vt EC R),(9,vb (.b s)),(10,vi n)],[]⟩ k)=(bif s then k (St.mk [(9,.val .bool (U.b true)),(76,.val .bool (U.b true)),(75,.und),(69,.val .bool (U.b true)),(74,.und),(69,.val .bool (U.b true)),(73,.und),(69,.val .bool (U.b true)),(72,.und),(69,.val .bool (U.b true)),(71,.und),(69,.val .bool (U.b true)),(70,.und),(69,.val .bool (U.b true)),(69,.val .bool (U.b s)),(68,.val .bool (U.b s)),(8,.val (.sl true EC) R),(9,.val .bool (U.b s)),(10,vi n),(1,vi (U.i i)),(3,.rptr [.sl false [.sl true EC]] [T]),(5,.rptr EC [a,b,d,e,g]),(7,.rptr [.sl false [.sl true EC]] [U.l xs])] []) else bif decide ((0:Int)≤n.int∧n.int < (R.list.length:Int)) then k (St.mk [(9,.val .bool (U.b (U.int (nth (.i 0) (List.drop (0:Nat) (U.list (nth (.i 0) R.list n.int.toNat))) 0) != 0))),(76,.val .bool (U.b (U.int (nth (.i 0) (List.drop (0:Nat) (U.list (nth (.i 0) R.list n.int.toNat))) 0) != 0))),(75,.val .bool (U.b (U.int (nth (.i 0) (List.drop (0:Nat) (U.list (nth (.i 0) R.list n.int.toNat))) 0) != 0))),(69,.val .bool (U.b false)),(74,vi (nth (.i 0) (List.drop (0:Nat) (U.list (nth (.i 0) R.list n.int.toNat))) 0)),(69,.val .bool (U.b false)),(73,.rptr EC (List.drop (0:Nat) (U.list (nth (.i 0) R.list n.int.toNat)))),(69,.val .bool (U.b false)),(72,.rptr EC (U.list (nth (.i 0) R.list n.int.toNat))),(69,.val .bool (U.b false)),(71,vi n),(69,.val .bool (U.b false)),(70,.val (.sl true EC) R),(69,.val .bool (U.b false)),(69,.val .bool (U.b s)),(68,.val .bool (U.b s)),(8,.val (.sl true EC) R),(9,.val .bool (U.b s)),(10,vi n),(1,vi (U.i i)),(3,.rptr [.sl false [.sl true EC]] [T]),(5,.rptr EC [a,b,d,e,g]),(7,.rptr [.sl false [.sl true EC]] [U.l xs])] []) else False):=by kernel_rfl
theorem Ak (k:KSt) (i:Int) (T a b d e g n:U) (xs:List U):(ak KW HT.toList HT.toList ⟨fo i T [a,b,d,e,g] xs [(10,vi n)],[]⟩ k)=(k (St.mk [(10,vi (U.i (IntKind.wrap IntKind.i64 (n.int + 1)))),(67,vi (U.i (IntKind.wrap IntKind.i64 (n.int + 1)))),(66,vi n),(10,vi n),(1,vi (U.i i)),(3,SV.rptr [Ct.sl false [Ct.sl true EC]]
 [T]),(5,SV.rptr EC [a,b,d,e,g]),(7,SV.rptr [Ct.sl false [Ct.sl true EC]] [U.l xs])] [])):=by kernel_rfl
theorem zR (k:KSt) (i:Int) (s:Bool) (T a b d e g:U) (xs:List U):(ak KW FV.toList FV.toList ⟨fo i T [a,b,d,e,g] xs [(9,vb (.b s))],[]⟩ k)=(k (St.mk [(78,SV.val Ct.bool (U.b !s)),(77,SV.val Ct.bool (U.b s)),(9,SV.val Ct.bool (U.b s)),(1,vi (U.i i)),(3,SV.rptr [Ct.sl false [Ct.sl true EC]] [T]),(5,SV.rptr EC [a,b,d,e,g]),(7,
 SV.rptr [Ct.sl false [Ct.sl true EC]] [U.l xs])] [])):=by kernel_rfl
theorem Ap (k:KSt) (i:Int) (T a b d e g:U) (xs:List U):(ak KW HD.toList HD.toList ⟨fo i T [a,b,d,e,g] xs [],[]⟩ k)=(k (St.mk [(8,SV.own 1148),(1,vi (U.i i)),(3,SV.rptr [Ct.sl false [Ct.sl true EC]] [T]),(5,SV.rptr EC [a,b,d,e,g]),(7,SV.rptr [Ct.sl false [Ct.sl true EC]] [U.l xs])] [(1148,Obj.arr 46 [])])):=by kernel_rfl
theorem rN (k:KSt) (i:Int) (T a b d e g:U) (xs:List U):(ak KW GJ.toList GJ.toList ⟨fo i T [a,b,d,e,g] xs [],[]⟩ k)=(bif decide ((↑(List.length (U.list (nth (.i 0) (List.drop (0:Nat) [U.l xs]) 0))):Int) > 0) then bif decide ((0:Int)≤IntKind.wrap .i64 ((↑(List.length (U.list (nth (.i 0) (List.drop (0:Nat) [U.l xs]) 0))):Int) - 1)∧IntKind.wrap .i64 ((↑(List.length (U.list (nth (.i 0) (List.drop (0:Nat) [U.l xs]) 0))):Int) - 1) < (↑(List.length (U.list (nth (.i 0) (List.drop (0:Nat) [U.l xs]) 0))):Int)) then k (St.mk [(100,.val .bool (U.b ((↑(List.length (U.list (nth (.i 0) (U.list (nth (.i 0) (List.drop (0:Nat) [U.l xs]) 0)) (Int.toNat (IntKind.wrap .i64 ((↑(List.length (U.list (nth (.i 0) (List.drop (0:Nat) [U.l xs]) 0))):Int) - 1)))))):Int) == 0))),(99,.val .bool (U.b ((↑(List.length (U.list (nth (.i 0) (U.list (nth (.i 0) (List.drop (0:Nat) [U.l xs]) 0)) (Int.toNat (IntKind.wrap .i64 ((↑(List.length (U.list (nth (.i 0) (List.drop (0:Nat) [U.l xs]) 0))):Int) - 1)))))):Int) == 0))),(89,.val .bool (U.b true)),(98,vi (U.i (↑(List.length (U.list (nth (.i 0) (U.list (nth (.i 0) (List.drop (0:Nat) [U.l xs]) 0)) (Int.toNat (IntKind.wrap .i64 ((↑(List.length (U.list (nth (.i 0) (List.drop (0:Nat) [U.l xs]) 0))):Int) - 1)))))):Int))),(89,.val .bool (U.b true)),(97,.val (.sl true EC) (nth (.i 0) (U.list (nth (.i 0) (List.drop (0:Nat) [U.l xs]) 0)) (Int.toNat (IntKind.wrap .i64 ((↑(List.length (U.list (nth (.i 0) (List.drop (0:Nat) [U.l xs]) 0))):Int) - 1))))),(89,.val .bool (U.b true)),(96,.rptr [.sl true EC] [nth (.i 0) (U.list (nth (.i 0) (List.drop (0:Nat) [U.l xs]) 0)) (Int.toNat (IntKind.wrap .i64 ((↑(List.length (U.list (nth (.i 0) (List.drop (0:Nat) [U.l xs]) 0))):Int) - 1)))]),(89,.val .bool (U.b true)),(95,vi (U.i (IntKind.wrap .i64 ((↑(List.length (U.list (nth (.i 0) (List.drop (0:Nat) [U.l xs]) 0))):Int) - 1)))),(89,.val .bool (U.b true)),(94,vi (U.i (↑(List.length (U.list (nth (.i 0) (List.drop (0:Nat) [U.l xs]) 0))):Int))),(89,.val .bool (U.b true)),(93,.val (.sl false [.sl true EC]) (U.l xs)),(89,.val .bool (U.b true)),(92,.rptr [.sl false [.sl true EC]] [U.l xs]),(89,.val .bool (U.b true)),(91,.val (.sl false [.sl true EC]) (U.l xs)),(89,.val .bool (U.b true)),(90,.rptr [.sl false [.sl true EC]] [U.l xs]),(89,.val .bool (U.b true)),(89,.val .bool (U.b (decide ((↑(List.length (U.list (nth (.i 0) (List.drop (0:Nat) [U.l xs]) 0))):Int) > 0)))),(88,.val .bool (U.b (decide ((↑(List.length (U.list (nth (.i 0) (List.drop (0:Nat) [U.l xs]) 0))):Int) > 0)))),(87,vi (U.i (↑(List.length (U.list (nth (.i 0) (List.drop (0:Nat) [U.l xs]) 0))):Int))),(86,.val (.sl false [.sl true EC]) (U.l xs)),(85,.rptr [.sl false [.sl true EC]] [U.l xs]),(1,vi (U.i i)),(3,.rptr [.sl false [.sl true EC]] [T]),(5,.rptr EC [a,b,d,e,g]),(7,.rptr [.sl false [.sl true EC]] [U.l xs])] []) else False else k (St.mk [(100,.val .bool (U.b false)),(99,.und),(89,.val .bool (U.b false)),(98,.und),(89,.val .bool (U.b false)),(97,.und),(89,.val .bool (U.b false)),(96,.und),(89,.val .bool (U.b false)),(95,.und),(89,.val .bool (U.b false)),(94,.und),(89,.val .bool (U.b false)),(93,.und),(89,.val .bool (U.b false)),(92,.und),(89,.val .bool (U.b false)),(91,.und),(89,.val .bool (U.b false)),(90,.und),(89,.val .bool (U.b false)),(89,.val .bool (U.b (decide ((↑(List.length (U.list (nth (.i 0) (List.drop (0:Nat) [U.l xs]) 0))):Int) > 0)))),(88,.val .bool (U.b (decide ((↑(List.length (U.list (nth (.i 0) (List.drop (0:Nat) [U.l xs]) 0))):Int) > 0)))),(87,vi (U.i (↑(List.length (U.list (nth (.i 0) (List.drop (0:Nat) [U.l xs]) 0))):Int))),(86,.val (.sl false [.sl true EC]) (U.l xs)),(85,.rptr [.sl false [.sl true EC]] [U.l xs]),(1,vi (U.i i)),(3,.rptr [.sl false [.sl true EC]] [T]),(5,.rptr EC [a,b,d,e,g]),(7,.rptr [.sl false [.sl true EC]] [U.l xs])] [])):=by kernel_rfl
end Go.Mat

namespace Go.Mat
open Go Go.Den Go.Proofs Go.RowKit
set_option maxRecDepth 100000
def di (R:List U):Nat→Bool
 | 0=>false
 | j + 1=>bif di R j then true else (U.at (U.at R j).list 0).int != 0
def iY (R:List U):List U:=bif !di R 8 then [] else R
def xU (T:List U) (m:Nat) (e:List U):List U:=
 let L:=bm T (m / 8 + 1 - T.length)
 let L2:=L.set (m / 8) (.l (iY (bj (rowOf (U.at L (m / 8))) (m % 8) e)))
 fj L2.length L2
def jQ (T:List U) (i:Int) (a b d e g:U):List U:=bif decide (i < 0) || (decide (i ≥ 4096) || !bl T a.int b.int d.int e.int g.int 7 0) then T else
 bif (a.int == 0) && decide (((i.toNat / 8:Nat):Int) ≥ (T.length:Int)) then T else xU T i.toNat [a,b,d,e,g]
def Dq:List (List U)→List (List U):=fun us=>[[.l (jQ (nth (.i 0) (nth [] us 0) 0).list (nth (.i 0) (nth [] us 1) 0).int (nth (.i 0) (nth [] us 2) 0) (nth (.i 0) (nth [] us 2) 1) (nth (.i 0) (nth [] us 2) 2) (nth (.i 0) (nth [] us 2) 3) (nth (.i 0) (nth [] us 2) 4))]]
theorem Jm:KB.Ok:=(aB ao af (.cons Ft .nil) .nil).panics _
theorem jJ {n c:Int}:∀ {T:List U} {i:Int},bq n c i T=true→∀ j,j < T.length→(U.at T j).list.length=0∨(U.at T j).list.length=8
 | [],_,_,j,hj=>by simp at hj
 | l :: r,i,h,j,hj=>by
  unfold bq at h
  split at h
  ·rename_i h0
   cases j with
   | zero=>exact .inl (by show l.list.length=0;rw [h0];rfl)
   | succ j=>exact jJ h j (by simpa using hj)
  ·simp only [Bool.and_eq_true] at h
   cases j with
   | zero=>
    have h1:=h.1
    unfold ed at h1
    simp only [Bool.and_eq_true,decide_eq_true_eq] at h1
    exact .inr h1.1.1
   | succ j=>exact jJ h.2 j (by simpa using hj)
theorem uX {T:List U} {n c:Int} (h:b8 T n c=true):∀ j,j < T.length→(U.at T j).list.length=0∨(U.at T j).list.length=8:=by
 unfold b8 at h
 split at h
 ·cases h
 ·simp only [Bool.and_eq_true] at h
  exact jJ h.2
theorem pL {T:List U} {a b d e g:Int}:∀ {n:Nat} {c:Int},bl T a b d e g n c=true→∀ j,j < T.length→(U.at T j).list.length=0∨(U.at T j).list.length=8
 | 0,_,h=>by cases h
 | n + 1,c,h=>by
  have key:∀ x y z:Bool,(bif x then (bif y then true else z) else z)=true→z=true∨x=true:=by intro x y z;cases x<;>cases y<;>simp
  rcases key _ _ _ h with h | h
  ·exact pL h
  ·exact uX h
theorem Ge:bh Tryz.f27 = .seq (piece suC [0]) (.seq (piece suC [1,0]) (.seq (.seq (.region (av (piece suC [1,1,0,0])) su2 false) (.cond (.tmp 24) (.seq (piece suC [1,1,0,1,0,0]) (.ret)) (.skip))) (.seq (.seq (.region (av (piece suC [1,1,1,0,0])) su4 false) (.cond (.tmp 36) (.seq (piece suC [1,1,1,0,1,0,0]) (.ret)) (.skip))) (.seq (.block 0 (.loop (.seq (.seq (.region (av (piece suC [1,1,1,1,0,0,0,0,0])) su6 false) (.cond (.tmp 43) (.skip) (.exit 0))) (.block 1 (piece suC [1,1,1,1,0,0,0,1,0]))))) (.seq (piece suC [1,1,1,1,1,0]) (.seq (.seq (.region (av (piece suC [1,1,1,1,1,1,0,0])) su9 false) (.cond (.tmp 57) (.region (av (piece suC [1,1,1,1,1,1,0,1,0])) Iu false) (.skip))) (.seq (.region (av (piece suC [1,1,1,1,1,1,1,0])) FO false) (.seq (.region (av (piece suC [1,1,1,1,1,1,1,1,0])) HK false) (.seq (.seq (.region (av (piece suC [1,1,1,1,1,1,1,1,1,0,0])) ID false) (.block 2 (.loop (.seq (.seq (.region (av (piece suC [1,1,1,1,1,1,1,1,1,0,1,0,0,0,0])) H0 false) (.cond (.tmp 65) (.skip) (.exit 2))) (.seq (.block 3 (.region (av (piece suC [1,1,1,1,1,1,1,1,1,0,1,0,0,1,0,0])) II false)) (.region (av (piece suC [1,1,1,1,1,1,1,1,1,0,1,0,0,1,1])) HT false)))))) (.seq (.seq (.region (av (piece suC [1,1,1,1,1,1,1,1,1,1,0,0])) FV false) (.cond (.tmp 78) (.region (av (piece suC [1,1,1,1,1,1,1,1,1,1,0,1,0])) HD false) (.skip))) (.seq (piece suC [1,1,1,1,1,1,1,1,1,1,1,0]) (.seq (.block 4 (.loop (.seq (.seq (.region (av (piece suC [1,1,1,1,1,1,1,1,1,1,1,1,0,0,0,0,0])) GJ false) (.cond (.tmp 100) (.skip) (.exit 4))) (.block 5 (piece suC [1,1,1,1,1,1,1,1,1,1,1,1,0,0,0,1,0]))))) (.seq (piece suC [1,1,1,1,1,1,1,1,1,1,1,1,1,0]) (.ret)))))))))))))):=by kernel_rfl
theorem JQ:cd (piece suC [0]) [(some 3,.box 24 (.tmp 0)),(some 5,.box 46 (.tmp 2)),(some 6,.alloc 24)]:=⟨av (piece suC [0]),ax (piece suC [0]),by kernel_rfl,by kernel_rfl,by kernel_rfl⟩
theorem JO:cd (piece suC [1,0]) [(some 11,.load 24 (.tmp 3)),(some (11 + 1),.call { callee:=.value (.func 15),args:=#[.tmp 11],argTypes:=#[24] }),(some 7,.alloc 24),(none,.store 24 (.tmp 7) (.tmp (11 + 1)))]:=⟨av (piece suC [1,0]),ax (piece suC [1,0]),by kernel_rfl,by kernel_rfl,by kernel_rfl⟩
theorem JJ:cd (piece suC [1,1,0,1,0,0]) [(some 25,.load 24 (.tmp 7)),(none,.store 24 (.tmp 6) (.tmp 25))]:=⟨av (piece suC [1,1,0,1,0,0]),ax (piece suC [1,1,0,1,0,0]),by kernel_rfl,by kernel_rfl,by kernel_rfl⟩
theorem JL:cd (piece suC [1,1,1,0,1,0,0]) [(some 37,.load 24 (.tmp 7)),(none,.store 24 (.tmp 6) (.tmp 37))]:=⟨av (piece suC [1,1,1,0,1,0,0]),ax (piece suC [1,1,1,0,1,0,0]),by kernel_rfl,by kernel_rfl,by kernel_rfl⟩
theorem JF:cd (piece suC [1,1,1,1,0,0,0,1,0]) [(some 44,.fieldAddr 24 (.tmp 7) 0),(some (44 + 1),.load 22 (.tmp 44)),(some (44 + 2),.buildSlice 22 1 #[(0,.const (.slice none 0 0))]),(some (44 + 3),.call { callee:=.builtin .append,args:=#[.tmp (44 + 1),.tmp (44 + 2)],argTypes:=#[22,22] }),(some (44 + 4),.fieldAddr 24 (.tmp 7) 0),(none,.store 22 (.tmp (44 + 4)) (.tmp (44 + 3)))]:=⟨av (piece suC [1,1,1,1,0,0,0,1,0]),ax (piece suC [1,1,1,1,0,0,0,1,0]),by kernel_rfl,by kernel_rfl,by kernel_rfl⟩
theorem JP:cd (piece suC [1,1,1,1,1,0]) [(some 49,.fieldAddr 24 (.tmp 7) 0),(some (49 + 1),.load 22 (.tmp 49)),(some (49 + 2),.move (.tmp 1)),(some (49 + 3),.binOp .quo 3 (.tmp (49 + 2)) (.const (.int .i64 8)) 3),(some (49 + 4),.indexAddr 22 (.tmp (49 + 1)) (.tmp (49 + 3))),(some (49 + 5),.load 47 (.tmp (49 + 4))),(some 8,.assign (.tmp (49 + 5)))]:=⟨av (piece suC [1,1,1,1,1,0]),ax (piece suC [1,1,1,1,1,0]),by kernel_rfl,by kernel_rfl,by kernel_rfl⟩
theorem JE:cd (piece suC [1,1,1,1,1,1,1,1,1,1,1,0]) [(some 79,.fieldAddr 24 (.tmp 7) 0),(some (79 + 1),.load 22 (.tmp 79)),(some (79 + 2),.move (.tmp 1)),(some (79 + 3),.binOp .quo 3 (.tmp (79 + 2)) (.const (.int .i64 8)) 3),(some (79 + 4),.move (.tmp 8)),(some (79 + 5),.indexAddr 22 (.tmp (79 + 1)) (.tmp (79 + 3))),(none,.store 47 (.tmp (79 + 5)) (.tmp (79 + 4)))]:=⟨av (piece suC [1,1,1,1,1,1,1,1,1,1,1,0]),ax (piece suC [1,1,1,1,1,1,1,1,1,1,1,0]),by kernel_rfl,by kernel_rfl,by kernel_rfl⟩
theorem I9:cd (piece suC [1,1,1,1,1,1,1,1,1,1,1,1,0,0,0,1,0]) [(some 101,.fieldAddr 24 (.tmp 7) 0),(some (101 + 1),.load 22 (.tmp 101)),(some (101 + 2),.fieldAddr 24 (.tmp 7) 0),(some (101 + 3),.load 22 (.tmp (101 + 2))),(some (101 + 4),.call { callee:=.builtin .len,args:=#[.tmp (101 + 3)],argTypes:=#[22] }),(some (101 + 5),.binOp .sub 3 (.tmp (101 + 4)) (.const (.int .i64 1)) 3),(some (101 + 6),.slice 22 (.tmp (101 + 1)) none (some (.tmp (101 + 5))) none),(some (101 + 7),.fieldAddr 24 (.tmp 7) 0),(none,.store 22 (.tmp (101 + 7)) (.tmp (101 + 6)))]:=⟨av (piece suC [1,1,1,1,1,1,1,1,1,1,1,1,0,0,0,1,0]),ax (piece suC [1,1,1,1,1,1,1,1,1,1,1,1,0,0,0,1,0]),by kernel_rfl,by kernel_rfl,by kernel_rfl⟩
theorem Ja:cd (piece suC [1,1,1,1,1,1,1,1,1,1,1,1,1,0]) [(some 109,.load 24 (.tmp 7)),(none,.store 24 (.tmp 6) (.tmp 109))]:=⟨av (piece suC [1,1,1,1,1,1,1,1,1,1,1,1,1,0]),ax (piece suC [1,1,1,1,1,1,1,1,1,1,1,1,1,0]),by kernel_rfl,by kernel_rfl,by kernel_rfl⟩
theorem GG:cG PR 27 fc Dq:=fun fn us hfn hP=>by
 have hf:PR.funcs[(27:Nat)]? = some Tryz.f27:=by kernel_rfl
 rw [hf] at hfn;cases hfn
 have hb:Tryz.f27.body=some (bh Tryz.f27):=by kernel_rfl
 have hnt:Tryz.f27.ntmps=110:=by kernel_rfl
 have hpar:Tryz.f27.params.toList=[24,3,46]:=by kernel_rfl
 refine ⟨by rw [hb];rfl,by kernel_rfl,?_⟩
 intro w0 Z vs hZ hsh ⟨svs,hsvs,hrep⟩
 rw [hpar] at hsh hsvs
 obtain ⟨u1,u2,u3,rfl,l1,l2,l3⟩:=m5 (m:=true) (cs:=[TRC]) (m2:=false) (cs2:=[.int .i64]) (m3:=true) (cs3:=EC) (by kernel_rfl) (by kernel_rfl) (by kernel_rfl) hsh
 obtain ⟨T,rfl⟩:=bG l1
 obtain ⟨i,rfl⟩:=bG l2
 obtain ⟨a,b,d,e,g,rfl⟩:=qy l3
 obtain ⟨v,vs5,rfl,hv,hi,h5⟩:=Hc hsvs hrep
 have hP:dv T.list:=hP
 clear hsvs hrep hsh l1 l2 l3
 refine calls_of_wp hf hb ?_
 rw [Ge,hnt]
 generalize ha0:({ tmps:=[Value.agg #[v],.int .i64 i.int,.agg vs5].toArray ++ Array.replicate (110 - ([Value.agg #[v],.int .i64 i.int,.agg vs5].toArray:Array Value).size) undef,defers:=[] }:Act)=a0
 have a0s:a0.tmps.size=110:=by rw [← ha0];simp
 have a00:a0.eval (.tmp 0) = .agg #[v]:=by rw [← ha0];simp [Act.eval,Array.getD_eq_getD_getElem?]
 have a01:a0.eval (.tmp 1) = .int .i64 i.int:=by rw [← ha0];simp [Act.eval,Array.getD_eq_getD_getElem?]
 have a02:a0.eval (.tmp 2) = .agg vs5:=by rw [← ha0];simp [Act.eval,Array.getD_eq_getD_getElem?]
 have a0d:a0.defers=[]:=by rw [← ha0]
 clear ha0
 obtain ⟨Qf,hQf⟩:∃ Qf:Exit→Act→World→Prop,Qf=bodyPost PR Tryz.f27 (Den.Ends PR Tryz.f27 (Dq [[T],[i],[a,b,d,e,g]]) w0 Z):=⟨_,rfl⟩
 show Code.wp PR _ (bodyPost PR Tryz.f27 (Den.Ends PR Tryz.f27 (Dq [[T],[i],[a,b,d,e,g]]) w0 Z)) a0 w0
 rw [← hQf]
 have hres:Tryz.f27.results = #[.cell 6 24]:=by kernel_rfl
 have hrt:Tryz.f27.resultTypes.toList=[24]:=by kernel_rfl
 have hSX:Dq [[T],[i],[a,b,d,e,g]]=[[.l (jQ T.list i.int a b d e g)]]:=rfl
 rw [hSX] at hQf
 clear hSX
 refine wp_seq (wp_mono (Hm (n:=110) JQ (by decide) a0s a0d a00 a01 a02 hv hZ h5) ?_)
 rintro ex a1 w3 ⟨rfl,a1s,a1d,e1,e3,e5,e6,S⟩
 have hcf:PR.funcs[(15:Nat)]? = some Tryz.f15:=by kernel_rfl
 refine wp_seq (wp_mono (Hy (n:=110) (d:=11) hcf (by kernel_rfl) (by kernel_rfl) pJ JO (by decide) a1s a1d e1 e3 e5 e6 S hP.1 hP.2) ?_)
 rintro ex a2 w4 ⟨rfl,B7,vo,rows,H⟩
 clear a0s a00 a01 a02 a0d a1s a1d e1 e3 e5 e6 h5 hv
 generalize hr:i.int=ii at hi H hQf
 have hnil:∀ (w:World) (a:Act) (p:Nat × SV),p ∈ ([]:List (Nat × SV))→ag w (fun _=>False) (fun _=>.pointer none) p.2 (a.tmps.getD p.1 undef):=fun _ _ p hp=>by cases hp
 refine wp_seq (wp_seq (wp_mono (ch (C:=KB) (ex:=[]) (k:=fun σ=>get σ.env 24=vb (.b (decide (ii < 0) || (decide (ii ≥ 4096) || !bl T.list a.int b.int d.int e.int g.int 7 0)))) rfl Jm (fun _ _ h=>h) (by kernel_rfl) (by kernel_rfl) (by kernel_rfl) H S hi (hnil _ _) (fun _ h=>h.elim) ?_) ?_))
 ·rw [EY]
  cases h1:decide (ii < 0) with
  | true=>rw [cond_true];rfl
  | false=>
   rw [cond_false]
   cases h2:decide (ii ≥ 4096) with
   | true=>rw [cond_true];rfl
   | false=>rw [cond_false];rfl
 rintro ex a3 w5 ⟨rfl,H,F5,kp,σ,Z',G',hk,S'⟩
 have r24:=S'.slot 24
 rw [hk] at r24
 have r24:a3.eval (.tmp 24) = .bool (decide (ii < 0) || (decide (ii ≥ 4096) || !bl T.list a.int b.int d.int e.int g.int 7 0)):=r24
 refine wp_cond_split r24 (fun ht=>?_) (fun hfl=>wp_skip ?_)
 ·refine wp_mono (pG (d:=25) JJ (by decide) hres hrt S H) ?_
  rintro ex a' w' ⟨rfl,h⟩
  rw [show jQ T.list ii a b d e g=T.list by unfold jQ;rw [ht,cond_true]] at hQf
  show Qf .ret a' w'
  rw [hQf];exact h
 simp only [Bool.or_eq_false_iff,decide_eq_false_iff_not,Bool.not_eq_false'] at hfl
 obtain ⟨i0,i1,hfit⟩:=hfl
 have hrows:=pL hfit
 obtain ⟨m,rfl⟩:∃ m:Nat,ii=(m:Int):=⟨ii.toNat,by omega⟩
 have hm:m < 4096:=by omega
 rw [show jQ T.list (m:Int) a b d e g=bif (a.int == 0) && decide (((m / 8:Nat):Int) ≥ (T.list.length:Int)) then T.list else xU T.list m [a,b,d,e,g] by
  unfold jQ
  rw [show (decide ((m:Int) < 0) || (decide ((m:Int) ≥ 4096) || !bl T.list a.int b.int d.int e.int g.int 7 0))=false by
   rw [hfit];simp;omega,cond_false];rfl] at hQf
 clear hfit i0 i1 hk S' kp r24 F5
 have hm8:(Int.tdiv (m:Int) 8)=((m / 8:Nat):Int):=by rw [Int.tdiv_eq_ediv_of_nonneg (by omega)];omega
 have hw8:IntKind.i64.wrap (Int.tdiv (m:Int) 8)=((m / 8:Nat):Int):=by rw [hm8,i64_in (by omega) (by omega)]
 refine wp_seq (wp_seq (wp_mono (ch (C:=KW) (ex:=[]) (k:=fun σ=>get σ.env 36=vb (.b ((a.int == 0) && decide (((m / 8:Nat):Int) ≥ (T.list.length:Int))))) rfl bx (fun _ _ h=>h) (by kernel_rfl) (by kernel_rfl) (by kernel_rfl) H S hi (hnil _ _) (fun _ h=>h.elim) ?_) ?_))
 ·rw [Db,hw8]
  show bif a.int == 0 then _ else _
  cases h1:a.int == 0 with
  | true=>rw [cond_true];rfl
  | false=>rw [cond_false];rfl
 rintro ex a3 w5 ⟨rfl,H,F5,kp,σ,Z',G',hk,S'⟩
 have r36:=S'.slot 36
 rw [hk] at r36
 have r36:a3.eval (.tmp 36) = .bool ((a.int == 0) && decide (((m / 8:Nat):Int) ≥ (T.list.length:Int))):=r36
 refine wp_cond_split r36 (fun ht=>?_) (fun hfl=>wp_skip ?_)
 ·refine wp_mono (pG (d:=37) JL (by decide) hres hrt S H) ?_
  rintro ex a' w' ⟨rfl,h⟩
  rw [ht,cond_true] at hQf
  show Qf .ret a' w'
  rw [hQf];exact h
 rw [hfl,cond_false] at hQf
 clear hfl hk S' kp r36 F5
 obtain ⟨Qp,hQp⟩:∃ Qp:Exit→Act→World→Prop,Qp=fun ex a w=>ex = .normal∧∃ vo rows,StJ 110 w0 w3 B7 (m:Int) vo rows (bm T.list (m / 8 + 1 - T.list.length)) a w:=⟨_,rfl⟩
 refine wp_seq (wp_mono (Q:=Qp) ?_ ?_)
 ·refine wp_block (wp_loop_rounds (m / 8 + 1 - T.list.length + 1) ?_)
  have key:∀ (f k:Nat) (a:Act) (w:World) (vo:Value) (rows:List Value),k + f=m / 8 + 1 - T.list.length→StJ 110 w0 w3 B7 (m:Int) vo rows (bm T.list k) a w→
    Code.rounds PR (.seq (.seq (.region (av (piece suC [1,1,1,1,0,0,0,0,0])) su6 false) (.cond (.tmp 43) .skip (.exit 0))) (.block 1 (piece suC [1,1,1,1,0,0,0,1,0])))
     (Exit.inBlock 0 Qp) (f + 1) a w:=by
   intro f
   induction f with
   | zero=>
    intro k a4 w4 vo rows hk H
    have hlen:(bm T.list k).length=T.list.length + k:=by unfold bm;simp
    rw [rounds_succ]
    refine wp_seq (wp_seq (wp_mono (ch (C:=KW) (ex:=[]) (k:=fun σ=>get σ.env 43=vb (.b (decide (((bm T.list k).length:Int)≤((m / 8:Nat):Int))))) rfl bx (fun _ _ h=>h) (by kernel_rfl) (by kernel_rfl) (by kernel_rfl) H S hi (hnil _ _) (fun _ h=>h.elim) ?_) ?_))
    ·rw [wc,hw8];rfl
    rintro ex a5 w5 ⟨rfl,H5,_,_,σ,Z',G',hk',S'⟩
    have r43:=S'.slot 43
    rw [hk'] at r43
    have r43:a5.eval (.tmp 43) = .bool (decide (((bm T.list k).length:Int)≤((m / 8:Nat):Int))):=r43
    refine wp_cond_split r43 (fun ht=>?_) (fun _=>wp_exit ?_)
    ·have ht:=of_decide_eq_true ht
     exfalso
     rw [hlen] at ht
     omega
    ·show Exit.inBlock 0 Qp (.exit 0) a5 w5
     refine cC ?_
     rw [hQp]
     refine ⟨rfl,vo,rows,?_⟩
     rw [show m / 8 + 1 - T.list.length=k by omega]
     exact H5
   | succ f ih=>
    intro k a4 w4 vo rows hk H
    have hlen:(bm T.list k).length=T.list.length + k:=by unfold bm;simp
    rw [rounds_succ]
    refine wp_seq (wp_seq (wp_mono (ch (C:=KW) (ex:=[]) (k:=fun σ=>get σ.env 43=vb (.b (decide (((bm T.list k).length:Int)≤((m / 8:Nat):Int))))) rfl bx (fun _ _ h=>h) (by kernel_rfl) (by kernel_rfl) (by kernel_rfl) H S hi (hnil _ _) (fun _ h=>h.elim) ?_) ?_))
    ·rw [wc,hw8];rfl
    rintro ex a5 w5 ⟨rfl,H5,_,_,σ,Z',G',hk',S'⟩
    have r43:=S'.slot 43
    rw [hk'] at r43
    have r43:a5.eval (.tmp 43) = .bool (decide (((bm T.list k).length:Int)≤((m / 8:Nat):Int))):=r43
    refine wp_cond_split r43 (fun _=>wp_skip ?_) (fun hf=>?_)
    ·refine wp_block (wp_mono (yy (d:=44) JF (by decide) H5 (by rw [hlen];omega)) ?_)
     rintro ex a6 w6 ⟨rfl,vo',rows',H6⟩
     have e:bm T.list (k + 1)=bm T.list k ++ [.l []]:=by unfold bm;rw [List.replicate_succ',List.append_assoc]
     exact ih (k + 1) a6 w6 vo' rows' (by omega) (by rw [e];exact H6)
    ·have hf:=of_decide_eq_false hf
     exfalso
     rw [hlen] at hf
     omega
  exact key _ 0 a3 w5 vo rows (by omega) (by rw [show bm T.list 0=T.list by unfold bm;simp];exact H)
 rw [hQp]
 rintro ex a4 w6 ⟨rfl,vo,rows,H⟩
 clear hQp
 generalize hL:bm T.list (m / 8 + 1 - T.list.length)=L at H
 have hLl:m / 8 < L.length:=by rw [← hL];unfold bm;simp;omega
 have hLr:(U.at L (m / 8)).list.length=0∨(U.at L (m / 8)).list.length=8:=by
  rw [← hL,mU (by omega)]
  split
  ·rename_i h;exact hrows _ h
  ·exact .inl rfl
 have hLs:L.length < 1073741824:=by
  rw [← hL];unfold bm
  have:=hP.1
  simp;omega
 refine wp_seq (wp_mono (zA (d:=49) hm JP (by decide) H hLl) ?_)
 rintro ex a5 w7 ⟨rfl,H,r,hr,h8⟩
 have D8:=H.deep.row _ r hr
 have hk8:m / 8 < rows.length:=by rw [H.deep.len];exact hLl
 have hfr8:∀ b,r.ownBlock=some b→w0.heap.size + 3≤b∧b≠B7∧vo.ownBlock≠some b∧∀ (j:Nat) (r':Value),j≠m / 8→rows[j]? = some r'→r'.ownBlock≠some b:=fun b hb=>
  ⟨(H.deep.rowF _ r b hr hb).1.1,(H.deep.rowF _ r b hr hb).1.2,(H.deep.rowF _ r b hr hb).2,fun j r' hj hr' hb'=>hj (H.deep.apart j (m / 8) r' r b hr' hr hb' hb)⟩
 generalize hU:U.at L (m / 8)=R at D8 hLr
 refine wp_seq (wp_mono (Q:=fun ex a w=>ex = .normal∧StJ 110 w0 w3 B7 (m:Int) vo rows L a w∧∃ r,a.eval (.tmp 8)=r∧gY w r (.l (rowOf R))∧(∀ b,r.ownBlock=some b→w0.heap.size + 3≤b∧b≠B7∧vo.ownBlock≠some b∧∀ (j:Nat) (r':Value),j≠m / 8→rows[j]? = some r'→r'.ownBlock≠some b)∧(rows[m / 8]? = some r∨∀ b,r.ownBlock=some b→∀ (j:Nat) (r':Value),rows[j]? = some r'→r'.ownBlock≠some b)) ?_ ?_)
 ·refine wp_seq (wp_mono (ch (C:=KW) (ex:=[(8,vt EC R)]) (Z8:=fun b=>b < w7.heap.size) (k:=fun σ=>get σ.env 57=vb (.b ((R.list.length:Int) == 0))) rfl bx (fun _ _ h=>h) (by kernel_rfl) (by kernel_rfl) (by kernel_rfl) H S hi (fun p hp=>?_) (fun _ h=>h) ?_) ?_)
  ·have hp:p=(8,vt EC R):=by simpa using hp
   subst hp
   show aR w7 _ (.sl true EC) (a5.eval (.tmp 8)) R
   rw [h8]
   exact D8.rep fun b hb=>D8.lt hb
  ·rw [B6];rfl
  rintro ex a6 w8 ⟨rfl,H6,F6,kp,σ,Z',G',hk,S'⟩
  have r57:=S'.slot 57
  rw [hk] at r57
  have r57:a6.eval (.tmp 57) = .bool ((R.list.length:Int) == 0):=r57
  refine wp_cond_split r57 (fun ht=>?_) (fun hfl=>wp_skip ?_)
  ·refine bJ bx fl (n:=110) (G:=fun _=>.pointer none) (Z:=fun b=>b < w8.heap.size) (env:=fo (m:Int) T [a,b,d,e,g] L []) (k:=fun σ=>get σ.env 8 = .own 7550∧az σ.objs 7550=some (.arr 46 fX)) (by kernel_rfl) (by kernel_rfl) H6.size (H6.slots S hi (hnil _ _) (fun _ h=>h.elim)) (fun _ h=>h) (fun _=>rfl) ?_ ?_
   ·rw [z5];exact ⟨rfl,rfl⟩
   rintro σ a7 w9 Z9 G9 ⟨k1,k2⟩ S9 kp9
   have F9:Fut (fun _=>False) w8 w9:=S9.fut
   have H7:=H6.next S9.size S9.calm (aj (l:=[1,3,5,6,7]) (by kernel_rfl) kp9 rfl) (aj (l:=[1,3,5,6,7]) (by kernel_rfl) kp9 rfl) (aj (l:=[1,3,5,6,7]) (by kernel_rfl) kp9 rfl) (aj (l:=[1,3,5,6,7]) (by kernel_rfl) kp9 rfl) (aj (l:=[1,3,5,6,7]) (by kernel_rfl) kp9 rfl) F9
   obtain ⟨m2,cs2,vs,g1,g2,g3⟩:=S9.obj 7550 _ k2
   have g1:Cs PR 46=some (m2,cs2):=g1
   rw [cE] at g1
   cases g1
   have r8:=S9.slot 8
   rw [k1] at r8
   have r8:a7.eval (.tmp 8)=G9 7550:=r8
   have hge:∀ b,(G9 7550).ownBlock=some b→w8.heap.size≤b:=fun b hb=>by
    rcases (S9.free 7550 _ b k2 (by rw [dk g2];exact hb)).2 with h | h | h
    ·exact h.elim
    ·exact h.elim
    ·exact h
   have hrw:∀ b,(G9 7550).ownBlock=some b→∀ (j:Nat) (r':Value),rows[j]? = some r'→r'.ownBlock≠some b:=fun b hb j r' hr' hb'=>by
    have:=(H6.deep.row j r' hr').lt hb'
    have:=hge b hb
    omega
   refine ⟨rfl,H7,_,r8,⟨vs,?_,?_⟩,fun b hb=>?_,.inr hrw⟩
   ·rw [show rowOf R=fX by unfold rowOf;rw [ht,cond_true]];exact g2
   ·rw [show rowOf R=fX by unfold rowOf;rw [ht,cond_true]];exact ah.scal rfl g3
   ·have hg:=hge b hb
    have hf:=H6.fut.size
    have hlo:=H6.lo
    have hlt:=H6.b7lt
    exact ⟨by omega,by omega,fun e=>by have:=(H6.deep.own.lt b e).2;omega,fun j r' _=>hrw b hb j r'⟩
  ·have hro:rowOf R=R.list:=by unfold rowOf;rw [hfl,cond_false]
   refine ⟨rfl,H6,r,(kp 8 (fun o ho e=>?_)).trans h8,?_,hfr8,.inl hr⟩
   ·have:jD su9 [8]=true:=by kernel_rfl
    have:=List.all_eq_true.1 this o ho
    rw [e] at this
    cases this
   ·rw [hro]
    exact D8.same fun b hb=>F6.block b (D8.lt hb) id
 rintro ex a6 w8 ⟨rfl,H,r8,h8,D8,hfr8,hcase⟩
 have hRl:(rowOf R).length=8:=nn hLr
 have hmod:(Int.tmod (m:Int) 8)=((m % 8:Nat):Int):=by
  rw [Int.tmod_eq_emod_of_nonneg (by omega)];omega
 obtain ⟨G2,hG2⟩:∃ G2:Nat→Value,G2=fun id=>if id=2 then r8 else .pointer none:=⟨_,rfl⟩
 have hg2:G2 2=r8:=by rw [hG2];rfl
 have hfl2:∀ id,(G2 id).oneCell' = true:=fun id=>by
  rw [hG2]
  by_cases h:id=2
  ·simp only [h,if_true];exact D8.one
  ·simp only [h,if_false];rfl
 refine wp_seq (lQ bx fl (n:=110) (id:=2) (ty:=46) (us:=rowOf R) (G:=G2) (Z:=fun b=>b < w8.heap.size∧r8.ownBlock≠some b) (env:=[(8,.own 2),(1,vi (.i (m:Int))),(3,.unk),(5,.rptr EC [a,b,d,e,g]),(7,.unk)]) (k:=fun σ=>get σ.env 8 = .own 2∧az σ.objs 2=some (.arr 46 (bj (rowOf R) (m % 8) [a,b,d,e,g]))) (by kernel_rfl) (by kernel_rfl) H.size (fun t=>?_) (fun _ h=>h.1) hfl2 ?_ (fun b hb h=>?_) ?_ ?_)
 ·rw [aF]
  split
  ·rename_i h;subst h;show a6.eval (.tmp 8)=G2 2;rw [hg2];exact h8
  rw [aF]
  split
  ·rename_i h;subst h;exact ⟨H.e1,hi⟩
  rw [aF]
  split
  ·trivial
  rw [aF]
  split
  ·rename_i h;subst h
   have hlo:=H.lo
   have hlt:=H.b7lt
   refine ⟨_,0,H.e5,⟨by omega,fun e=>?_⟩,bz.mono ⟨fun b hb=>?_,fun b hb=>H.old b (by have:=S.zlt b hb;omega)⟩ EC _ _ _ (H.old _ (by omega)) S.box5⟩
   ·have:=(hfr8 _ e).1;omega
   ·have:=S.zlt b hb
    refine ⟨by omega,fun e=>?_⟩
    have:=(hfr8 _ e).1;omega
  rw [aF]
  split<;>trivial
 ·obtain ⟨vs,g1,g2⟩:=D8
  exact ⟨true,EC,vs,cE,by rw [hg2];exact g1,ah.scal rfl g2⟩
 ·obtain ⟨vs,g1,_⟩:=D8
  rw [hg2,dk g1] at hb
  exact h.2 hb
 ·rw [zY,hmod]
  have hc1:decide ((0:Int)≤((m % 8:Nat):Int)∧((m % 8:Nat):Int) < ((rowOf R).length:Int))=true:=decide_eq_true ⟨by omega,by rw [hRl];omega⟩
  have hc2:Nat.blt (((m % 8:Nat):Int).toNat) (rowOf R).length=true:=by rw [hRl];simp [Nat.blt_eq];omega
  rw [hc1,cond_true,hc2,cond_true]
  exact ⟨rfl,rfl⟩
 rintro σ a7 w9 Z9 G9 ⟨k1,k2⟩ S9 kp9
 have F9:Fut (fun b=>r8.ownBlock=some b) w8 w9:=by
  have:=S9.fut
  obtain ⟨vs,g1,_⟩:=D8
  rw [hg2,dk g1] at this
  exact this
 have e8:a7.eval (.tmp 8)=r8:=(kp9 8 (fun o ho e=>by
  have:jD FO [8]=true:=by kernel_rfl
  have:=List.all_eq_true.1 this o ho
  rw [e] at this
  cases this)).trans h8
 have hG9:G9 2=r8:=by
  have:=S9.slot 8
  rw [k1] at this
  have this:a7.eval (.tmp 8)=G9 2:=this
  rw [← this];exact e8
 have D9:gY w9 r8 (.l (bj (rowOf R) (m % 8) [a,b,d,e,g])):=by
  obtain ⟨m2,cs2,vs,g1,g2,g3⟩:=S9.obj 2 _ k2
  have g1:Cs PR 46=some (m2,cs2):=g1
  rw [cE] at g1
  cases g1
  rw [hG9] at g2
  exact ⟨vs,g2,ah.scal rfl g3⟩
 generalize hR2:bj (rowOf R) (m % 8) [a,b,d,e,g]=R2 at D9
 have hlo:=H.lo
 have hlt:=H.b7lt
 have ob9:∀ b,b < w8.heap.size→r8.ownBlock≠some b→w9.heap[b]? = w8.heap[b]?:=fun b hb hn=>F9.block b hb hn
 obtain ⟨L9,DL9,hL9s,hL9l⟩:∃ L9,eX (fun b=>w0.heap.size + 3≤b∧b≠B7) w9 vo rows L9∧(∀ u,L9.set (m / 8) u=L.set (m / 8) u)∧L9.length=L.length:=by
  rcases hcase with e | hne
  ·exact ⟨_,H.deep.poke e D9 ob9,fun u=>List.set_set ..,by simp⟩
  ·refine ⟨L,H.deep.same2 fun b hb h=>ob9 b hb fun e=>?_,fun _=>rfl,rfl⟩
   rcases h with h | ⟨j,r',hr',hb'⟩
   ·exact (hfr8 b e).2.2.1 h
   ·exact hne b e j r' hr' hb'
 have hlen8:w0.heap.size + 3≤w8.heap.size:=by omega
 have H9:StJ 110 w0 w3 B7 (m:Int) vo rows L9 a7 w9:=
  {size:=S9.size,calm:=S9.calm.trans H.calm,e1:=(aj (l:=[1,3,5,6,7]) (by kernel_rfl) kp9 rfl).trans H.e1,e3:=(aj (l:=[1,3,5,6,7]) (by kernel_rfl) kp9 rfl).trans H.e3,e5:=(aj (l:=[1,3,5,6,7]) (by kernel_rfl) kp9 rfl).trans H.e5
   e6:=(aj (l:=[1,3,5,6,7]) (by kernel_rfl) kp9 rfl).trans H.e6,e7:=(aj (l:=[1,3,5,6,7]) (by kernel_rfl) kp9 rfl).trans H.e7
   old:=fun b hb=>(ob9 b (by omega) fun e=>by have:=(hfr8 b e).1;omega).trans (H.old b hb)
   fut:=H.fut.trans F9 (fun _ h=>h) (fun b hb e=>by have:=(hfr8 b e).1;omega)
   b7:=(ob9 B7 hlt fun e=>(hfr8 B7 e).2.1 rfl).trans H.b7,deep:=DL9,lo:=hlo }
 clear DL9 S9 kp9 k1 k2 hG9 F9 ob9 hcase H D8 hlt
 refine wp_seq (wp_mono (ch (C:=KW) (ex:=[]) (k:=fun σ=>get σ.env 9=vb (.b false)) rfl bx (fun _ _ h=>h) (by kernel_rfl) (by kernel_rfl) (by kernel_rfl) H9 S hi (hnil _ _) (fun _ h=>h.elim) (by rw [zL];rfl)) ?_)
 rintro ex b1 x1 ⟨rfl,J1,F1,q1,σ,Z',G',hk,S'⟩
 have s9:=S'.slot 9
 rw [hk] at s9
 have s9:b1.eval (.tmp 9) = .bool false:=s9
 have E1:b1.eval (.tmp 8)=r8:=(aj (l:=[8]) (by kernel_rfl) q1 rfl).trans e8
 have D1:gY x1 r8 (.l R2):=D9.same fun b hb=>F1.block b (D9.lt hb) id
 refine wp_seq (wp_seq (wp_mono (ch (C:=KW) (ex:=[]) (k:=fun σ=>get σ.env 10=vi (.i 0)) rfl bx (fun _ _ h=>h) (by kernel_rfl) (by kernel_rfl) (by kernel_rfl) J1 S hi (hnil _ _) (fun _ h=>h.elim) (by rw [zQ];rfl)) ?_))
 rintro ex b2 x2 ⟨rfl,J2,F2,q2,σ,Z',G',hk,S'⟩
 have s10:=S'.slot 10
 rw [hk] at s10
 have s10:b2.eval (.tmp 10) = .int .i64 0:=s10.1
 have E2:b2.eval (.tmp 8)=r8:=(aj (l:=[8]) (by kernel_rfl) q2 rfl).trans E1
 have D2:gY x2 r8 (.l R2):=D1.same fun b hb=>F2.block b (D1.lt hb) id
 have s9:b2.eval (.tmp 9) = .bool false:=(aj (l:=[9]) (by kernel_rfl) q2 rfl).trans s9
 have hR2l:R2.length=8:=by rw [← hR2];unfold bj;rw [List.length_set];exact hRl
 clear H9 D9 e8 J1 E1 D1 hk S' F1 F2 q1 q2
 have exs:∀ (b:Act) (x:World) (s:Bool) (j:Nat),j≤8→b.eval (.tmp 8)=r8→gY x r8 (.l R2)→b.eval (.tmp 9) = .bool s→b.eval (.tmp 10) = .int .i64 (j:Int)→∀ p ∈ [(8,vt EC (.l R2)),(9,vb (.b s)),(10,vi (.i (j:Int)))],ag x (fun b=>b < x.heap.size) (fun _=>.pointer none) p.2 (b.tmps.getD p.1 undef):=by
  intro b x s j hj h8 hD h9 h10 p hp
  have i64:IntKind.i64.min≤(j:Int)∧(j:Int)≤IntKind.i64.max:=⟨by show -(2 ^ 63:Int)≤(j:Int);omega,by show (j:Int)≤2 ^ 63 - 1;omega⟩
  rcases List.mem_cons.1 hp with rfl | hp
  ·show aR x _ (.sl true EC) (b.eval (.tmp 8)) (.l R2)
   rw [h8]
   exact hD.rep fun b hb=>hD.lt hb
  ·rcases List.mem_cons.1 hp with rfl | hp
   ·exact h9
   ·have hp:p=(10,vi (.i (j:Int))):=by simpa using hp
    subst hp
    exact ⟨h10,i64⟩
 have ex10:∀ (b:Act) (x:World) (j:Nat),j≤8→b.eval (.tmp 10) = .int .i64 (j:Int)→∀ p ∈ [(10,vi (.i (j:Int)))],ag x (fun _=>False) (fun _=>.pointer none) p.2 (b.tmps.getD p.1 undef):=by
  intro b x j hj h10 p hp
  have i64:IntKind.i64.min≤(j:Int)∧(j:Int)≤IntKind.i64.max:=⟨by show -(2 ^ 63:Int)≤(j:Int);omega,by show (j:Int)≤2 ^ 63 - 1;omega⟩
  have hp:p=(10,vi (.i (j:Int))):=by simpa using hp
  subst hp
  exact ⟨h10,i64⟩
 have ex9:∀ (b:Act) (x:World) (s:Bool),b.eval (.tmp 9) = .bool s→∀ p ∈ [(9,vb (.b s))],ag x (fun _=>False) (fun _=>.pointer none) p.2 (b.tmps.getD p.1 undef):=by
  intro b x s h9 p hp
  have hp:p=(9,vb (.b s)):=by simpa using hp
  subst hp
  exact h9
 obtain ⟨Ql,hQl⟩:∃ Ql:Exit→Act→World→Prop,Ql=fun ex a w=>ex = .normal∧StJ 110 w0 w3 B7 (m:Int) vo rows L9 a w∧a.eval (.tmp 8)=r8∧gY w r8 (.l R2)∧a.eval (.tmp 9) = .bool (di R2 8):=⟨_,rfl⟩
 refine wp_mono (Q:=Ql) ?_ ?_
 ·refine yz (t:=10) (fun j b x=>StJ 110 w0 w3 B7 (m:Int) vo rows L9 b x∧b.eval (.tmp 8)=r8∧gY x r8 (.l R2)∧b.eval (.tmp 9) = .bool (di R2 j)∧b.eval (.tmp 10) = .int .i64 (j:Nat))
   (fun j b x=>StJ 110 w0 w3 B7 (m:Int) vo rows L9 b x∧b.eval (.tmp 8)=r8∧gY x r8 (.l R2)∧b.eval (.tmp 9) = .bool (di R2 (j + 1))∧b.eval (.tmp 10) = .int .i64 (j:Nat)) 8 (fun j b x h=>h.2.2.2.2) (Nat.zero_le _) ⟨J2,E2,D2,s9,s10⟩ ?_ ?_ ?_ ?_
  ·rintro j b x hj ⟨J,h8,hD,h9,h10⟩
   refine wp_mono (ch (C:=KW) (ex:=[(10,vi (.i (j:Int)))]) (Z8:=fun _=>False) (k:=fun σ=>get σ.env 65=vb (.b (decide ((j:Int) < 8)))) rfl bx (fun _ _ h=>h) (by kernel_rfl) (by kernel_rfl) (by kernel_rfl) J S hi (ex10 b x j hj h10) (fun _ h=>h.elim) (by rw [BW];rfl)) ?_
   rintro ex b' x' ⟨rfl,J',F',q',σ,Z',G',hk,S'⟩
   have s65:=S'.slot 65
   rw [hk] at s65
   have s65:b'.eval (.tmp 65) = .bool (decide ((j:Int) < 8)):=s65
   refine ⟨rfl,?_,J',(aj (l:=[8]) (by kernel_rfl) q' rfl).trans h8,hD.same fun b hb=>F'.block b (hD.lt hb) id,(aj (l:=[9]) (by kernel_rfl) q' rfl).trans h9,(aj (l:=[10]) (by kernel_rfl) q' rfl).trans h10⟩
   rw [s65]
   congr 1
   by_cases h:j < 8
   ·rw [decide_eq_true h,decide_eq_true (by omega)]
   ·rw [decide_eq_false h,decide_eq_false (by omega)]
  ·rintro j b x hj ⟨J,h8,hD,h9,h10⟩
   refine wp_block (wp_mono (ch (C:=KW) (ex:=[(8,vt EC (.l R2)),(9,vb (.b (di R2 j))),(10,vi (.i (j:Int)))]) (Z8:=fun b=>b < x.heap.size) (k:=fun σ=>get σ.env 9=vb (.b (di R2 (j + 1)))) rfl bx (fun _ _ h=>h) (by kernel_rfl) (by kernel_rfl) (by kernel_rfl) J S hi (exs b x _ j (by omega) h8 hD h9 h10) (fun _ h=>h) ?_) ?_)
   ·rw [Bt]
    have hc:decide ((0:Int)≤(U.i (j:Int)).int∧(U.i (j:Int)).int < ((U.l R2).list.length:Int))=true:=decide_eq_true ⟨by show (0:Int)≤(j:Int);omega,by show (j:Int) < (R2.length:Int);omega⟩
    rw [hc,cond_true]
    show bif di R2 j then _ else _
    cases hs:di R2 j with
    | true=>
     rw [cond_true]
     show vb (.b true)=vb (.b (bif di R2 j then true else _))
     rw [hs];rfl
    | false=>
     rw [cond_false]
     show _=vb (.b (bif di R2 j then true else _))
     rw [hs];rfl
   rintro ex b' x' ⟨rfl,J',F',q',σ,Z',G',hk,S'⟩
   have s9':=S'.slot 9
   rw [hk] at s9'
   have s9':b'.eval (.tmp 9) = .bool (di R2 (j + 1)):=s9'
   exact ⟨rfl,J',(aj (l:=[8]) (by kernel_rfl) q' rfl).trans h8,hD.same fun b hb=>F'.block b (hD.lt hb) id,s9',(aj (l:=[10]) (by kernel_rfl) q' rfl).trans h10⟩
  ·rintro j b x hj ⟨J,h8,hD,h9,h10⟩
   refine wp_mono (ch (C:=KW) (ex:=[(10,vi (.i (j:Int)))]) (Z8:=fun _=>False) (k:=fun σ=>get σ.env 10=vi (.i ((j + 1:Nat):Int))) rfl bx (fun _ _ h=>h) (by kernel_rfl) (by kernel_rfl) (by kernel_rfl) J S hi (ex10 b x j (by omega) h10) (fun _ h=>h.elim) ?_) ?_
   ·rw [Ak]
    have hw:IntKind.i64.wrap ((U.i (j:Int)).int + 1)=((j + 1:Nat):Int):=by
     show IntKind.i64.wrap ((j:Int) + 1)=_
     rw [i64_in (by omega) (by omega)];omega
    rw [hw];rfl
   rintro ex b' x' ⟨rfl,J',F',q',σ,Z',G',hk,S'⟩
   have s10':=S'.slot 10
   rw [hk] at s10'
   exact ⟨rfl,J',(aj (l:=[8]) (by kernel_rfl) q' rfl).trans h8,hD.same fun b hb=>F'.block b (hD.lt hb) id,(aj (l:=[9]) (by kernel_rfl) q' rfl).trans h9,s10'.1⟩
  ·rintro b x ⟨J,h8,hD,h9,h10⟩
   rw [hQl]
   exact ⟨rfl,J,h8,hD,h9⟩
 rw [hQl]
 clear hQl J2 E2 D2 s9 s10
 rintro ex a7 w9 ⟨rfl,H9,e8,D9,e9⟩
 refine wp_seq (wp_mono (Q:=fun ex a w=>ex = .normal∧StJ 110 w0 w3 B7 (m:Int) vo rows L9 a w∧∃ r,a.eval (.tmp 8)=r∧gY w r (.l (iY R2))∧(∀ b,r.ownBlock=some b→w0.heap.size + 3≤b∧b≠B7∧vo.ownBlock≠some b∧∀ (j:Nat) (r':Value),j≠m / 8→rows[j]? = some r'→r'.ownBlock≠some b)) ?_ ?_)
 ·refine wp_seq (wp_mono (ch (C:=KW) (ex:=[(9,vb (.b (di R2 8)))]) (Z8:=fun _=>False) (k:=fun σ=>get σ.env 78=vb (.b (!di R2 8))) rfl bx (fun _ _ h=>h) (by kernel_rfl) (by kernel_rfl) (by kernel_rfl) H9 S hi (ex9 _ _ _ e9) (fun _ h=>h.elim) (by rw [zR];rfl)) ?_)
  rintro ex a8 w10 ⟨rfl,H10,F10,kp,σ,Z',G',hk,S'⟩
  have r53:=S'.slot 78
  rw [hk] at r53
  have r53:a8.eval (.tmp 78) = .bool (!di R2 8):=r53
  refine wp_cond_split r53 (fun ht=>?_) (fun hfl=>wp_skip ?_)
  ·refine bJ bx fl (n:=110) (G:=fun _=>.pointer none) (Z:=fun b=>b < w10.heap.size) (env:=fo (m:Int) T [a,b,d,e,g] L9 []) (k:=fun σ=>get σ.env 8 = .own 1148∧az σ.objs 1148=some (.arr 46 [])) (by kernel_rfl) (by kernel_rfl) H10.size (H10.slots S hi (hnil _ _) (fun _ h=>h.elim)) (fun _ h=>h) (fun _=>rfl) ?_ ?_
   ·rw [Ap];exact ⟨rfl,rfl⟩
   rintro σ a9 w11 Z9 G9 ⟨k1,k2⟩ S9 kp9
   have F9:Fut (fun _=>False) w10 w11:=S9.fut
   have H11:=H10.next S9.size S9.calm (aj (l:=[1,3,5,6,7]) (by kernel_rfl) kp9 rfl) (aj (l:=[1,3,5,6,7]) (by kernel_rfl) kp9 rfl) (aj (l:=[1,3,5,6,7]) (by kernel_rfl) kp9 rfl) (aj (l:=[1,3,5,6,7]) (by kernel_rfl) kp9 rfl) (aj (l:=[1,3,5,6,7]) (by kernel_rfl) kp9 rfl) F9
   obtain ⟨m2,cs2,vs,g1,g2,g3⟩:=S9.obj 1148 _ k2
   have g1:Cs PR 46=some (m2,cs2):=g1
   rw [cE] at g1
   cases g1
   have r8':=S9.slot 8
   rw [k1] at r8'
   have r8':a9.eval (.tmp 8)=G9 1148:=r8'
   have hke:iY R2=[]:=by unfold iY;rw [ht,cond_true]
   refine ⟨rfl,H11,_,r8',⟨vs,by rw [hke];exact g2,by rw [hke];exact ah.scal rfl g3⟩,fun b hb=>?_⟩
   have hge:w10.heap.size≤b:=by
    rcases (S9.free 1148 _ b k2 (by rw [dk g2];exact hb)).2 with h | h | h
    ·exact h.elim
    ·exact h.elim
    ·exact h
   have hlt:=H10.b7lt
   have hlo:=H10.lo
   exact ⟨by omega,by omega,fun e=>by have:=(H10.deep.own.lt b e).2;omega,fun j r' _ hr' hb'=>by have:=(H10.deep.row j r' hr').lt hb';omega⟩
  ·have hke:iY R2=R2:=by unfold iY;rw [hfl,cond_false]
   refine ⟨rfl,H10,r8,(kp 8 (fun o ho e=>?_)).trans e8,?_,hfr8⟩
   ·have:jD FV [8]=true:=by kernel_rfl
    have:=List.all_eq_true.1 this o ho
    rw [e] at this
    cases this
   ·rw [hke]
    exact D9.same fun b hb=>F10.block b (D9.lt hb) id
 clear D9 hfr8 e8 H9
 rintro ex a8 w10 ⟨rfl,H,r9,h9,D9,hfr9⟩
 refine wp_seq (wp_mono (DD (d:=79) hm JE (by decide) H (by rw [hL9l];exact hLl) h9 D9 hfr9) ?_)
 rintro ex a9 w11 ⟨rfl,vo,rows,H⟩
 rw [hL9s] at H
 generalize hL2:L.set (m / 8) (.l (iY R2))=L2 at H
 have hL2l:L2.length < 1073741824:=by rw [← hL2,List.length_set];exact hLs
 obtain ⟨Qp,hQp⟩:∃ Qp:Exit→Act→World→Prop,Qp=fun ex a w=>ex = .normal∧∃ vo rows,StJ 110 w0 w3 B7 (m:Int) vo rows (fj L2.length L2) a w:=⟨_,rfl⟩
 refine wp_seq (wp_mono (Q:=Qp) ?_ ?_)
 ·refine wp_block (wp_loop_rounds (L2.length + 1) ?_)
  have key:∀ (n:Nat) (xs:List U) (a:Act) (w:World) (vo:Value) (rows:List Value),xs.length=n→n < 1073741824→fj n xs=fj L2.length L2→StJ 110 w0 w3 B7 (m:Int) vo rows xs a w→
    Code.rounds PR (.seq (.seq (.region (av (piece suC [1,1,1,1,1,1,1,1,1,1,1,1,0,0,0,0,0])) GJ false) (.cond (.tmp 100) .skip (.exit 4))) (.block 5 (piece suC [1,1,1,1,1,1,1,1,1,1,1,1,0,0,0,1,0])))
     (Exit.inBlock 4 Qp) (n + 1) a w:=by
   intro n
   induction n with
   | zero=>
    intro xs a4 w4 vo rows hx _ hxs H
    rw [rounds_succ]
    refine wp_seq (wp_seq (wp_mono (ch (C:=KW) (ex:=[]) (k:=fun σ=>get σ.env 100=vb (.b false)) rfl bx (fun _ _ h=>h) (by kernel_rfl) (by kernel_rfl) (by kernel_rfl) H S hi (hnil _ _) (fun _ h=>h.elim) ?_) ?_))
    ·rw [rN]
     have hx0:xs=[]:=List.eq_nil_of_length_eq_zero hx
     subst hx0
     rfl
    rintro ex a5 w5 ⟨rfl,H5,_,_,σ,Z',G',hk',S'⟩
    have r74:=S'.slot 100
    rw [hk'] at r74
    have r74:a5.eval (.tmp 100) = .bool false:=r74
    refine wp_cond_split r74 (fun ht=>by cases ht) (fun _=>wp_exit ?_)
    show Exit.inBlock 4 Qp (.exit 4) a5 w5
    refine cC ?_
    rw [hQp]
    exact ⟨rfl,vo,rows,by rw [← hxs];exact H5⟩
   | succ n ih=>
    intro xs a4 w4 vo rows hx hn hxs H
    rw [rounds_succ]
    refine wp_seq (wp_seq (wp_mono (ch (C:=KW) (ex:=[]) (k:=fun σ=>get σ.env 100=vb (.b (((U.at xs n).list.length:Int) == 0))) rfl bx (fun _ _ h=>h) (by kernel_rfl) (by kernel_rfl) (by kernel_rfl) H S hi (hnil _ _) (fun _ h=>h.elim) ?_) ?_))
    ·rw [rN]
     have hl:((nth (.i 0) (List.drop 0 [U.l xs]) 0).list.length:Int)=(n:Int) + 1:=by show (xs.length:Int)=_;omega
     have hw:IntKind.i64.wrap ((n:Int) + 1 - 1)=(n:Int):=by
      rw [show (n:Int) + 1 - 1=(n:Int) by omega,i64_in (by omega) (by omega)]
     rw [hl,hw]
     have c1:decide ((n:Int) + 1 > 0)=true:=decide_eq_true (by omega)
     have c2:decide ((0:Int)≤(n:Int)∧(n:Int) < (n:Int) + 1)=true:=decide_eq_true ⟨by omega,by omega⟩
     rw [c1,cond_true,c2,cond_true]
     rfl
    rintro ex a5 w5 ⟨rfl,H5,F5,kp5,σ,Z',G',hk',S'⟩
    have r74:=S'.slot 100
    rw [hk'] at r74
    have r74:a5.eval (.tmp 100) = .bool (((U.at xs n).list.length:Int) == 0):=r74
    refine wp_cond_split r74 (fun ht=>wp_skip ?_) (fun hf=>wp_exit ?_)
    ·refine wp_block (wp_mono (CH (d:=101) (show n < 1073741824 by omega) I9 (by decide) H5 hx) ?_)
     rintro ex a6 w6 ⟨rfl,vo',rows',H6⟩
     refine ih (xs.take n) a6 w6 vo' rows' (by rw [List.length_take];omega) (by omega) ?_ H6
     rw [← hxs]
     show _=bif ((U.at xs n).list.length:Int) == 0 then fj n (xs.take n) else xs
     rw [ht,cond_true]
    ·show Exit.inBlock 4 Qp (.exit 4) a5 w5
     refine cC ?_
     rw [hQp]
     refine ⟨rfl,vo,rows,?_⟩
     rw [← hxs]
     show StJ 110 w0 w3 B7 (m:Int) vo rows (bif ((U.at xs n).list.length:Int) == 0 then fj n (xs.take n) else xs) a5 w5
     rw [hf,cond_false]
     exact H5
  exact key L2.length L2 a9 w11 vo rows rfl hL2l rfl H
 rw [hQp]
 rintro ex a11 w13 ⟨rfl,vo,rows,H⟩
 refine wp_mono (pG (d:=109) Ja (by decide) hres hrt S H) ?_
 rintro ex a' w' ⟨rfl,h⟩
 show Qf .ret a' w'
 rw [hQf]
 have hset:xU T.list m [a,b,d,e,g]=fj L2.length L2:=by
  unfold xU
  simp only [hL,hU,hR2,hL2]
 rw [hset]
 exact h
end Go.Mat

namespace Go.Mat
open Go Go.Den Go.Proofs
def ar:Code→List Nat→Code
 | c,[]=>c
 | .seq a b,n :: r=>match n with | 0=>ar a r | _=>ar b r
 | .cond _ a b,n :: r=>match n with | 0=>ar a r | _=>ar b r
 | .block _ a,_ :: r=>ar a r
 | .loop a,_ :: r=>ar a r
 | .scope a,_ :: r=>ar a r
 | c,_=>c
abbrev MTC:List Ct:=[.int .i64,.int .i64,.str,TRC,.sl true SC,.sl true BC,.sl false [.int .i64]]
abbrev PPC:List Ct:=[.int .i64,.int .i64]
noncomputable def KE4:Ctx:=(mkC PR bM (aV 42 gQ oY aK) aL aC aq aq).panics fun _ _=>False
noncomputable def KE8:Ctx:=(mkC PR bM (aH 43 m6 (aH 44 Ce aK)) aL aC aq aq).panics fun _ _=>False
noncomputable def bdC:Code:=bh Tryz.f20
noncomputable def bd4:Array Oper:=ax (ar bdC [1,1,1,1,0,0])
noncomputable def bd5:Array Oper:=ax (ar bdC [1,1,1,1,0,1,0,0,0])
noncomputable def bd6:Array Oper:=ax (ar bdC [1,1,1,1,0,1,0,0,1,1,0,0,0])
noncomputable def bdS:Code:=ar bdC [1,1,1,1,0,1,0,0,1,1,0,0,1,0]
noncomputable def bd7:Array Oper:=ax (ar bdS [0])
noncomputable def bd8:Array Oper:=ax (ar bdS [1,0])
noncomputable def bd9:Array Oper:=ax (ar bdS [1,1,0])
noncomputable def CY:Array Oper:=ax (ar bdS [1,1,1,1,0,0])
noncomputable def z6:Array Oper:=ax (ar bdS [1,1,1,1,0,1,0,0,0])
noncomputable def BG:Array Oper:=ax (ar bdS [1,1,1,1,0,1,0,0,1,1,0,0,0])
noncomputable def Aj:Array Oper:=ax (ar bdS [1,1,1,1,0,1,0,0,1,1,0,0,1,0])
noncomputable def AU:Array Oper:=ax (ar bdS [1,1,1,1,0,1,0,0,1,1,0,0,1,1,0,0])
noncomputable def AX:Array Oper:=ax (ar bdS [1,1,1,1,0,1,0,0,1,1,1])
noncomputable def Gg:Array Oper:=ax (ar bdS [1,1,1,1,1,0,0])
noncomputable def GZ:Array Oper:=ax (ar bdS [1,1,1,1,1,0,1,0,0])
noncomputable def l7:Array Oper:=ax (ar bdS [1,1,1,1,1,1,0])
noncomputable def GW:Array Oper:=ax (ar bdS [1,1,1,1,1,1,1,1,0])
noncomputable def IE:Array Oper:=ax (ar bdC [1,1,1,1,0,1,0,0,1,1,1])
theorem Cw (k:KSt) (c z s T S M Q:U):(ak KE4 bd4.toList bd4.toList ⟨[(2,.rptr MTC [c,z,s,T,S,M,Q])],[]⟩ k)=(gQ [[c,z,s,T,S,M,Q]]∧k (St.mk [(20,vi (U.i 0)),(19,vi (U.i (↑(List.length (ai (U.i (-1:Int)) T.list ++ ad 0 S.list)):Int))),(18,SV.val (Ct.sl true LNC) (U.l (ai (U.i
 (-1:Int)) T.list ++ ad 0 S.list))),(17,SV.agg [vi c,vi z,SV.val Ct.str s,SV.val (Ct.sl false [Ct.sl true EC]) T,SV.val (Ct.sl true [Ct.str,.int .i64,Ct.sl false [Ct.sl true EC]]) S,SV.val
 (Ct.sl true [Ct.str,Ct.bool,Ct.sl true [.int .i64,.int .i64]]) M,SV.val (Ct.sl false [.int .i64]) Q]),(2,SV.rptr [.int .i64,.int .i64,Ct.str,Ct.sl false [Ct.sl true EC],Ct.sl true [Ct.str,.int
 .i64,Ct.sl false [Ct.sl true EC]],Ct.sl true [Ct.str,Ct.bool,Ct.sl true [.int .i64,.int .i64]],Ct.sl false [.int .i64]] [c,z,s,T,S,M,Q])] [])):=by kernel_rfl
theorem Ch (k:KSt) (i n:U):(ak KW bd5.toList bd5.toList ⟨[(20,vi i),(19,vi n)],[]⟩ k)=(k (St.mk [(21,SV.val Ct.bool (U.b (decide (i.int < n.int)))),(20,vi i),(19,vi n)] [])):=by kernel_rfl
theorem E0 (k:KSt) (i L:U):(ak KW bd6.toList bd6.toList ⟨[(20,vi i),(18,vt LNC L)],[]⟩ k)=(bif decide ((0:Int)≤i.int∧i.int < (L.list.length:Int)) then k (St.mk [(9,.ptr 1152 0),(23,.agg [vi (nth (.i 0) (U.list (nth (.i 0) L.list i.int.toNat)) 0),vi (nth (.i 0) (List.tail (U.list (nth (.i 0) L.list i.int.toNat))) 0),vi (nth (.i 0) (List.tail (List.tail (U.list (nth (.i 0) L.list i.int.toNat)))) 0),vi (nth (.i 0) (List.tail (List.tail (List.tail (U.list (nth (.i 0) L.list i.int.toNat))))) 0),vi (nth (.i 0) (List.tail (List.tail (List.tail (List.tail (U.list (nth (.i 0) L.list i.int.toNat)))))) 0),vi (nth (.i 0) (List.tail (List.tail (List.tail (List.tail (List.tail (U.list (nth (.i 0) L.list i.int.toNat))))))) 0),.val (.int .u32) (nth (.i 0) (List.tail (List.tail (List.tail (List.tail (List.tail (List.tail (U.list (nth (.i 0) L.list i.int.toNat)))))))) 0)]),(22,.rptr LNC (U.list (nth (.i 0) L.list i.int.toNat))),(20,vi i),(18,.val (.sl true LNC) L)] [(1152,.box [vi (nth (.i 0) (U.list (nth (.i 0) L.list i.int.toNat)) 0),vi (nth (.i 0) (List.tail (U.list (nth (.i 0) L.list i.int.toNat))) 0),vi (nth (.i 0) (List.tail (List.tail (U.list (nth (.i 0) L.list i.int.toNat)))) 0),vi (nth (.i 0) (List.tail (List.tail (List.tail (U.list (nth (.i 0) L.list i.int.toNat))))) 0),vi (nth (.i 0) (List.tail (List.tail (List.tail (List.tail (U.list (nth (.i 0) L.list i.int.toNat)))))) 0),vi (nth (.i 0) (List.tail (List.tail (List.tail (List.tail (List.tail (U.list (nth (.i 0) L.list i.int.toNat))))))) 0),.val (.int .u32) (nth (.i 0) (List.tail (List.tail (List.tail (List.tail (List.tail (List.tail (U.list (nth (.i 0) L.list i.int.toNat)))))))) 0)])]) else False):=by kernel_rfl
theorem EU (k:KSt) (s q a b d e g:U):(ak KW bd7.toList bd7.toList ⟨[(9,.rptr LNC [s,q,a,b,d,e,g])],[]⟩ k)=(k (St.mk [(10,SV.ptr 1280 0),(30,SV.agg [vi (nth (U.i 0) (List.drop (1:Nat) (List.drop (2:Nat) [s,q,a,b,d,e,g])) (0:Nat)),vi (nth (U.i 0) (List.drop (2:Nat) (List.drop (2:Nat) [s,q,
 a,b,d,e,g])) (0:Nat))]),(29,vi (nth (U.i 0) (List.drop (2:Nat) (List.drop (2:Nat) [s,q,a,b,d,e,g])) (0:Nat))),(28,SV.rptr [.int .i64,.int .i64,.int .u32] [d,e,g]),(27,SV.rptr
 EC [a,b,d,e,g]),(26,vi (nth (U.i 0) (List.drop (1:Nat) (List.drop (2:Nat) [s,q,a,b,d,e,g])) (0:Nat))),(25,SV.rptr [.int .i64,.int .i64,.int .i64,.int .u32] [b,d,e,g]),(24,SV.rptr
 EC [a,b,d,e,g]),(9,SV.rptr LNC [s,q,a,b,d,e,g])] [(1280,Obj.box [vi (nth (U.i 0) (List.drop (1:Nat) (List.drop (2:Nat) [s,q,a,b,d,e,g])) (0:Nat)),vi (nth (U.i 0) (List.drop (2
 : Nat) (List.drop (2:Nat) [s,q,a,b,d,e,g])) (0:Nat))])])):=by kernel_rfl
theorem Dk (k:KSt) (F s q a b d e g c z t T S M Q:U):(ak KE8 bd8.toList bd8.toList ⟨[(9,.rptr LNC [s,q,a,b,d,e,g]),(1,.val (.sl false [.int .u8]) F),(2,.rptr MTC [c,z,t,T,S,M,Q])],[]⟩ k)=(k (St.mk [(12,vi (U.i (Prod.fst (gh [[nth (.i 0) (List.drop (2:Nat) [s,q,a,b,d,e,g]) 0,nth (.i 0) (List.tail (List.drop (2:Nat) [s,q,a,b,d,e,g])) 0,nth (.i 0) (List.tail (List.tail (List.drop (2:Nat) [s,q,a,b,d,e,g]))) 0,nth (.i 0) (List.tail (List.tail (List.tail (List.drop (2:Nat) [s,q,a,b,d,e,g])))) 0,nth (.i 0) (List.tail (List.tail (List.tail (List.tail (List.drop (2:Nat) [s,q,a,b,d,e,g]))))) 0],[F],[nth (.i 0) (List.drop (0:Nat) [c,z,t,T,S,M,Q]) 0]])))),(11,.val (.sl false [.int .u8]) (U.l (Prod.snd (gh [[nth (.i 0) (List.drop (2:Nat) [s,q,a,b,d,e,g]) 0,nth (.i 0) (List.tail (List.drop (2:Nat) [s,q,a,b,d,e,g])) 0,nth (.i 0) (List.tail (List.tail (List.drop (2:Nat) [s,q,a,b,d,e,g]))) 0,nth (.i 0) (List.tail (List.tail (List.tail (List.drop (2:Nat) [s,q,a,b,d,e,g])))) 0,nth (.i 0) (List.tail (List.tail (List.tail (List.tail (List.drop (2:Nat) [s,q,a,b,d,e,g]))))) 0],[F],[nth (.i 0) (List.drop (0:Nat) [c,z,t,T,S,M,Q]) 0]])))),(39,vi (U.i (Prod.fst (gh [[nth (.i 0) (List.drop (2:Nat) [s,q,a,b,d,e,g]) 0,nth (.i 0) (List.tail (List.drop (2:Nat) [s,q,a,b,d,e,g])) 0,nth (.i 0) (List.tail (List.tail (List.drop (2:Nat) [s,q,a,b,d,e,g]))) 0,nth (.i 0) (List.tail (List.tail (List.tail (List.drop (2:Nat) [s,q,a,b,d,e,g])))) 0,nth (.i 0) (List.tail (List.tail (List.tail (List.tail (List.drop (2:Nat) [s,q,a,b,d,e,g]))))) 0],[F],[nth (.i 0) (List.drop (0:Nat) [c,z,t,T,S,M,Q]) 0]])))),(38,.val (.sl false [.int .u8]) (U.l (Prod.snd (gh [[nth (.i 0) (List.drop (2:Nat) [s,q,a,b,d,e,g]) 0,nth (.i 0) (List.tail (List.drop (2:Nat) [s,q,a,b,d,e,g])) 0,nth (.i 0) (List.tail (List.tail (List.drop (2:Nat) [s,q,a,b,d,e,g]))) 0,nth (.i 0) (List.tail (List.tail (List.tail (List.drop (2:Nat) [s,q,a,b,d,e,g])))) 0,nth (.i 0) (List.tail (List.tail (List.tail (List.tail (List.drop (2:Nat) [s,q,a,b,d,e,g]))))) 0],[F],[nth (.i 0) (List.drop (0:Nat) [c,z,t,T,S,M,Q]) 0]])))),(31,.tup [.val (.sl false [.int .u8]) (U.l (Prod.snd (gh [[nth (.i 0) (List.drop (2:Nat) [s,q,a,b,d,e,g]) 0,nth (.i 0) (List.tail (List.drop (2:Nat) [s,q,a,b,d,e,g])) 0,nth (.i 0) (List.tail (List.tail (List.drop (2:Nat) [s,q,a,b,d,e,g]))) 0,nth (.i 0) (List.tail (List.tail (List.tail (List.drop (2:Nat) [s,q,a,b,d,e,g])))) 0,nth (.i 0) (List.tail (List.tail (List.tail (List.tail (List.drop (2:Nat) [s,q,a,b,d,e,g]))))) 0],[F],[nth (.i 0) (List.drop (0:Nat) [c,z,t,T,S,M,Q]) 0]]))),vi (U.i (Prod.fst (gh [[nth (.i 0) (List.drop (2:Nat) [s,q,a,b,d,e,g]) 0,nth (.i 0) (List.tail (List.drop (2:Nat) [s,q,a,b,d,e,g])) 0,nth (.i 0) (List.tail (List.tail (List.drop (2:Nat) [s,q,a,b,d,e,g]))) 0,nth (.i 0) (List.tail (List.tail (List.tail (List.drop (2:Nat) [s,q,a,b,d,e,g])))) 0,nth (.i 0) (List.tail (List.tail (List.tail (List.tail (List.drop (2:Nat) [s,q,a,b,d,e,g]))))) 0],[F],[nth (.i 0) (List.drop (0:Nat) [c,z,t,T,S,M,Q]) 0]])))]),(37,.tup [.val (.sl false [.int .u8]) (U.l (Prod.snd (gh [[nth (.i 0) (List.drop (2:Nat) [s,q,a,b,d,e,g]) 0,nth (.i 0) (List.tail (List.drop (2:Nat) [s,q,a,b,d,e,g])) 0,nth (.i 0) (List.tail (List.tail (List.drop (2:Nat) [s,q,a,b,d,e,g]))) 0,nth (.i 0) (List.tail (List.tail (List.tail (List.drop (2:Nat) [s,q,a,b,d,e,g])))) 0,nth (.i 0) (List.tail (List.tail (List.tail (List.tail (List.drop (2:Nat) [s,q,a,b,d,e,g]))))) 0],[F],[nth (.i 0) (List.drop (0:Nat) [c,z,t,T,S,M,Q]) 0]]))),vi (U.i (Prod.fst (gh [[nth (.i 0) (List.drop (2:Nat) [s,q,a,b,d,e,g]) 0,nth (.i 0) (List.tail (List.drop (2:Nat) [s,q,a,b,d,e,g])) 0,nth (.i 0) (List.tail (List.tail (List.drop (2:Nat) [s,q,a,b,d,e,g]))) 0,nth (.i 0) (List.tail (List.tail (List.tail (List.drop (2:Nat) [s,q,a,b,d,e,g])))) 0,nth (.i 0) (List.tail (List.tail (List.tail (List.tail (List.drop (2:Nat) [s,q,a,b,d,e,g]))))) 0],[F],[nth (.i 0) (List.drop (0:Nat) [c,z,t,T,S,M,Q]) 0]])))]),(36,vi (nth (.i 0) (List.drop (0:Nat) [c,z,t,T,S,M,Q]) 0)),(35,.rptr [.int .i64,.int .i64,Ct.str,Ct.sl false [.sl true EC],Ct.sl true [.str,.int .i64,Ct.sl false [.sl true EC]],Ct.sl true [.str,Ct.bool,Ct.sl true [.int .i64,.int .i64]],Ct.sl false [.int .i64]] [c,z,t,T,S,M,Q]),(34,.val (.sl false [.int .u8]) F),(33,.agg [vi (nth (.i 0) (List.drop (2:Nat) [s,q,a,b,d,e,g]) 0),vi (nth (.i 0) (List.tail (List.drop (2:Nat) [s,q,a,b,d,e,g])) 0),vi (nth (.i 0) (List.tail (List.tail (List.drop (2:Nat) [s,q,a,b,d,e,g]))) 0),vi (nth (.i 0) (List.tail (List.tail (List.tail (List.drop (2:Nat) [s,q,a,b,d,e,g])))) 0),.val (.int .u32) (nth (.i 0) (List.tail (List.tail (List.tail (List.tail (List.drop (2:Nat) [s,q,a,b,d,e,g]))))) 0)]),(32,.rptr EC [a,b,d,e,g]),(9,.rptr LNC [s,q,a,b,d,e,g]),(1,.val (.sl false [.int .u8]) F),(2,.rptr [.int .i64,.int .i64,Ct.str,Ct.sl false [.sl true EC],Ct.sl true [.str,.int .i64,Ct.sl false [.sl true EC]],Ct.sl true [.str,Ct.bool,Ct.sl true [.int .i64,.int .i64]],Ct.sl false [.int .i64]] [c,z,t,T,S,M,Q])] [])):=by kernel_rfl
theorem Dy (k:KSt) (i:U):(ak KW bd9.toList bd9.toList ⟨[(12,.val (.int .i64) i)],[]⟩ k)=(k (St.mk [(13,SV.val Ct.bool (U.b (i.int != 0))),(41,SV.val Ct.bool (U.b (i.int != 0))),(40,vi i),(12,vi i)] [])):=by kernel_rfl
theorem BX (k:KSt) (A:U):(ak KW CY.toList CY.toList ⟨[(6,vt PPC A)],[]⟩ k)=(k (St.mk [(44,vi (U.i 0)),(43,vi (U.i (↑(List.length A.list):Int))),(42,SV.val (Ct.sl true [.int .i64,.int .i64]) A),(6,SV.val (Ct.sl true [.int .i64,.int .i64]) A)] [])):=by kernel_rfl
theorem qX (k:KSt) (i n:U):(ak KW z6.toList z6.toList ⟨[(44,vi i),(43,vi n)],[]⟩ k)=(k (St.mk [(45,SV.val Ct.bool (U.b (decide (i.int < n.int)))),(44,vi i),(43,vi n)] [])):=by kernel_rfl
theorem AR (k:KSt) (i A:U):(ak KW BG.toList BG.toList ⟨[(44,vi i),(42,vt PPC A)],[]⟩ k)=(bif decide ((0:Int)≤i.int∧i.int < (↑(List.length A.list):Int)) then k (St.mk [(15,SV.ptr 1920 0),(47,SV.agg [vi (nth (U.i 0) (U.list (nth (U.i 0) A.list (Int.toNat i.int))) (0:Nat)),vi (nth
 (U.i 0) (List.tail (U.list (nth (U.i 0) A.list (Int.toNat i.int)))) (0:Nat))]),(46,SV.rptr [.int .i64,.int .i64] (U.list (nth (U.i 0) A.list (Int.toNat i.int)))),(44,vi i),(42,SV.val (Ct.sl true
 [.int .i64,.int .i64]) A)] [(1920,Obj.box [vi (nth (U.i 0) (U.list (nth (U.i 0) A.list (Int.toNat i.int))) (0:Nat)),vi (nth (U.i 0) (List.tail (U.list (nth (U.i 0) A.list (Int.toNat i.int)))) (0 :
 Nat))])]) else False):=by kernel_rfl
theorem Ab (k:KSt) (a b d e:U):(ak KE8 Aj.toList Aj.toList ⟨[(10,.rptr PPC [a,b]),(15,.rptr PPC [d,e])],[]⟩ k)=(k (St.mk [(50,SV.val Ct.bool (U.b (rK a.int b.int d.int e.int))),(49,SV.agg [vi d,vi e]),(48,SV.agg [vi a,vi b]),(10,SV.rptr [.int .i64,.int .i64] [a,b]),(15,SV.rptr [.int .i64,.int .i64]
 [d,e])] [])):=by kernel_rfl
theorem zO (k:KSt):(ak KW AU.toList AU.toList ⟨[],[]⟩ k)=(k (St.mk [(13,SV.val Ct.bool (U.b true))] [])):=by kernel_rfl
theorem At (k:KSt) (i:U):(ak KW AX.toList AX.toList ⟨[(44,vi i)],[]⟩ k)=(k (St.mk [(44,vi (U.i (IntKind.wrap IntKind.i64 (i.int + 1)))),(51,vi (U.i (IntKind.wrap IntKind.i64 (i.int + 1)))),(44,vi i)] [])):=by kernel_rfl
theorem Bz (k:KSt) (s:Bool):(ak KW Gg.toList Gg.toList ⟨[(13,vb (.b s))],[]⟩ k)=(k (St.mk [(52,SV.val Ct.bool (U.b s)),(13,SV.val Ct.bool (U.b s))] [])):=by kernel_rfl
theorem z4 (k:KSt) (s q a b d e g:U) (X:List U):(ak KW GZ.toList GZ.toList ⟨[(5,.own 2),(9,.rptr LNC [s,q,a,b,d,e,g])],[(2,.arr 80 X)]⟩ k)=(bif decide (List.length X + 1≤room) && true then k (St.mk [(5,SV.own 2),(60,SV.own 2),(59,SV.own 7678),(58,SV.agg [vi (nth (U.i 0) (List.drop (0:Nat) [s,q,a,b,d,e,g]) (0:Nat)),vi (nth
 (U.i 0) (List.drop (1:Nat) [s,q,a,b,d,e,g]) (0:Nat))]),(57,vi (nth (U.i 0) (List.drop (1:Nat) [s,q,a,b,d,e,g]) (0:Nat))),(56,SV.rptr [.int .i64,.int .i64,.int .i64,.int .i64,
 .int .i64,.int .u32] [q,a,b,d,e,g]),(55,vi (nth (U.i 0) (List.drop (0:Nat) [s,q,a,b,d,e,g]) (0:Nat))),(54,SV.rptr LNC [s,q,a,b,d,e,g]),(53,SV.unk),(5,SV.unk),(9,SV.rptr
 LNC [s,q,a,b,d,e,g])] [(2,Obj.arr 80 (X ++ [U.l [nth (U.i 0) (List.drop (0:Nat) [s,q,a,b,d,e,g]) (0:Nat),nth (U.i 0) (List.drop (1:Nat) [s,q,a,b,d,e,g]) (0:Nat)]])),(7678,
 Obj.arr 80 [U.l [nth (U.i 0) (List.drop (0:Nat) [s,q,a,b,d,e,g]) (0:Nat),nth (U.i 0) (List.drop (1:Nat) [s,q,a,b,d,e,g]) (0:Nat)]])]) else False):=by kernel_rfl
theorem BS (k:KSt) (a b:U) (X:List U):(ak KW GW.toList GW.toList ⟨[(6,.own 2),(10,.rptr PPC [a,b])],[(2,.arr 92 X)]⟩ k)=(bif decide (List.length X + 1≤room) && true then k (St.mk [(6,SV.own 2),(74,SV.own 2),(73,SV.own 9470),(72,SV.agg [vi a,vi b]),(71,SV.unk),(6,SV.unk),(10,SV.rptr [.int .i64,.int .i64]
 [a,b])] [(2,Obj.arr 92 (X ++ [U.l [a,b]])),(9470,Obj.arr 92 [U.l [a,b]])]) else False):=by kernel_rfl
theorem AM (k:KSt) (i:U):(ak KW IE.toList IE.toList ⟨[(20,vi i)],[]⟩ k)=(k (St.mk [(20,vi (U.i (IntKind.wrap IntKind.i64 (i.int + 1)))),(75,vi (U.i (IntKind.wrap IntKind.i64 (i.int + 1)))),(20,vi i)] [])):=by kernel_rfl
end Go.Mat

namespace Go.Mat
open Go Go.Den Go.Proofs Go.RowKit
set_option maxRecDepth 100000
theorem pZ:Fh PR 90 92 3 where
 map:=by kernel_rfl
 eq:=by kernel_rfl
 key:=⟨((match PR.underlying 92 with | some (.struct fs)=>fs | _=>#[])[0]?).getD default,((match PR.underlying 92 with | some (.struct fs)=>fs | _=>#[])[1]?).getD default,by kernel_rfl,by simp,by simp,by kernel_rfl,by kernel_rfl,by kernel_rfl,by kernel_rfl⟩
 zero:=⟨(PR.info? 3).getD default,by kernel_rfl,by kernel_rfl⟩
theorem uTk:∃ d,PR.underlying 92=some d∧pj d=true:=⟨(PR.underlying 92).getD .bool,by kernel_rfl,by kernel_rfl⟩
theorem JV:cI PR 92=some 2:=by kernel_rfl
noncomputable def bdO (i:Nat):Oper:=(l7[i]?).getD default
theorem C1:(∀ i,i < 7→l7[i]? = some (bdO i))∧(∀ i,i < 7→(bdO i).guard=none):=by
 have hs:l7.size=7:=by kernel_rfl
 have hg:l7.toList.all (fun o=>o.guard.isNone)=true:=by kernel_rfl
 have key:∀ i,i < 7→∃ h:i < l7.size,l7[i]? = some l7[i]∧bdO i=l7[i]:=fun i hi=>by
  have h:i < l7.size:=by rw [hs];exact hi
  have h2:=Array.getElem?_eq_getElem h
  exact ⟨h,h2,by unfold bdO;rw [h2];rfl⟩
 refine ⟨fun i hi=>?_,fun i hi=>?_⟩<;>obtain ⟨h,h1,h2⟩:=key i hi
 ·rw [h1,h2]
 ·rw [h2]
  exact Option.isNone_iff_eq_none.1 (List.all_eq_true.1 hg _ (Array.getElem_mem_toList h))
structure P18 (a0:Act) (Bm:Nat) (k:PK) (a:Act):Prop where
 size:a.tmps.size=77
 calm:a.defers=a0.defers
 e61:a.eval (.tmp 61) = .map (some Bm)
 e62:a.eval (.tmp 62)=kvP k
 low:∀ t:Nat,t < 61→a.eval (.tmp t)=a0.eval (.tmp t)
theorem P18.put {a0 a:Act} {Bm:Nat} {k:PK} (h:P18 a0 Bm k a) {d:Nat} {v:Value} (hd:d < 77) (h0:62 < d):P18 a0 Bm k (a.put (some d) v):=
 ⟨by rw [size_put];exact h.size,by rw [aP];exact h.calm,by rw [ae (show d≠61 by omega)];exact h.e61,by rw [ae (show d≠62 by omega)];exact h.e62,fun t ht=>by rw [ae (show d≠t by omega)];exact h.low t ht⟩
theorem ES (n:Int) (h:IntKind.i64.min≤n∧n + 1≤IntKind.i64.max) (w:World):(binOp .add 3 (.int .i64 n) (.int .i64 1)).run PR w = .ok (.int .i64 (n + 1)) w:=by
 have h4:IntKind.i64.wrap (n + 1)=n + 1:=i64_in (by have:=h.1;have e:IntKind.i64.min = -(2 ^ 63:Int):=rfl;omega) (by have:=h.2;have e:IntKind.i64.max=2 ^ 63 - 1:=rfl;omega)
 simp [binOp,Op.intArith,h4]
theorem rp {w:World} {o:Oper} {a:Act} {x:Operand} {b:Nat} {k:PK} {K:Act→World→Prop} {Q:Exit→Act→World→Prop} (ho:o.op = .load 92 x) (hx:a.eval x = .pointer (some ⟨b,0,none⟩)) (h0:w.cell? ⟨b,0,none⟩=some (.int .i64 k.1)) (h1:w.cell? ⟨b,1,none⟩=some (.int .i64 k.2)) (hk:K (a.put o.dst (kvP k)) w):o.wp PR a w K Q:=by
 obtain ⟨d,hd,ha⟩:=uTk
 exact kT ho hx (cU (vs:=[.int .i64 k.1,.int .i64 k.2]) hd ha JV rfl (fun j u hj=>by
  match j,hj with
  | 0,hj=>simp at hj;subst hj;exact h0
  | 1,hj=>simp at hj;subst hj;exact h1
  | j + 2,hj=>simp at hj)) hk
theorem HJ {a:Act} {w:World} {Bm b:Nat} {k:PK} {es:List (PK × Int)} (hs:a.tmps.size=77) (h7:a.eval (.tmp 7) = .map (some Bm)) (h10:a.eval (.tmp 10) = .pointer (some ⟨b,0,none⟩)) (c0:w.cell? ⟨b,0,none⟩=some (.int .i64 k.1)) (c1:w.cell? ⟨b,1,none⟩=some (.int .i64 k.2))
  (hM:iN w Bm es) (hg:0≤bI k es∧bI k es≤1073741824):(Code.region (av (ar bdS [1,1,1,1,1,1,0])) l7 true).wp PR (fun e a' w'=>e = .normal∧iN w' Bm (c7 k (bI k es + 1) es)∧a'.tmps.size=77∧a'.defers=a.defers∧(∀ t:Nat,t < 61→a'.eval (.tmp t)=a.eval (.tmp t))∧
    Fut (fun c=>c=Bm) w w'∧w'.heap.size=w.heap.size) a w:=by
 obtain ⟨Q,hQ⟩:∃ Q:Exit→Act→World→Prop,Q=fun e a' w'=>e = .normal∧iN w' Bm (c7 k (bI k es + 1) es)∧a'.tmps.size=77∧a'.defers=a.defers∧(∀ t:Nat,t < 61→a'.eval (.tmp t)=a.eval (.tmp t))∧Fut (fun c=>c=Bm) w w'∧w'.heap.size=w.heap.size:=⟨_,rfl⟩
 rw [← hQ]
 have hQp:∀ c a w d v,Q (.panic c) (a.put d v) w→Q (.panic c) a w:=fun _ _ _ _ _ h=>by rw [hQ] at h;cases h.1
 have at_:=C1.1
 have gd:=C1.2
 refine wp_region_any af ?_
 rw [show l7.size=7 by kernel_rfl]
 generalize hw0:({ w with drawn:=w.drawn + 1 }:World)=w0
 have F0:Fut (fun c=>c=Bm) w w0:=by rw [← hw0];exact ⟨rfl,rfl,rfl,Nat.le_refl _,fun _ _ _=>rfl⟩
 have hz0:w0.heap.size=w.heap.size:=by rw [← hw0]
 have c0':w0.cell? ⟨b,0,none⟩=some (.int .i64 k.1):=by rw [← hw0];exact c0
 have c1':w0.cell? ⟨b,1,none⟩=some (.int .i64 k.2):=by rw [← hw0];exact c1
 have hM0:iN w0 Bm es:=by rw [← hw0];exact hM
 clear hM c0 c1 hw0
 refine wpAny_take (i:=0) (oi:=bdO 0) (v:=.map (some Bm)) (at_ 0 (by decide)) (by kernel_rfl) (by kernel_rfl) (by kernel_rfl) (fun _ _ _ h=>hQp _ _ _ _ _ h) (fI (gd 0 (by decide)) fun w=>?_) ?_
 ·have:=run_move (P:=PR) (o:=bdO 0) (a:=a) (x:=.tmp 7) (by kernel_rfl) w
  rw [this,h7]
 rw [show (bdO 0).dst=some 61 by kernel_rfl]
 refine wpAny_all (rs:=[1]) (by kernel_rfl) (by decide) fun i hi=>?_
 have hi:i=1:=by simpa using hi
 subst hi
 refine cB (at_ 1 (by decide)) (gd 1 (by decide)) (rp (k:=k) (x:=.tmp 10) (by kernel_rfl) (by rw [ae (by decide)];exact h10) c0' c1' ?_)
 rw [show (bdO 1).dst=some 62 by kernel_rfl]
 generalize ha2:(a.put (some 61) (.map (some Bm))).put (some 62) (kvP k)=a2
 have A2:P18 a Bm k a2:=by
  rw [← ha2]
  exact ⟨by simp only [size_put];exact hs,by simp only [aP],by rw [ae (by decide),ay (by omega)],by rw [ay (by rw [size_put];omega)],fun t ht=>by rw [ae (show 62≠t by omega),ae (show 61≠t by omega)]⟩
 clear ha2
 have hwrap:=ES (bI k es) ⟨by have e:IntKind.i64.min = -(2 ^ 63:Int):=rfl;omega,by have e:IntKind.i64.max=2 ^ 63 - 1:=rfl;omega⟩
 have y3:∀ (a3:Act),a3.eval (.tmp 63) = .int .i64 (bI k es)→∀ w,(execOp a3.eval (bdO 3)).run PR w = .ok (.value (.int .i64 (bI k es + 1))) w:=fun a3 h w=>by
  have ho:(bdO 3).op = .binOp .add 3 (.tmp 63) (.const (.int .i64 1)) 3:=by kernel_rfl
  have hc:a3.eval (.const (.int .i64 1)) = .int .i64 1:=rfl
  simp only [execOp,ho,Sem.run_bind,h,hc,kn,Result.andThen,hwrap]
  rfl
 have y5:∀ (a3:Act),a3.eval (.tmp 65) = .tuple #[.int .i64 (bI k es),.int .i64 (dL k es)]→∀ w,(execOp a3.eval (bdO 5)).run PR w = .ok (.value (.int .i64 (dL k es))) w:=fun a3 h w=>by
  have ho:(bdO 5).op = .extract (.tmp 65) 1:=by kernel_rfl
  simp [execOp,ho,h,Instr.extract]
 have fin:∀ (l:Array Bool) (a3:Act) (w3:World),l = #[true,true,true,true,true,true,false]→P18 a Bm k a3→a3.eval (.tmp 64) = .int .i64 (bI k es + 1)→a3.eval (.tmp 66) = .int .i64 (dL k es:Nat)→iN w3 Bm (c7 k (bI k es) es)→Fut (fun c=>c=Bm) w w3→w3.heap.size=w.heap.size→wpAny PR .any l7 Q 1 l a3 w3:=by
  intro l a3 w3 hl A h64 h66 hM3 F3 hz3
  subst hl
  obtain ⟨q1,q2,q3,q4⟩:=kj (k:=k) (u:=bI k es) (v:=bI k es + 1) (es:=es)
  refine wpAny_all (rs:=[6]) (by kernel_rfl) (by decide) fun i hi=>?_
  have hi:i=6:=by simpa using hi
  subst hi
  refine cB (at_ 6 (by decide)) (gd 6 (by decide)) (yw pZ (x:=.tmp 61) (y:=.tmp 66) (z:=.tmp 64) (k:=k) (es:=c7 k (bI k es) es) (kd:=.i64) (by kernel_rfl) A.e61 (by rw [q3];exact h66) h64 q2 hM3 fun w4 hM4 g4 hz4=>?_)
  rw [show (bdO 6).dst=none by kernel_rfl,iZ]
  refine wpAny_done (by kernel_rfl) ?_ 0
  rw [hQ]
  exact ⟨rfl,by rw [q1] at hM4;exact hM4,A.size,A.calm,A.low,F3.trans (cK (M:=fun c=>c=Bm) g4 fun c e=>by injection e with e;exact e.symm) (fun _ h=>h) (fun _ _ h=>h),hz4.trans hz3⟩
 refine wpAny_all (rs:=[2,4]) (by kernel_rfl) (by decide) fun i hi=>?_
 rcases (by simpa using hi:i=2∨i=4) with rfl | rfl
 ·refine cB (at_ 2 (by decide)) (gd 2 (by decide)) (kg pZ (x:=.tmp 61) (y:=.tmp 62) (by kernel_rfl) A2.e61 A2.e62 hM0 ?_)
  rw [show (bdO 2).dst=some 63 by kernel_rfl]
  have A3:=A2.put (d:=63) (v:=.int .i64 (bI k es)) (by decide) (by decide)
  refine wpAny_take (i:=3) (oi:=bdO 3) (v:=.int .i64 (bI k es + 1)) (at_ 3 (by decide)) (by kernel_rfl) (by kernel_rfl) (by kernel_rfl) (fun _ _ _ h=>hQp _ _ _ _ _ h) (fI (gd 3 (by decide)) (y3 _ (by rw [ay (by rw [A2.size];decide)]))) ?_
  rw [show (bdO 3).dst=some 64 by kernel_rfl]
  have A4:=A3.put (d:=64) (v:=.int .i64 (bI k es + 1)) (by decide) (by decide)
  refine wpAny_all (rs:=[4]) (by kernel_rfl) (by decide) fun i hi=>?_
  have hi:i=4:=by simpa using hi
  subst hi
  refine cB (at_ 4 (by decide)) (gd 4 (by decide)) (qb pZ (x:=.tmp 61) (y:=.tmp 62) (by kernel_rfl) A4.e61 A4.e62 hM0 fun w3 hM3 g3 hz3=>?_)
  rw [show (bdO 4).dst=some 65 by kernel_rfl]
  have A5:=A4.put (d:=65) (v:=.tuple #[.int .i64 (bI k es),.int .i64 (dL k es)]) (by decide) (by decide)
  refine wpAny_take (i:=5) (oi:=bdO 5) (v:=.int .i64 (dL k es)) (at_ 5 (by decide)) (by kernel_rfl) (by kernel_rfl) (by kernel_rfl) (fun _ _ _ h=>hQp _ _ _ _ _ h) (fI (gd 5 (by decide)) (y5 _ (by rw [ay (by rw [A4.size];decide)]))) ?_
  rw [show (bdO 5).dst=some 66 by kernel_rfl]
  refine fin _ _ _ (by kernel_rfl) (A5.put (by decide) (by decide)) ?_ (by rw [ay (by rw [A5.size];decide)]) hM3 (F0.trans (cK (M:=fun c=>c=Bm) g3 fun c e=>by injection e with e;exact e.symm) (fun _ h=>h) (fun _ _ h=>h)) (hz3.trans hz0)
  rw [ae (by decide),ae (by decide),ay (by rw [A3.size];decide)]
 ·refine cB (at_ 4 (by decide)) (gd 4 (by decide)) (qb pZ (x:=.tmp 61) (y:=.tmp 62) (by kernel_rfl) A2.e61 A2.e62 hM0 fun w3 hM3 g3 hz3=>?_)
  rw [show (bdO 4).dst=some 65 by kernel_rfl]
  have A3:=A2.put (d:=65) (v:=.tuple #[.int .i64 (bI k es),.int .i64 (dL k es)]) (by decide) (by decide)
  refine wpAny_take (i:=5) (oi:=bdO 5) (v:=.int .i64 (dL k es)) (at_ 5 (by decide)) (by kernel_rfl) (by kernel_rfl) (by kernel_rfl) (fun _ _ _ h=>hQp _ _ _ _ _ h) (fI (gd 5 (by decide)) (y5 _ (by rw [ay (by rw [A2.size];decide)]))) ?_
  rw [show (bdO 5).dst=some 66 by kernel_rfl]
  have A4:=A3.put (d:=66) (v:=.int .i64 (dL k es)) (by decide) (by decide)
  obtain ⟨q1,q2,q3,q4⟩:=kj (k:=k) (u:=bI k es) (v:=bI k es + 1) (es:=es)
  refine wpAny_all (rs:=[2]) (by kernel_rfl) (by decide) fun i hi=>?_
  have hi:i=2:=by simpa using hi
  subst hi
  refine cB (at_ 2 (by decide)) (gd 2 (by decide)) (kg pZ (x:=.tmp 61) (y:=.tmp 62) (by kernel_rfl) A4.e61 A4.e62 hM3 ?_)
  rw [show (bdO 2).dst=some 63 by kernel_rfl,q4]
  have A5:=A4.put (d:=63) (v:=.int .i64 (bI k es)) (by decide) (by decide)
  refine wpAny_take (i:=3) (oi:=bdO 3) (v:=.int .i64 (bI k es + 1)) (at_ 3 (by decide)) (by kernel_rfl) (by kernel_rfl) (by kernel_rfl) (fun _ _ _ h=>hQp _ _ _ _ _ h) (fI (gd 3 (by decide)) (y3 _ (by rw [ay (by rw [A4.size];decide)]))) ?_
  rw [show (bdO 3).dst=some 64 by kernel_rfl]
  refine fin _ _ _ (by kernel_rfl) (A5.put (by decide) (by decide)) (by rw [ay (by rw [A5.size];decide)]) ?_ hM3 (F0.trans (cK (M:=fun c=>c=Bm) g3 fun c e=>by injection e with e;exact e.symm) (fun _ h=>h) (fun _ _ h=>h)) (hz3.trans hz0)
  rw [ae (by decide),ae (by decide),ay (by rw [A3.size];decide)]
theorem I3:cd (ar bdS [1,1,1,1,1,1,1,0]) [(some 67,.move (.tmp 7)),(some 68,.load 92 (.tmp 10)),(some 69,.lookup 90 (.tmp 67) (.tmp 68) false),(some 70,.binOp .eql 3 (.tmp 69) (.const (.int .i64 1)) 3)]:=
 ⟨av (ar bdS [1,1,1,1,1,1,1,0]),ax (ar bdS [1,1,1,1,1,1,1,0]),by kernel_rfl,by kernel_rfl,by kernel_rfl⟩
theorem HU {a:Act} {w:World} {Bm b:Nat} {k:PK} {es:List (PK × Int)} (hs:a.tmps.size=77) (h7:a.eval (.tmp 7) = .map (some Bm)) (h10:a.eval (.tmp 10) = .pointer (some ⟨b,0,none⟩)) (c0:w.cell? ⟨b,0,none⟩=some (.int .i64 k.1)) (c1:w.cell? ⟨b,1,none⟩=some (.int .i64 k.2))
  (hM:iN w Bm es):(ar bdS [1,1,1,1,1,1,1,0]).wp PR (fun e a' w'=>e = .normal∧w' = w∧a'.tmps.size=77∧a'.defers=a.defers∧(∀ t:Nat,t < 67→a'.eval (.tmp t)=a.eval (.tmp t))∧a'.eval (.tmp 70) = .bool (bI k es == 1)) a w:=by
 refine bQ I3 ?_
 simp only [wpL]
 intro o hd ho
 refine jy ho ?_
 rw [hd]
 clear hd ho o
 intro o hd ho
 refine rp ho (by rw [ae (by decide)];exact h10) c0 c1 ?_
 rw [hd]
 clear hd ho o
 intro o hd ho
 refine kg pZ ho (by rw [ae (by decide),ay (by omega)];exact h7) (by rw [ay (by rw [size_put];omega)]) hM ?_
 rw [hd]
 clear hd ho o
 intro o hd ho
 refine fi (C:=KW) (i:=.i64) (j:=.i64) (m:=bI k es) (n:=1) (v:=.bool (bI k es == 1)) ho (by rw [ay (by simp only [size_put];omega)]) rfl (by simp [binOp,Op.intCmp]) ?_
 rw [hd]
 clear hd ho o
 exact ⟨by trivial,rfl,by simp only [size_put];exact hs,by simp only [aP],fun t ht=>by rw [ae (show 70≠t by omega),ae (show 69≠t by omega),ae (show 68≠t by omega),ae (show 67≠t by omega)],by rw [ay (by simp only [size_put];omega)]⟩
end Go.Mat

namespace Go.Mat
open Go Go.Den Go.Proofs Go.RowKit
set_option maxRecDepth 100000
abbrev lnU (l:U) (k:Nat):U:=U.at l.list k
def bT (l:U):PK:=((lnU l 3).int,(lnU l 4).int)
def pkU (k:PK):U:=.l [.i k.1,.i k.2]
def fh (t o:PK):Bool:=rK t.1 t.2 o.1 o.2
def dm (F:List U) (c:Int) (l:U):Bool:=(cbX (lnU l 2).int (lnU l 3).int (lnU l 4).int (lnU l 5).int (lnU l 6).int c F).1 != 0
def bu (F:List U) (c:Int) (st:List U × List PK) (l:U):List U × List PK:=
 bif dm F c l || st.2.any (fh (bT l)) then (st.1 ++ [.l [lnU l 0,lnU l 1]],st.2) else (st.1,bif decide (bT l ∈ st.2) then st.2 else st.2 ++ [bT l])
def qz (F:List U) (c:Int) (ls:List U):List U × List PK:=ls.foldl (bu F c) ([],[])
abbrev tJ (us:List (List U)):List U:=ai (.i (-1)) (nth (.i 0) (nth [] us 0) 3).list ++ ad 0 (nth (.i 0) (nth [] us 0) 4).list
def HO:List (List U)→List (List U):=fun us=>[[.l (qz (nth (.i 0) (nth [] us 1) 0).list (nth (.i 0) (nth [] us 0) 0).int (tJ us)).1]]
def ta:List (List U)→Prop:=fun us=>gQ us∧(tJ us).length≤536870912
theorem HQ:KE4.Ok:=(aB ao af (.consP sk .nil) .nil).panics _
theorem CK:KE8.Ok:=(aB ao af (.cons xl (.cons FJ .nil)) .nil).panics _
def dd (lo:Nat) (cs:List Ct) (us:List U) (w:World) (v:Value):Prop:=∃ b,v = .pointer (some ⟨b,0,none⟩)∧lo≤b∧b < w.heap.size∧bz w (fun _=>False) cs b 0 us
theorem dd.next {lo:Nat} {cs:List Ct} {us:List U} {w w':World} {v:Value} (h:dd lo cs us w v) (hz:w.heap.size≤w'.heap.size) (ho:∀ b,lo≤b→b < w.heap.size→w'.heap[b]? = w.heap[b]?):dd lo cs us w' v:=by
 obtain ⟨b,h1,h2,h3,h4⟩:=h
 exact ⟨b,h1,h2,by omega,bz.mono ⟨fun _ h=>h,fun _ h=>h.elim⟩ cs _ _ _ (ho b h2 h3) h4⟩
theorem dd.rep {lo:Nat} {cs:List Ct} {us:List U} {w:World} {v:Value} {G:Nat→Value} {Z:Nat→Prop} (h:dd lo cs us w v) (hZ:∀ b,v = .pointer (some ⟨b,0,none⟩)→Z b):ag w Z G (.rptr cs us) v:=by
 obtain ⟨b,h1,h2,h3,h4⟩:=h
 exact ⟨b,0,h1,hZ b h1,bz.mono ⟨fun _ h=>h.elim,fun _ h=>h.elim⟩ cs _ _ _ rfl h4⟩
theorem tn {Θ:Anc} {n:Nat} {σ:St} {a:Act} {w:World} {Z:Nat→Prop} {G:Nat→Value} (S:Sim PR Θ n σ a w Z G) (hM:∀ b,¬ Θ.M b) (hN:∀ b,¬ Θ.N b) {t id:Nat} {cs:List Ct} {us:List U} (hs:ek cs=true) (h1:get σ.env t = .ptr id 0) (h2:az σ.objs id=some (.box (vals cs us))) :
  dd Θ.w.heap.size cs us w (a.eval (.tmp t)):=by
 have r:=S.slot t
 rw [h1] at r
 obtain ⟨b,hb,hv⟩:=r
 obtain ⟨b',ty,c,g1,g2,g3⟩:=S.obj id _ h2
 rw [hb] at g1
 cases g1
 refine ⟨b,hv,?_,(Array.getElem?_eq_some_iff.1 g2).1,?_⟩
 ·rcases (S.free id _ b h2 (by rw [hb];rfl)).2 with h | h | h
  ·exact (hM b h).elim
  ·exact (hN b h).elim
  ·exact h
 ·refine aX.cells (aX.scal (Z':=fun _=>False) hs (ab.repL g3)) fun j u hj=>?_
  rw [cell_of_row w b (0 + j) c ty (0,0) g2,Nat.zero_add,← hj,Array.getElem?_toList]
theorem mj {w:World} {Z:Nat→Prop} {G:Nat→Value} {a:Act}:∀ {ex:List (Nat × SV)},(∀ p ∈ ex,ag w Z G p.2 (a.tmps.getD p.1 undef))→∀ t,ag w Z G (get ex t) (a.tmps.getD t undef)
 | [],_,_=>trivial
 | p :: r,h,t=>by
  rw [aF]
  split
  ·rename_i e;subst e;exact h p (List.mem_cons_self ..)
  ·exact mj (fun q hq=>h q (List.mem_cons_of_mem _ hq)) t
structure Bd0 (w0 wt:World) (Bm:Nat) (Zs:Nat→Prop) (vF vL:Value) (c z s T Sh M Q F:U) (L:List U):Prop where
 lo:w0.heap.size < Bm
 hi:Bm < wt.heap.size
 zs:∀ b,Zs b→b < wt.heap.size∧b≠Bm
 file:aR wt Zs (.sl false [.int .u8]) vF F
 lines:aR wt Zs (.sl true LNC) vL (.l L)
 meta_:bz wt Zs MTC w0.heap.size 0 [c,z,s,T,Sh,M,Q]
 zn:Zs w0.heap.size
structure BdI (w0 wt:World) (Bm:Nat) (vF vL v5 v6:Value) (n:Nat) (out:List U) (all:List PK) (es:List (PK × Int)) (a:Act) (w:World):Prop where
 size:a.tmps.size=77
 calm:a.defers=[]
 e1:a.eval (.tmp 1)=vF
 e2:a.eval (.tmp 2) = .pointer (some ⟨w0.heap.size,0,none⟩)
 e18:a.eval (.tmp 18)=vL
 e19:a.eval (.tmp 19) = .int .i64 (n:Int)
 e7:a.eval (.tmp 7) = .map (some Bm)
 old:∀ b,b < wt.heap.size→b≠Bm→w.heap[b]? = wt.heap[b]?
 ge:wt.heap.size≤w.heap.size
 fut:Fut (fun _=>False) w0 w
 mapB:iN w Bm es
 e5:a.eval (.tmp 5)=v5
 e6:a.eval (.tmp 6)=v6
 d5:fe w 80 PPC v5 (.l out)
 b5:∀ b,v5.ownBlock=some b→wt.heap.size≤b
 d6:fe w 92 PPC v6 (.l (all.map pkU))
 b6:∀ b,v6.ownBlock=some b→wt.heap.size≤b
 sep:∀ b,v5.ownBlock=some b→v6.ownBlock≠some b
section
variable {w0 wt:World} {Bm:Nat} {Zs:Nat→Prop} {vF vL v5 v6:Value} {c z s T Sh M Qc F:U} {L:List U} {n:Nat} {out:List U} {all:List PK} {es:List (PK × Int)} {a a':Act} {w w':World}
theorem BdI.next (H:BdI w0 wt Bm vF vL v5 v6 n out all es a w) (hs:a'.tmps.size=77) (hd:a'.defers=a.defers) (he:∀ t,dZ t [1,2,5,6,7,18,19]=true→a'.eval (.tmp t)=a.eval (.tmp t)) (Fw:Fut (fun _=>False) w w') (hm:Bm < w.heap.size):BdI w0 wt Bm vF vL v5 v6 n out all es a' w' where
 size:=hs
 calm:=hd.trans H.calm
 e1:=(he 1 rfl).trans H.e1
 e2:=(he 2 rfl).trans H.e2
 e18:=(he 18 rfl).trans H.e18
 e19:=(he 19 rfl).trans H.e19
 e7:=(he 7 rfl).trans H.e7
 old:=fun b hb hn=>(Fw.block b (by have:=H.ge;omega) id).trans (H.old b hb hn)
 ge:=Nat.le_trans H.ge Fw.size
 fut:=H.fut.trans Fw (fun _ h=>h) (fun _ _ h=>h)
 mapB:=(Fw.block Bm hm id).trans H.mapB
 e5:=(he 5 rfl).trans H.e5
 e6:=(he 6 rfl).trans H.e6
 d5:=H.d5.same fun b hb=>Fw.block b (H.d5.lt hb) id
 b5:=H.b5
 d6:=H.d6.same fun b hb=>Fw.block b (H.d6.lt hb) id
 b6:=H.b6
 sep:=H.sep
theorem dz {C:Ctx} (hP:C.P=PR) (hC:C.Ok) (hpan:∀ s σ,¬ C.pan s σ) {id:Nat} {ops:Array Oper} (hdef:ops.toList.all (fun o=>!dy o)=true) (hok:bg 77 ops.toList=true) (hfr:jD ops [1,2,5,6,7,18,19]=true)
  (H:BdI w0 wt Bm vF vL v5 v6 n out all es a w) (S:Bd0 w0 wt Bm Zs vF vL c z s T Sh M Qc F L) {ex:List (Nat × SV)} (hex:∀ p ∈ ex,ag w (fun b=>b < w.heap.size) (fun _=>.pointer none) p.2 (a.tmps.getD p.1 undef)) {k:St→Prop} (h:ak C ops.toList ops.toList ⟨ex,[]⟩ k) :
  (Code.region id ops false).wp PR (fun e a' w'=>e = .normal∧BdI w0 wt Bm vF vL v5 v6 n out all es a' w'∧Fut (fun _=>False) w w'∧(∀ t,(∀ o ∈ ops.toList,o.dst≠some t)→a'.tmps.getD t undef=a.tmps.getD t undef)∧
    ∃ σ' Z' G',k σ'∧Sim PR ⟨w,fun _=>False,fun _=>False,fun b=>b < w.heap.size,false,false,fun _=>.pointer none,a.defers⟩ 77 σ' a' w' Z' G') a w:=by
 rw [← hP]
 refine bJ hC hpan hdef hok (G:=fun _=>.pointer none) (Z:=fun b=>b < w.heap.size) H.size (mj hex) (fun _ h=>h) (fun _=>rfl) h ?_
 intro σ' a' w' Z' G' hk S' kp
 exact ⟨rfl,H.next S'.size S'.calm (fun t ht=>aj hfr kp ht) S'.fut (by have:=S.hi;have:=H.ge;omega),S'.fut,kp,σ',Z',G',hk,S'⟩
theorem la {t:Nat} {Z:Nat→Prop} {x:Int} (h:a.eval (.tmp t) = .int .i64 x) (h1:-9223372036854775808≤x) (h2:x≤9223372036854775807):ag w Z (fun _=>.pointer none) (vi (.i x)) (a.tmps.getD t undef):=⟨h,h1,h2⟩
theorem BdI.file (H:BdI w0 wt Bm vF vL v5 v6 n out all es a w) (S:Bd0 w0 wt Bm Zs vF vL c z s T Sh M Qc F L):ag w (fun b=>b < w.heap.size) (fun _=>.pointer none) (.val (.sl false [.int .u8]) F) (a.tmps.getD 1 undef):=by
 have:aR w (fun b=>b < w.heap.size) (.sl false [.int .u8]) vF F:=aR.mono ⟨fun b hb=>by have:=(S.zs b hb).1;have:=H.ge;omega,fun b hb=>H.old b (S.zs b hb).1 (S.zs b hb).2⟩ _ _ _ S.file
 have e:=H.e1
 rw [← e] at this
 exact this
theorem BdI.lines (H:BdI w0 wt Bm vF vL v5 v6 n out all es a w) (S:Bd0 w0 wt Bm Zs vF vL c z s T Sh M Qc F L):ag w (fun b=>b < w.heap.size) (fun _=>.pointer none) (vt LNC (.l L)) (a.tmps.getD 18 undef):=by
 have:aR w (fun b=>b < w.heap.size) (.sl true LNC) vL (.l L):=aR.mono ⟨fun b hb=>by have:=(S.zs b hb).1;have:=H.ge;omega,fun b hb=>H.old b (S.zs b hb).1 (S.zs b hb).2⟩ _ _ _ S.lines
 have e:=H.e18
 rw [← e] at this
 exact this
theorem BdI.met (H:BdI w0 wt Bm vF vL v5 v6 n out all es a w) (S:Bd0 w0 wt Bm Zs vF vL c z s T Sh M Qc F L):ag w (fun b=>b < w.heap.size) (fun _=>.pointer none) (.rptr MTC [c,z,s,T,Sh,M,Qc]) (a.tmps.getD 2 undef):=by
 have hz:=S.zs _ S.zn
 exact ⟨_,0,H.e2,by have:=H.ge;omega,bz.mono ⟨fun b hb=>by have:=(S.zs b hb).1;have:=H.ge;omega,fun b hb=>H.old b (S.zs b hb).1 (S.zs b hb).2⟩ MTC _ _ _ (H.old _ hz.1 hz.2) S.meta_⟩
theorem BdI.had (H:BdI w0 wt Bm vF vL v5 v6 n out all es a w) {t:Nat} (ht:a.eval (.tmp t)=v6):ag w (fun b=>b < w.heap.size) (fun _=>.pointer none) (vt PPC (.l (all.map pkU))) (a.tmps.getD t undef):=by
 have:aR w (fun b=>b < w.heap.size) (.sl true PPC) v6 (.l (all.map pkU)):=H.d6.rep fun b hb=>H.d6.lt hb
 rw [← ht] at this
 exact this
theorem dd.slot {lo t:Nat} {cs:List Ct} {us:List U} (h:dd lo cs us w (a.eval (.tmp t))):ag w (fun b=>b < w.heap.size) (fun _=>.pointer none) (.rptr cs us) (a.tmps.getD t undef):=by
 have:=h
 obtain ⟨b,h1,h2,h3,h4⟩:=this
 exact h.rep fun b' e=>by rw [h1] at e;cases e;exact h3
theorem dd.cells {lo b:Nat} {k:PK} {v:Value} (h:dd lo PPC [.i k.1,.i k.2] w v) (hv:v = .pointer (some ⟨b,0,none⟩)):w.cell? ⟨b,0,none⟩=some (.int .i64 k.1)∧w.cell? ⟨b,1,none⟩=some (.int .i64 k.2):=by
 obtain ⟨b',h1,h2,h3,⟨x,hx,hx'⟩,⟨y,hy,hy'⟩,_⟩:=h
 rw [hv] at h1
 cases h1
 have ex:x = .int .i64 k.1:=hx'.1
 have ey:y = .int .i64 k.2:=hy'.1
 subst ex ey
 exact ⟨hx,hy⟩
end
theorem wT (l:List U):nth (.i 0) l.tail 0=U.at l 1∧nth (.i 0) l.tail.tail 0=U.at l 2∧nth (.i 0) l.tail.tail.tail 0=U.at l 3∧nth (.i 0) l.tail.tail.tail.tail 0=U.at l 4∧nth (.i 0) l.tail.tail.tail.tail.tail 0=U.at l 5∧nth (.i 0) l.tail.tail.tail.tail.tail.tail 0=U.at l 6:=by
 simp [aD]
theorem FX:bh Tryz.f20 = .seq (ar bdC [0]) (.seq (ar bdC [1,0]) (.seq (ar bdC [1,1,0]) (.seq (ar bdC [1,1,1,0]) (.seq (.seq (.region (av (ar bdC [1,1,1,1,0,0])) bd4 false) (.block 0 (.loop (.seq (.region (av (ar bdC [1,1,1,1,0,1,0,0,0])) bd5 false) (.seq (.cond (.tmp 21) (.skip) (.exit 0)) (.seq (.block 1 (.seq (.region (av (ar bdC [1,1,1,1,0,1,0,0,1,1,0,0,0])) bd6 false) (.scope (.seq (.region (av (ar bdS [0])) bd7 false) (.seq (.region (av (ar bdS [1,0])) bd8 false) (.seq (.region (av (ar bdS [1,1,0])) bd9 false) (.seq (.label 0) (.seq (.seq (.region (av (ar bdS [1,1,1,1,0,0])) CY false) (.block 2 (.loop (.seq (.region (av (ar bdS [1,1,1,1,0,1,0,0,0])) z6 false) (.seq (.cond (.tmp 45) (.skip) (.exit 2)) (.seq (.block 3 (.seq (.region (av (ar bdS [1,1,1,1,0,1,0,0,1,1,0,0,0])) BG false) (.seq (.region (av (ar bdS [1,1,1,1,0,1,0,0,1,1,0,0,1,0])) Aj false) (.cond (.tmp 50) (.seq (.region (av (ar bdS [1,1,1,1,0,1,0,0,1,1,0,0,1,1,0,0])) AU false) (.exit 2)) (.skip))))) (.region (av (ar bdS [1,1,1,1,0,1,0,0,1,1,1])) AX false))))))) (.seq (.seq (.region (av (ar bdS [1,1,1,1,1,0,0])) Gg false) (.cond (.tmp 52) (.seq (.region (av (ar bdS [1,1,1,1,1,0,1,0,0])) GZ false) (.exit 1)) (.skip))) (.seq (.region (av (ar bdS [1,1,1,1,1,1,0])) l7 true) (.seq (ar bdS [1,1,1,1,1,1,1,0]) (.cond (.tmp 70) (.region (av (ar bdS [1,1,1,1,1,1,1,1,0])) GW false) (.skip))))))))))))) (.region (av (ar bdC [1,1,1,1,0,1,0,0,1,1,1])) IE false))))))) (.seq (ar bdC [1,1,1,1,1,0]) (.ret)))))):=by kernel_rfl
theorem Ef {α:Type} {p:α→Bool} {l:List α} {k:Nat} (hk:k < l.length):(l.take (k + 1)).any p=((l.take k).any p || p l[k]):=by
 rw [List.take_add_one,List.getElem?_eq_getElem hk,List.any_append]
 simp
section
variable {w0 wt:World} {Bm:Nat} {Zs:Nat→Prop} {vF vL v5 v6:Value} {c z s T Sh M Qc F:U} {L:List U} {n:Nat} {out:List U} {all:List PK} {es:List (PK × Int)} {a:Act} {w:World}
theorem Ec (H:BdI w0 wt Bm vF vL v5 v6 n out all es a w) (S:Bd0 w0 wt Bm Zs vF vL c z s T Sh M Qc F L) {t:PK} {lo:Nat} (B:dd lo PPC [.i t.1,.i t.2] w (a.eval (.tmp 10))) {s0:Bool} (h13:a.eval (.tmp 13) = .bool s0) (hlen:all.length≤1073741824) :
  (Code.seq (.region (av (ar bdS [1,1,1,1,0,0])) CY false) (.block 2 (.loop (.seq (.region (av (ar bdS [1,1,1,1,0,1,0,0,0])) z6 false) (.seq (.cond (.tmp 45) (.skip) (.exit 2)) (.seq (.block 3 (.seq (.region (av (ar bdS [1,1,1,1,0,1,0,0,1,1,0,0,0])) BG false) (.seq (.region (av (ar bdS [1,1,1,1,0,1,0,0,1,1,0,0,1,0])) Aj false) (.cond (.tmp 50) (.seq (.region (av (ar bdS [1,1,1,1,0,1,0,0,1,1,0,0,1,1,0,0])) AU false) (.exit 2)) (.skip))))) (.region (av (ar bdS [1,1,1,1,0,1,0,0,1,1,1])) AX false))))))).wp PR (fun e a' w'=>e = .normal∧BdI w0 wt Bm vF vL v5 v6 n out all es a' w'∧Fut (fun _=>False) w w'∧a'.eval (.tmp 9)=a.eval (.tmp 9)∧a'.eval (.tmp 10)=a.eval (.tmp 10)∧a'.eval (.tmp 20)=a.eval (.tmp 20)∧
    a'.eval (.tmp 13) = .bool (s0 || all.any (fh t))) a w:=by
 refine wp_seq (wp_mono (dz (C:=KW) (ex:=[(6,vt PPC (.l (all.map pkU)))]) (k:=fun σ=>get σ.env 44=vi (.i 0)∧get σ.env 43=vi (.i (all.length:Int))∧get σ.env 42=vt PPC (.l (all.map pkU))) rfl bx (fun _ _ h=>h) (by kernel_rfl) (by kernel_rfl) (by kernel_rfl) H S (fun p hp=>?_) ?_) ?_)
 ·have hp:p=(6,vt PPC (.l (all.map pkU))):=by simpa using hp
  subst hp
  exact H.had H.e6
 ·rw [BX]
  exact ⟨rfl,by show vi (.i ((all.map pkU).length:Int))=_;rw [List.length_map],rfl⟩
 rintro ex a1 w1 ⟨rfl,H1,F1,q1,σ,Z',G',⟨k1,k2,k3⟩,S'⟩
 have r44:=S'.slot 44
 have r43:=S'.slot 43
 have r42:=S'.slot 42
 rw [k1] at r44
 rw [k2] at r43
 rw [k3] at r42
 have r42:aR w1 (fun b=>b < w1.heap.size) (.sl true PPC) (a1.eval (.tmp 42)) (.l (all.map pkU)):=aR.mono ⟨S'.lt,fun _ _=>rfl⟩ _ _ _ r42
 obtain ⟨Qp,hQp⟩:∃ Qp:Exit→Act→World→Prop,Qp=fun e a' w'=>e = .normal∧BdI w0 wt Bm vF vL v5 v6 n out all es a' w'∧Fut (fun _=>False) w w'∧a'.eval (.tmp 9)=a.eval (.tmp 9)∧a'.eval (.tmp 10)=a.eval (.tmp 10)∧a'.eval (.tmp 20)=a.eval (.tmp 20)∧
   a'.eval (.tmp 13) = .bool (s0 || all.any (fh t)):=⟨_,rfl⟩
 refine wp_mono (Q:=Qp) ?_ (fun e a w h=>by rw [hQp] at h;exact h)
 refine wp_block (wp_loop_rounds (all.length + 1) ?_)
 have key:∀ (f k:Nat) (a2:Act) (w2:World),k + f=all.length→BdI w0 wt Bm vF vL v5 v6 n out all es a2 w2→Fut (fun _=>False) w w2→a2.eval (.tmp 9)=a.eval (.tmp 9)→a2.eval (.tmp 10)=a.eval (.tmp 10)→a2.eval (.tmp 20)=a.eval (.tmp 20)→a2.eval (.tmp 13) = .bool s0→a2.eval (.tmp 44) = .int .i64 (k:Int)→a2.eval (.tmp 43) = .int .i64 (all.length:Int)→
   aR w2 (fun b=>b < w2.heap.size) (.sl true PPC) (a2.eval (.tmp 42)) (.l (all.map pkU))→(all.take k).any (fh t)=false→
   Code.rounds PR (.seq (.region (av (ar bdS [1,1,1,1,0,1,0,0,0])) z6 false) (.seq (.cond (.tmp 45) (.skip) (.exit 2)) (.seq (.block 3 (.seq (.region (av (ar bdS [1,1,1,1,0,1,0,0,1,1,0,0,0])) BG false) (.seq (.region (av (ar bdS [1,1,1,1,0,1,0,0,1,1,0,0,1,0])) Aj false) (.cond (.tmp 50) (.seq (.region (av (ar bdS [1,1,1,1,0,1,0,0,1,1,0,0,1,1,0,0])) AU false) (.exit 2)) (.skip))))) (.region (av (ar bdS [1,1,1,1,0,1,0,0,1,1,1])) AX false)))) (Exit.inBlock 2 Qp) (f + 1) a2 w2:=by
  intro f
  induction f with
  | zero=>
   intro k a2 w2 hk H2 F2 e9 e10 e20 e13 e44 e43 R42 hany
   have hk:k=all.length:=by omega
   subst hk
   rw [rounds_succ]
   refine wp_seq (wp_mono (dz (C:=KW) (ex:=[(44,vi (.i (all.length:Int))),(43,vi (.i (all.length:Int)))]) (k:=fun σ=>get σ.env 45=vb (.b false)) rfl bx (fun _ _ h=>h) (by kernel_rfl) (by kernel_rfl) (by kernel_rfl) H2 S (fun p hp=>?_) ?_) ?_)
   ·rcases List.mem_cons.1 hp with rfl | hp
    ·exact la e44 (by omega) (by omega)
    ·have hp:p=(43,vi (.i (all.length:Int))):=by simpa using hp
     subst hp
     exact la e43 (by omega) (by omega)
   ·rw [qX]
    show vb (.b (decide ((all.length:Int) < (all.length:Int))))=_
    rw [decide_eq_false (by omega)]
   rintro ex a3 w3 ⟨rfl,H3,F3,q3,σ,Z',G',hk',S'⟩
   have r45:=S'.slot 45
   rw [hk'] at r45
   have r45:a3.eval (.tmp 45) = .bool false:=r45
   have kp:∀ t,dZ t [9,10,13,20]=true→a3.eval (.tmp t)=a2.eval (.tmp t):=fun t ht=>aj (l:=[9,10,13,20]) (by kernel_rfl) q3 ht
   refine wp_seq (wp_cond_split r45 (fun ht=>by cases ht) (fun _=>wp_exit ?_))
   show Exit.inBlock 2 Qp (.exit 2) a3 w3
   refine cC ?_
   rw [hQp]
   refine ⟨rfl,H3,F2.trans F3 (fun _ h=>h) (fun _ _ h=>h),(kp 9 rfl).trans e9,(kp 10 rfl).trans e10,(kp 20 rfl).trans e20,?_⟩
   rw [List.take_length] at hany
   rw [hany,Bool.or_false]
   exact (kp 13 rfl).trans e13
  | succ f ih=>
   intro k a2 w2 hk H2 F2 e9 e10 e20 e13 e44 e43 R42 hany
   have hkl:k < all.length:=by omega
   rw [rounds_succ]
   refine wp_seq (wp_mono (dz (C:=KW) (ex:=[(44,vi (.i (k:Int))),(43,vi (.i (all.length:Int)))]) (k:=fun σ=>get σ.env 45=vb (.b true)) rfl bx (fun _ _ h=>h) (by kernel_rfl) (by kernel_rfl) (by kernel_rfl) H2 S (fun p hp=>?_) ?_) ?_)
   ·rcases List.mem_cons.1 hp with rfl | hp
    ·exact la e44 (by omega) (by omega)
    ·have hp:p=(43,vi (.i (all.length:Int))):=by simpa using hp
     subst hp
     exact la e43 (by omega) (by omega)
   ·rw [qX]
    show vb (.b (decide ((k:Int) < (all.length:Int))))=_
    rw [decide_eq_true (by omega)]
   rintro ex a3 w3 ⟨rfl,H3,F3,q3,σ,Z',G',hk',S'⟩
   have r45:=S'.slot 45
   rw [hk'] at r45
   have r45:a3.eval (.tmp 45) = .bool true:=r45
   have kp:∀ t,dZ t [9,10,13,20,42,43,44]=true→a3.eval (.tmp t)=a2.eval (.tmp t):=fun t ht=>aj (l:=[9,10,13,20,42,43,44]) (by kernel_rfl) q3 ht
   have F03:=F2.trans F3 (N:=fun _=>False) (fun _ h=>h) (fun _ _ h=>h)
   have R3:aR w3 (fun b=>b < w3.heap.size) (.sl true PPC) (a3.eval (.tmp 42)) (.l (all.map pkU)):=by
    rw [kp 42 rfl]
    exact aR.mono ⟨fun b hb=>Nat.lt_of_lt_of_le hb F3.size,fun b hb=>F3.block b hb id⟩ _ _ _ R42
   have e9:=(kp 9 rfl).trans e9
   have e10:=(kp 10 rfl).trans e10
   have e20:=(kp 20 rfl).trans e20
   have e13:=(kp 13 rfl).trans e13
   have e44:=(kp 44 rfl).trans e44
   have e43:=(kp 43 rfl).trans e43
   clear S' hk' r45 q3 R42 kp H2
   refine wp_seq (wp_cond_split (t:=true) (by assumption) (fun _=>wp_skip ?_) (fun h=>by cases h))
   refine wp_seq (wp_block (wp_seq (wp_mono (dz (C:=KW) (ex:=[(44,vi (.i (k:Int))),(42,vt PPC (.l (all.map pkU)))]) (k:=fun σ=>get σ.env 15 = .ptr 1920 0∧az σ.objs 1920=some (.box (vals PPC [.i all[k].1,.i all[k].2]))) rfl bx (fun _ _ h=>h) (by kernel_rfl) (by kernel_rfl) (by kernel_rfl) H3 S (fun p hp=>?_) ?_) ?_)))
   ·rcases List.mem_cons.1 hp with rfl | hp
    ·exact la e44 (by omega) (by omega)
    ·have hp:p=(42,vt PPC (.l (all.map pkU))):=by simpa using hp
     subst hp
     exact R3
   ·rw [AR]
    have hl:((U.l (all.map pkU)).list.length:Int)=(all.length:Int):=by show ((all.map pkU).length:Int)=_;rw [List.length_map]
    rw [hl]
    have hc:decide ((0:Int)≤(U.i (k:Int)).int∧(U.i (k:Int)).int < (all.length:Int))=true:=decide_eq_true ⟨by show (0:Int)≤(k:Int);omega,by show (k:Int) < _;omega⟩
    rw [hc,cond_true]
    have hu:nth (.i 0) (U.l (all.map pkU)).list (Int.toNat (U.i (k:Int)).int)=pkU all[k]:=by
     show U.at (all.map pkU) k=_
     rw [eG (by rw [List.length_map];exact hkl),List.getElem_map]
    rw [hu]
    exact ⟨rfl,rfl⟩
   rintro ex a4 w4 ⟨rfl,H4,F4,q4,σ,Z',G',⟨k1,k2⟩,S'⟩
   have B15:dd w3.heap.size PPC [.i all[k].1,.i all[k].2] w4 (a4.eval (.tmp 15)):=tn S' (fun _ h=>h) (fun _ h=>h) rfl k1 k2
   have kp:∀ t,dZ t [9,10,13,20,42,43,44]=true→a4.eval (.tmp t)=a3.eval (.tmp t):=fun t ht=>aj (l:=[9,10,13,20,42,43,44]) (by kernel_rfl) q4 ht
   have F04:=F03.trans F4 (N:=fun _=>False) (fun _ h=>h) (fun _ _ h=>h)
   have R4:aR w4 (fun b=>b < w4.heap.size) (.sl true PPC) (a4.eval (.tmp 42)) (.l (all.map pkU)):=by
    rw [kp 42 rfl]
    exact aR.mono ⟨fun b hb=>Nat.lt_of_lt_of_le hb F4.size,fun b hb=>F4.block b hb id⟩ _ _ _ R3
   have e9:=(kp 9 rfl).trans e9
   have e10:=(kp 10 rfl).trans e10
   have e20:=(kp 20 rfl).trans e20
   have e13:=(kp 13 rfl).trans e13
   have e44:=(kp 44 rfl).trans e44
   have e43:=(kp 43 rfl).trans e43
   clear S' k1 k2 q4 R3 kp H3
   have B10:dd lo PPC [.i t.1,.i t.2] w4 (a4.eval (.tmp 10)):=by
    rw [e10];exact B.next F04.size fun b _ hb=>F04.block b hb id
   refine wp_seq (wp_mono (dz (C:=KE8) (ex:=[(10,.rptr PPC [.i t.1,.i t.2]),(15,.rptr PPC [.i all[k].1,.i all[k].2])]) (k:=fun σ=>get σ.env 50=vb (.b (fh t all[k]))) rfl CK (fun _ _ h=>h) (by kernel_rfl) (by kernel_rfl) (by kernel_rfl) H4 S (fun p hp=>?_) (by rw [Ab];rfl)) ?_)
   ·rcases List.mem_cons.1 hp with rfl | hp
    ·exact B10.slot
    ·have hp:p=(15,.rptr PPC [.i all[k].1,.i all[k].2]):=by simpa using hp
     subst hp
     exact B15.slot
   rintro ex a5 w5 ⟨rfl,H5,F5,q5,σ,Z',G',hk5,S'⟩
   have r50:=S'.slot 50
   rw [hk5] at r50
   have r50:a5.eval (.tmp 50) = .bool (fh t all[k]):=r50
   have kp:∀ t,dZ t [9,10,13,20,42,43,44]=true→a5.eval (.tmp t)=a4.eval (.tmp t):=fun t ht=>aj (l:=[9,10,13,20,42,43,44]) (by kernel_rfl) q5 ht
   have F05:=F04.trans F5 (N:=fun _=>False) (fun _ h=>h) (fun _ _ h=>h)
   have R5:aR w5 (fun b=>b < w5.heap.size) (.sl true PPC) (a5.eval (.tmp 42)) (.l (all.map pkU)):=by
    rw [kp 42 rfl]
    exact aR.mono ⟨fun b hb=>Nat.lt_of_lt_of_le hb F5.size,fun b hb=>F5.block b hb id⟩ _ _ _ R4
   have e9:=(kp 9 rfl).trans e9
   have e10:=(kp 10 rfl).trans e10
   have e20:=(kp 20 rfl).trans e20
   have e13:=(kp 13 rfl).trans e13
   have e44:=(kp 44 rfl).trans e44
   have e43:=(kp 43 rfl).trans e43
   clear S' hk5 q5 R4 kp H4 B15
   refine wp_cond_split r50 (fun hm=>?_) (fun hm=>wp_skip ?_)
   ·refine wp_seq (wp_mono (dz (C:=KW) (ex:=[]) (k:=fun σ=>get σ.env 13=vb (.b true)) rfl bx (fun _ _ h=>h) (by kernel_rfl) (by kernel_rfl) (by kernel_rfl) H5 S (fun p hp=>by cases hp) (by rw [zO];rfl)) ?_)
    rintro ex a6 w6 ⟨rfl,H6,F6,q6,σ,Z',G',hk6,S'⟩
    have r13:=S'.slot 13
    rw [hk6] at r13
    have r13:a6.eval (.tmp 13) = .bool true:=r13
    have kp:∀ t,dZ t [9,10,20]=true→a6.eval (.tmp t)=a5.eval (.tmp t):=fun t ht=>aj (l:=[9,10,20]) (by kernel_rfl) q6 ht
    refine wp_exit ?_
    show Exit.inBlock 2 Qp (.exit 2) a6 w6
    refine cC ?_
    rw [hQp]
    refine ⟨rfl,H6,F05.trans F6 (fun _ h=>h) (fun _ _ h=>h),(kp 9 rfl).trans e9,(kp 10 rfl).trans e10,(kp 20 rfl).trans e20,?_⟩
    have:all.any (fh t)=true:=List.any_eq_true.2 ⟨all[k],List.getElem_mem hkl,hm⟩
    rw [this,Bool.or_true]
    exact r13
   ·refine wp_mono (dz (C:=KW) (ex:=[(44,vi (.i (k:Int)))]) (k:=fun σ=>get σ.env 44=vi (.i ((k + 1:Nat):Int))) rfl bx (fun _ _ h=>h) (by kernel_rfl) (by kernel_rfl) (by kernel_rfl) H5 S (fun p hp=>?_) ?_) ?_
    ·have hp:p=(44,vi (.i (k:Int))):=by simpa using hp
     subst hp
     exact la e44 (by omega) (by omega)
    ·rw [At]
     have hw:IntKind.i64.wrap ((U.i (k:Int)).int + 1)=((k + 1:Nat):Int):=by
      show IntKind.i64.wrap ((k:Int) + 1)=_
      rw [i64_in (by omega) (by omega)];omega
     rw [hw];rfl
    rintro ex a6 w6 ⟨rfl,H6,F6,q6,σ,Z',G',hk6,S'⟩
    have r44:=S'.slot 44
    rw [hk6] at r44
    have kp:∀ t,dZ t [9,10,13,20,42,43]=true→a6.eval (.tmp t)=a5.eval (.tmp t):=fun t ht=>aj (l:=[9,10,13,20,42,43]) (by kernel_rfl) q6 ht
    refine ih (k + 1) a6 w6 (by omega) H6 (F05.trans F6 (fun _ h=>h) (fun _ _ h=>h)) ((kp 9 rfl).trans e9) ((kp 10 rfl).trans e10) ((kp 20 rfl).trans e20) ((kp 13 rfl).trans e13) r44.1 ((kp 43 rfl).trans e43) ?_ ?_
    ·rw [kp 42 rfl]
     exact aR.mono ⟨fun b hb=>Nat.lt_of_lt_of_le hb F6.size,fun b hb=>F6.block b hb id⟩ _ _ _ R5
    ·rw [Ef hkl,hany,hm];rfl
 have kp:∀ t,dZ t [9,10,13,20]=true→a1.eval (.tmp t)=a.eval (.tmp t):=fun t ht=>aj (l:=[9,10,13,20]) (by kernel_rfl) q1 ht
 exact key all.length 0 a1 w1 (by omega) H1 F1 (kp 9 rfl) (kp 10 rfl) (kp 20 rfl) ((kp 13 rfl).trans h13) r44.1 r43.1 r42 rfl
end
end Go.Mat

namespace Go.Mat
open Go Go.Den Go.Proofs Go.RowKit
set_option maxRecDepth 100000
theorem wL {k q:PK} {v:Int}:∀ {es:List (PK × Int)},fD q (c7 k v es)=(decide (q=k) || fD q es)
 | []=>by simp [c7,fD]
 | (a,x) :: r=>by
  have e:c7 k v ((a,x) :: r)=bif decide (k=a) then (a,v) :: r else (a,x) :: c7 k v r:=rfl
  rw [e]
  cases hq:decide (k=a) with
  | true=>
   have:=of_decide_eq_true hq
   subst this
   simp [fD]
  | false=>
   simp only [cond_false,fD,wL (k:=k) (q:=q) (v:=v) (es:=r)]
   cases decide (q=a)<;>cases decide (q=k)<;>simp
theorem vO {k q:PK} {v:Int} (h:q≠k):∀ {es:List (PK × Int)},bI q (c7 k v es)=bI q es
 | []=>by simp [c7,bI,h]
 | (a,x) :: r=>by
  have e:c7 k v ((a,x) :: r)=bif decide (k=a) then (a,v) :: r else (a,x) :: c7 k v r:=rfl
  rw [e]
  cases hq:decide (k=a) with
  | true=>
   have:=of_decide_eq_true hq
   subst this
   simp [bI,h]
  | false=>simp only [cond_false,bI,vO h (es:=r)]
structure fM (es:List (PK × Int)) (all:List PK) (j:Nat):Prop where
 has:∀ k,fD k es=decide (k ∈ all)
 cnt:∀ k,k ∈ all→1≤bI k es∧bI k es≤(j:Int)
 len:all.length≤j
theorem fM.get {es:List (PK × Int)} {all:List PK} {j:Nat} (h:fM es all j) (k:PK):0≤bI k es∧bI k es≤(j:Int)∧(bI k es=0↔k ∉ all):=by
 by_cases hk:k ∈ all
 ·have:=h.cnt k hk
  exact ⟨by omega,this.2,⟨fun e=>by omega,fun e=>(e hk).elim⟩⟩
 ·have h1:fD k es=false:=by rw [h.has,decide_eq_false hk]
  have:=(oM h1).2
  exact ⟨by omega,by omega,⟨fun _=>hk,fun _=>this⟩⟩
theorem fM.step {es:List (PK × Int)} {all:List PK} {j:Nat} (h:fM es all j) (k:PK):fM (c7 k (bI k es + 1) es) (bif decide (k ∈ all) then all else all ++ [k]) (j + 1):=by
 obtain ⟨g0,g1,g2⟩:=h.get k
 have hmem:∀ q,q ∈ (bif decide (k ∈ all) then all else all ++ [k])↔q=k∨q ∈ all:=fun q=>by
  by_cases hk:k ∈ all
  ·rw [decide_eq_true hk,cond_true]
   exact ⟨.inr,fun h=>h.elim (fun e=>e ▸ hk) id⟩
  ·rw [decide_eq_false hk,cond_false]
   simp [or_comm]
 refine ⟨fun q=>?_,fun q hq=>?_,?_⟩
 ·rw [wL,h.has]
  rw [Bool.eq_iff_iff]
  simp [hmem]
 ·by_cases e:q=k
  ·subst e
   have:=(kj (k:=q) (u:=bI q es + 1) (v:=0) (es:=es)).2.2.2
   rw [this]
   omega
  ·rw [vO e]
   have:=h.cnt q (((hmem q).1 hq).resolve_left e)
   omega
 ·have:=h.len
  by_cases hk:k ∈ all
  ·rw [decide_eq_true hk,cond_true];omega
  ·rw [decide_eq_false hk,cond_false,List.length_append];simp;omega
theorem fM.skip {es:List (PK × Int)} {all:List PK} {j:Nat} (h:fM es all j):fM es all (j + 1):=
 ⟨h.has,fun k hk=>by have:=h.cnt k hk;omega,by have:=h.len;omega⟩
section
variable {w0 wt:World} {Bm:Nat} {Zs:Nat→Prop} {vF vL v5 v6:Value} {c z s T Sh M Qc F:U} {L:List U} {n:Nat} {out:List U} {all:List PK} {es:List (PK × Int)} {a:Act} {w:World}
theorem yD {id:Nat} {ops:Array Oper} {t5:Nat} {ty:TypeId} {xs:List U} {u:U} {ex:List (Nat × SV)} (hcs:Cs PR ty=some (true,PPC)) (hdef:ops.toList.all (fun o=>!dy o)=true) (hok:bg 77 ops.toList=true)
  (hs:a.tmps.size=77) {v5:Value} (h5:a.eval (.tmp t5)=v5) (D:fe w ty PPC v5 (.l xs)) (hex:∀ p ∈ ex,p.1≠t5∧ag w (fun b=>b < w.heap.size∧v5.ownBlock≠some b) (fun i=>if i=2 then v5 else .pointer none) p.2 (a.tmps.getD p.1 undef))
  (h:ak KW ops.toList ops.toList ⟨(t5,.own 2) :: ex,[(2,.arr ty xs)]⟩ (fun σ=>get σ.env t5 = .own 2∧az σ.objs 2=some (.arr ty (xs ++ [u])))) :
  (Code.region id ops false).wp PR (fun e a' w'=>e = .normal∧a'.tmps.size=77∧a'.defers=a.defers∧(∀ t,(∀ o ∈ ops.toList,o.dst≠some t)→a'.tmps.getD t undef=a.tmps.getD t undef)∧Fut (fun b=>v5.ownBlock=some b) w w'∧
    ∃ v5',a'.eval (.tmp t5)=v5'∧fe w' ty PPC v5' (.l (xs ++ [u]))∧∀ b,v5'.ownBlock=some b→v5.ownBlock=some b∨w.heap.size≤b) a w:=by
 obtain ⟨G2,hG2⟩:∃ G2:Nat→Value,G2=fun i=>if i=2 then v5 else .pointer none:=⟨_,rfl⟩
 rw [← hG2] at hex
 have hg2:G2 2=v5:=by rw [hG2];rfl
 have hfl2:∀ id,(G2 id).oneCell' = true:=fun id=>by
  rw [hG2]
  by_cases h:id=2
  ·simp only [h,if_true];exact D.one
  ·simp only [h,if_false];rfl
 obtain ⟨vs,d1,d2⟩:=D
 have hbl:blk (G2 2)=v5.ownBlock:=by rw [hg2];exact dk d1
 refine lQ bx fl (n:=77) (id:=2) (ty:=ty) (us:=xs) (G:=G2) (Z:=fun b=>b < w.heap.size∧v5.ownBlock≠some b) hdef hok hs (mj fun p hp=>?_) (fun _ h=>h.1) hfl2 ?_ (fun b hb hz=>?_) h ?_
 ·rcases List.mem_cons.1 hp with rfl | hp
  ·show a.eval (.tmp t5)=G2 2
   rw [hg2];exact h5
  ·exact (hex p hp).2
 ·exact ⟨true,PPC,vs,hcs,by rw [hg2];exact d1,ah.scal rfl d2⟩
 ·rw [hbl] at hb;exact hz.2 hb
 rintro σ' a' w' Z' G' ⟨k1,k2⟩ S' kp
 obtain ⟨m2,cs2,vs',g1,g2,g3⟩:=S'.obj 2 _ k2
 have g1:Cs PR ty=some (m2,cs2):=g1
 rw [hcs] at g1
 cases g1
 have r5:=S'.slot t5
 rw [k1] at r5
 have r5:a'.eval (.tmp t5)=G' 2:=r5
 have Fw:Fut (fun b=>blk (G2 2)=some b) w w':=S'.fut
 rw [hbl] at Fw
 refine ⟨rfl,S'.size,S'.calm,kp,Fw,_,r5,⟨vs',g2,ah.scal rfl g3⟩,fun b hb=>?_⟩
 rcases (S'.free 2 _ b k2 (by rw [dk g2];exact hb)).2 with h | h | h
 ·have h:blk (G2 2)=some b:=h
  rw [hbl] at h
  exact .inl h
 ·exact h.elim
 ·exact .inr h
theorem C6 (H:BdI w0 wt Bm vF vL v5 v6 n out all es a w) (S:Bd0 w0 wt Bm Zs vF vL c z s T Sh M Qc F L) {j:Nat} (hj:j < L.length) (hL:L.length≤536870912) (I:fM es all j) (ho:out.length≤j) (h20:a.eval (.tmp 20) = .int .i64 (j:Int)) :
  (.block 1 (.seq (.region (av (ar bdC [1,1,1,1,0,1,0,0,1,1,0,0,0])) bd6 false) (.scope (.seq (.region (av (ar bdS [0])) bd7 false) (.seq (.region (av (ar bdS [1,0])) bd8 false) (.seq (.region (av (ar bdS [1,1,0])) bd9 false) (.seq (.label 0) (.seq (.seq (.region (av (ar bdS [1,1,1,1,0,0])) CY false) (.block 2 (.loop (.seq (.region (av (ar bdS [1,1,1,1,0,1,0,0,0])) z6 false) (.seq (.cond (.tmp 45) (.skip) (.exit 2)) (.seq (.block 3 (.seq (.region (av (ar bdS [1,1,1,1,0,1,0,0,1,1,0,0,0])) BG false) (.seq (.region (av (ar bdS [1,1,1,1,0,1,0,0,1,1,0,0,1,0])) Aj false) (.cond (.tmp 50) (.seq (.region (av (ar bdS [1,1,1,1,0,1,0,0,1,1,0,0,1,1,0,0])) AU false) (.exit 2)) (.skip))))) (.region (av (ar bdS [1,1,1,1,0,1,0,0,1,1,1])) AX false))))))) (.seq (.seq (.region (av (ar bdS [1,1,1,1,1,0,0])) Gg false) (.cond (.tmp 52) (.seq (.region (av (ar bdS [1,1,1,1,1,0,1,0,0])) GZ false) (.exit 1)) (.skip))) (.seq (.region (av (ar bdS [1,1,1,1,1,1,0])) l7 true) (.seq (ar bdS [1,1,1,1,1,1,1,0]) (.cond (.tmp 70) (.region (av (ar bdS [1,1,1,1,1,1,1,1,0])) GW false) (.skip)))))))))))):Code).wp PR (fun e a' w'=>e = .normal∧a'.eval (.tmp 20) = .int .i64 (j:Int)∧∃ es' v5' v6',BdI w0 wt Bm vF vL v5' v6' n (bu F.list c.int (out,all) (U.at L j)).1 (bu F.list c.int (out,all) (U.at L j)).2 es' a' w'∧fM es' (bu F.list c.int (out,all) (U.at L j)).2 (j + 1)∧(bu F.list c.int (out,all) (U.at L j)).1.length≤j + 1) a w:=by
 obtain ⟨Qp,hQp⟩:∃ Qp:Exit→Act→World→Prop,Qp=fun e a' w'=>e = .normal∧a'.eval (.tmp 20) = .int .i64 (j:Int)∧∃ es' v5' v6',BdI w0 wt Bm vF vL v5' v6' n (bu F.list c.int (out,all) (U.at L j)).1 (bu F.list c.int (out,all) (U.at L j)).2 es' a' w'∧fM es' (bu F.list c.int (out,all) (U.at L j)).2 (j + 1)∧(bu F.list c.int (out,all) (U.at L j)).1.length≤j + 1:=⟨_,rfl⟩
 rw [← hQp]
 generalize hl:U.at L j=l at hQp
 have hwt:=S.hi
 have hge:=H.ge
 have lt5:∀ b,v5.ownBlock=some b→b < w.heap.size:=fun b hb=>H.d5.lt hb
 have lt6:∀ b,v6.ownBlock=some b→b < w.heap.size:=fun b hb=>H.d6.lt hb
 refine wp_block (wp_seq (wp_mono (dz (C:=KW) (ex:=[(20,vi (.i (j:Int))),(18,vt LNC (.l L))]) (k:=fun σ=>get σ.env 9 = .ptr 1152 0∧az σ.objs 1152=some (.box (vals LNC [nth (.i 0) l.list 0,nth (.i 0) l.list.tail 0,nth (.i 0) l.list.tail.tail 0,nth (.i 0) l.list.tail.tail.tail 0,nth (.i 0) l.list.tail.tail.tail.tail 0,nth (.i 0) l.list.tail.tail.tail.tail.tail 0,nth (.i 0) l.list.tail.tail.tail.tail.tail.tail 0]))) rfl bx (fun _ _ h=>h) (by kernel_rfl) (by kernel_rfl) (by kernel_rfl) H S (fun p hp=>?_) ?_) ?_))
 ·rcases List.mem_cons.1 hp with rfl | hp
  ·exact la h20 (by omega) (by omega)
  ·have hp:p=(18,vt LNC (.l L)):=by simpa using hp
   subst hp
   exact H.lines S
 ·rw [E0]
  have hc:decide ((0:Int)≤(U.i (j:Int)).int∧(U.i (j:Int)).int < ((U.l L).list.length:Int))=true:=decide_eq_true ⟨by show (0:Int)≤(j:Int);omega,by show (j:Int) < (L.length:Int);omega⟩
  rw [hc,cond_true]
  have hu:nth (.i 0) (U.l L).list (Int.toNat (U.i (j:Int)).int)=l:=hl
  rw [hu]
  exact ⟨rfl,rfl⟩
 rintro ex a1 w1 ⟨rfl,H1,F1,q1,σ,Z',G',⟨k1,k2⟩,S'⟩
 have B9:dd w.heap.size LNC _ w1 (a1.eval (.tmp 9)):=tn S' (fun _ h=>h) (fun _ h=>h) rfl k1 k2
 obtain ⟨y1,y2,y3,y4,y5,y6⟩:=wT l.list
 rw [y1,y2,y3,y4,y5,y6] at B9
 have h20:=(aj (l:=[20]) (by kernel_rfl) q1 rfl).trans h20
 have hsz1:=F1.size
 clear S' k1 k2 q1 y1 y2 y3 y4 y5 y6 F1
 refine wp_scope_straight ?_
 refine wp_seq (wp_mono (dz (C:=KW) (ex:=[(9,.rptr LNC [lnU l 0,lnU l 1,lnU l 2,lnU l 3,lnU l 4,lnU l 5,lnU l 6])]) (k:=fun σ=>get σ.env 10 = .ptr 1280 0∧az σ.objs 1280=some (.box (vals PPC [lnU l 3,lnU l 4]))) rfl bx (fun _ _ h=>h) (by kernel_rfl) (by kernel_rfl) (by kernel_rfl) H1 S (fun p hp=>?_) (by rw [EU];exact ⟨rfl,rfl⟩)) ?_)
 ·have hp:p=(9,.rptr LNC [lnU l 0,lnU l 1,lnU l 2,lnU l 3,lnU l 4,lnU l 5,lnU l 6]):=by simpa using hp
  subst hp
  exact B9.slot
 rintro ex a2 w2 ⟨rfl,H2,F2,q2,σ,Z',G',⟨k1,k2⟩,S'⟩
 have B10:dd w1.heap.size PPC [lnU l 3,lnU l 4] w2 (a2.eval (.tmp 10)):=tn S' (fun _ h=>h) (fun _ h=>h) rfl k1 k2
 have B10:dd w1.heap.size PPC [.i (bT l).1,.i (bT l).2] w2 (a2.eval (.tmp 10)):=B10
 have kp:∀ t,dZ t [9,20]=true→a2.eval (.tmp t)=a1.eval (.tmp t):=fun t ht=>aj (l:=[9,20]) (by kernel_rfl) q2 ht
 have B9:dd w.heap.size LNC [lnU l 0,lnU l 1,lnU l 2,lnU l 3,lnU l 4,lnU l 5,lnU l 6] w2 (a2.eval (.tmp 9)):=by rw [kp 9 rfl];exact B9.next F2.size fun b _ hb=>F2.block b hb id
 have h20:=(kp 20 rfl).trans h20
 have hge1:=H1.ge
 clear S' k1 k2 q2 F2 kp H1
 refine wp_seq (wp_mono (dz (C:=KE8) (ex:=[(9,.rptr LNC [lnU l 0,lnU l 1,lnU l 2,lnU l 3,lnU l 4,lnU l 5,lnU l 6]),(1,.val (.sl false [.int .u8]) F),(2,.rptr MTC [c,z,s,T,Sh,M,Qc])]) (k:=fun σ=>get σ.env 12=vi (.i (cbX (lnU l 2).int (lnU l 3).int (lnU l 4).int (lnU l 5).int (lnU l 6).int c.int F.list).1)) rfl CK (fun _ _ h=>h) (by kernel_rfl) (by kernel_rfl) (by kernel_rfl) H2 S (fun p hp=>?_) (by rw [Dk];rfl)) ?_)
 ·rcases List.mem_cons.1 hp with rfl | hp
  ·exact B9.slot
  ·rcases List.mem_cons.1 hp with rfl | hp
   ·exact H2.file S
   ·have hp:p=(2,.rptr MTC [c,z,s,T,Sh,M,Qc]):=by simpa using hp
    subst hp
    exact H2.met S
 rintro ex a3 w3 ⟨rfl,H3,F3,q3,σ,Z',G',k1,S'⟩
 have r12:=S'.slot 12
 rw [k1] at r12
 obtain ⟨r12,r12b⟩:=(show a3.eval (.tmp 12) = .int .i64 (cbX (lnU l 2).int (lnU l 3).int (lnU l 4).int (lnU l 5).int (lnU l 6).int c.int F.list).1∧_ from r12)
 have kp:∀ t,dZ t [9,10,20]=true→a3.eval (.tmp t)=a2.eval (.tmp t):=fun t ht=>aj (l:=[9,10,20]) (by kernel_rfl) q3 ht
 have B9:dd w.heap.size LNC [lnU l 0,lnU l 1,lnU l 2,lnU l 3,lnU l 4,lnU l 5,lnU l 6] w3 (a3.eval (.tmp 9)):=by rw [kp 9 rfl];exact B9.next F3.size fun b _ hb=>F3.block b hb id
 have B10:dd w1.heap.size PPC [.i (bT l).1,.i (bT l).2] w3 (a3.eval (.tmp 10)):=by rw [kp 10 rfl];exact B10.next F3.size fun b _ hb=>F3.block b hb id
 have h20:=(kp 20 rfl).trans h20
 clear S' k1 q3 F3 kp H2
 refine wp_seq (wp_mono (dz (C:=KW) (ex:=[(12,.val (.int .i64) (.i (cbX (lnU l 2).int (lnU l 3).int (lnU l 4).int (lnU l 5).int (lnU l 6).int c.int F.list).1))]) (k:=fun σ=>get σ.env 13=vb (.b (dm F.list c.int l))) rfl bx (fun _ _ h=>h) (by kernel_rfl) (by kernel_rfl) (by kernel_rfl) H3 S (fun p hp=>?_) (by rw [Dy];rfl)) ?_)
 ·have hp:p=(12,.val (.int .i64) (.i (cbX (lnU l 2).int (lnU l 3).int (lnU l 4).int (lnU l 5).int (lnU l 6).int c.int F.list).1)):=by simpa using hp
  subst hp
  exact ⟨r12,r12b⟩
 rintro ex a4 w4 ⟨rfl,H4,F4,q4,σ,Z',G',k1,S'⟩
 have r13:=S'.slot 13
 rw [k1] at r13
 have r13:a4.eval (.tmp 13) = .bool (dm F.list c.int l):=r13
 have kp:∀ t,dZ t [9,10,20]=true→a4.eval (.tmp t)=a3.eval (.tmp t):=fun t ht=>aj (l:=[9,10,20]) (by kernel_rfl) q4 ht
 have B9:dd w.heap.size LNC [lnU l 0,lnU l 1,lnU l 2,lnU l 3,lnU l 4,lnU l 5,lnU l 6] w4 (a4.eval (.tmp 9)):=by rw [kp 9 rfl];exact B9.next F4.size fun b _ hb=>F4.block b hb id
 have B10:dd w1.heap.size PPC [.i (bT l).1,.i (bT l).2] w4 (a4.eval (.tmp 10)):=by rw [kp 10 rfl];exact B10.next F4.size fun b _ hb=>F4.block b hb id
 have h20:=(kp 20 rfl).trans h20
 clear S' k1 q4 F4 kp H3 r12 r12b
 refine wp_seq (wp_label ?_)
 refine wp_seq (wp_mono (Ec H4 S B10 r13 (by have:=I.len;omega)) ?_)
 rintro ex a5 w5 ⟨rfl,H5,F5,x9,x10,x20,x13⟩
 have B9:dd w.heap.size LNC [lnU l 0,lnU l 1,lnU l 2,lnU l 3,lnU l 4,lnU l 5,lnU l 6] w5 (a5.eval (.tmp 9)):=by rw [x9];exact B9.next F5.size fun b _ hb=>F5.block b hb id
 have B10:dd w1.heap.size PPC [.i (bT l).1,.i (bT l).2] w5 (a5.eval (.tmp 10)):=by rw [x10];exact B10.next F5.size fun b _ hb=>F5.block b hb id
 have h20:=x20.trans h20
 clear x9 x10 x20 H4 r13 F5
 refine wp_seq (wp_seq (wp_mono (dz (C:=KW) (ex:=[(13,vb (.b (dm F.list c.int l || all.any (fh (bT l)))))]) (k:=fun σ=>get σ.env 52=vb (.b (dm F.list c.int l || all.any (fh (bT l))))) rfl bx (fun _ _ h=>h) (by kernel_rfl) (by kernel_rfl) (by kernel_rfl) H5 S (fun p hp=>?_) (by rw [Bz];rfl)) ?_))
 ·have hp:p=(13,vb (.b (dm F.list c.int l || all.any (fh (bT l))))):=by simpa using hp
  subst hp
  exact x13
 rintro ex a6 w6 ⟨rfl,H6,F6,q6,σ,Z',G',k1,S'⟩
 have r52:=S'.slot 52
 rw [k1] at r52
 have r52:a6.eval (.tmp 52) = .bool (dm F.list c.int l || all.any (fh (bT l))):=r52
 have kp:∀ t,dZ t [9,10,20]=true→a6.eval (.tmp t)=a5.eval (.tmp t):=fun t ht=>aj (l:=[9,10,20]) (by kernel_rfl) q6 ht
 have B9:dd w.heap.size LNC [lnU l 0,lnU l 1,lnU l 2,lnU l 3,lnU l 4,lnU l 5,lnU l 6] w6 (a6.eval (.tmp 9)):=by rw [kp 9 rfl];exact B9.next F6.size fun b _ hb=>F6.block b hb id
 have B10:dd w1.heap.size PPC [.i (bT l).1,.i (bT l).2] w6 (a6.eval (.tmp 10)):=by rw [kp 10 rfl];exact B10.next F6.size fun b _ hb=>F6.block b hb id
 have h20:=(kp 20 rfl).trans h20
 clear S' k1 q6 F6 kp H5 x13
 have hge6:=H6.ge
 refine wp_cond_split r52 (fun ht=>?_) (fun hf=>wp_skip ?_)
 ·have hst:bu F.list c.int (out,all) l=(out ++ [.l [lnU l 0,lnU l 1]],all):=by unfold bu;rw [ht,cond_true]
  refine wp_seq (wp_mono (yD (t5:=5) (ty:=80) (xs:=out) (u:=.l [lnU l 0,lnU l 1]) (ex:=[(9,.rptr LNC [lnU l 0,lnU l 1,lnU l 2,lnU l 3,lnU l 4,lnU l 5,lnU l 6])]) (by kernel_rfl) (by kernel_rfl) (by kernel_rfl) H6.size H6.e5 H6.d5 (fun p hp=>?_) ?_) ?_)
  ·have hp:p=(9,.rptr LNC [lnU l 0,lnU l 1,lnU l 2,lnU l 3,lnU l 4,lnU l 5,lnU l 6]):=by simpa using hp
   subst hp
   refine ⟨by show (9:Nat)≠5;decide,?_⟩
   obtain ⟨b,g1,g2,g3,g4⟩:=B9
   refine ⟨b,0,g1,⟨g3,fun e=>?_⟩,bz.mono ⟨fun _ h=>h.elim,fun _ h=>h.elim⟩ LNC _ _ _ rfl g4⟩
   have:=lt5 b e;omega
  ·rw [z4]
   have:(decide (out.length + 1≤room) && true)=true:=by rw [decide_eq_true (by unfold room;omega)];rfl
   rw [this,cond_true]
   exact ⟨rfl,rfl⟩
  rintro ex a7 w7 ⟨rfl,z7,d7,q7,F7,v5',r5',D7,b7⟩
  refine wp_exit ?_
  show Exit.inBlock 1 Qp (.exit 1) a7 w7
  refine cC ?_
  rw [hQp,hst]
  have kp:∀ t,dZ t [1,2,6,7,18,19,20]=true→a7.eval (.tmp t)=a6.eval (.tmp t):=fun t ht=>aj (l:=[1,2,6,7,18,19,20]) (by kernel_rfl) q7 ht
  refine ⟨rfl,(kp 20 rfl).trans h20,es,v5',v6,?_,I.skip,by simp;omega⟩
  exact
   {size:=z7,calm:=d7.trans H6.calm,e1:=(kp 1 rfl).trans H6.e1,e2:=(kp 2 rfl).trans H6.e2,e18:=(kp 18 rfl).trans H6.e18,e19:=(kp 19 rfl).trans H6.e19,e7:=(kp 7 rfl).trans H6.e7
    old:=fun b hb hn=>(F7.block b (by omega) fun e=>by have:=H6.b5 b e;omega).trans (H6.old b hb hn)
    ge:=Nat.le_trans hge6 F7.size
    fut:=H6.fut.trans F7 (fun _ h=>h) (fun b hb e=>by have:=H6.b5 b e;have:=S.lo;omega)
    mapB:=(F7.block Bm (by omega) fun e=>by have:=H6.b5 Bm e;omega).trans H6.mapB
    e5:=r5'
    e6:=(kp 6 rfl).trans H6.e6
    d5:=D7
    b5:=fun b hb=>(b7 b hb).elim (H6.b5 b) fun h=>by omega
    d6:=H6.d6.same fun b hb=>F7.block b (H6.d6.lt hb) fun e=>H6.sep b e hb
    b6:=H6.b6
    sep:=fun b hb e=>by
     rcases b7 b hb with h | h
     ·exact H6.sep b h e
     ·have:=H6.d6.lt e;omega }
 ·have hst:bu F.list c.int (out,all) l=(out,bif decide (bT l ∈ all) then all else all ++ [bT l]):=by unfold bu;rw [hf,cond_false]
  obtain ⟨g0,g1,g2⟩:=I.get (bT l)
  have B10':=B10
  obtain ⟨b,hb,hb1,hb2,_⟩:=B10'
  obtain ⟨c0,c1⟩:=B10.cells hb
  refine wp_seq (wp_mono (HJ H6.size H6.e7 hb c0 c1 H6.mapB ⟨g0,by omega⟩) ?_)
  rintro ex a7 w7 ⟨rfl,M7,z7,d7,low7,F7,hz7⟩
  have hBm:∀ {x:Nat},wt.heap.size≤x→x≠Bm:=fun h e=>by omega
  have H7:BdI w0 wt Bm vF vL v5 v6 n out all (c7 (bT l) (bI (bT l) es + 1) es) a7 w7:=
   {size:=z7,calm:=d7.trans H6.calm,e1:=(low7 1 (by decide)).trans H6.e1,e2:=(low7 2 (by decide)).trans H6.e2,e18:=(low7 18 (by decide)).trans H6.e18,e19:=(low7 19 (by decide)).trans H6.e19,e7:=(low7 7 (by decide)).trans H6.e7
    old:=fun b hb hn=>(F7.block b (by omega) hn).trans (H6.old b hb hn)
    ge:=by omega
    fut:=H6.fut.trans F7 (fun _ h=>h) (fun b hb e=>by have:=S.lo;omega)
    mapB:=M7
    e5:=(low7 5 (by decide)).trans H6.e5
    e6:=(low7 6 (by decide)).trans H6.e6
    d5:=H6.d5.same fun b hb=>F7.block b (H6.d5.lt hb) (hBm (H6.b5 b hb))
    b5:=H6.b5
    d6:=H6.d6.same fun b hb=>F7.block b (H6.d6.lt hb) (hBm (H6.b6 b hb))
    b6:=H6.b6
    sep:=H6.sep }
  have hb7:a7.eval (.tmp 10) = .pointer (some ⟨b,0,none⟩):=(low7 10 (by decide)).trans hb
  have B10:dd w1.heap.size PPC [.i (bT l).1,.i (bT l).2] w7 (a7.eval (.tmp 10)):=by rw [low7 10 (by decide)];exact B10.next F7.size fun x hx hlt=>F7.block x hlt (hBm (by omega))
  obtain ⟨c0,c1⟩:=B10.cells hb7
  have h20:=(low7 20 (by decide)).trans h20
  refine wp_seq (wp_mono (HU H7.size H7.e7 hb7 c0 c1 H7.mapB) ?_)
  rintro ex a8 w8 ⟨rfl,rfl,z8,d8,low8,r70⟩
  have H8:=H7.next (a':=a8) (w':=w8) z8 d8 (fun t ht=>low8 t (by
   have:∀ l:List Nat,(∀ x ∈ l,x < 67)→dZ t l=true→t < 67:=by
    intro l
    induction l with
    | nil=>intro _ h;cases h
    | cons x r ih=>
     intro hx h
     unfold dZ at h
     cases e:Nat.beq t x with
     | true=>have:=Nat.eq_of_beq_eq_true e;have:=hx x (List.mem_cons_self ..);omega
     | false=>rw [e] at h;exact ih (fun y hy=>hx y (List.mem_cons_of_mem _ hy)) h
   exact this _ (by decide) ht)) (Fut.refl _ _) (by omega)
  have hgp:bI (bT l) (c7 (bT l) (bI (bT l) es + 1) es)=bI (bT l) es + 1:=(kj (v:=0)).2.2.2
  rw [hgp] at r70
  have h20:=(low8 20 (by decide)).trans h20
  have hb8:a8.eval (.tmp 10) = .pointer (some ⟨b,0,none⟩):=(low8 10 (by decide)).trans hb7
  have hmem:(bI (bT l) es + 1 == 1) = !decide (bT l ∈ all):=by
   by_cases hm:bT l ∈ all
   ·have:bI (bT l) es≠0:=fun e=>(g2.1 e) hm
    rw [decide_eq_true hm]
    simp;omega
   ·rw [decide_eq_false hm,g2.2 hm];rfl
  rw [hmem] at r70
  have I8:=I.step (bT l)
  have hge8:=H8.ge
  refine wp_cond_split r70 (fun ht=>?_) (fun hf2=>wp_skip ?_)
  ·have hnm:decide (bT l ∈ all)=false:=by simpa using ht
   refine wp_mono (yD (t5:=6) (ty:=92) (xs:=all.map pkU) (u:=pkU (bT l)) (ex:=[(10,.rptr PPC [.i (bT l).1,.i (bT l).2])]) (by kernel_rfl) (by kernel_rfl) (by kernel_rfl) H8.size H8.e6 H8.d6 (fun p hp=>?_) ?_) ?_
   ·have hp:p=(10,.rptr PPC [.i (bT l).1,.i (bT l).2]):=by simpa using hp
    subst hp
    refine ⟨by show (10:Nat)≠6;decide,?_⟩
    obtain ⟨b',g1,g2,g3,g4⟩:=B10
    refine ⟨b',0,by show a8.eval (.tmp 10)=_;rw [low8 10 (by decide)];exact g1,⟨g3,fun e=>?_⟩,bz.mono ⟨fun _ h=>h.elim,fun _ h=>h.elim⟩ PPC _ _ _ rfl g4⟩
    have:=lt6 b' e;omega
   ·rw [BS]
    have:(decide ((all.map pkU).length + 1≤room) && true)=true:=by rw [decide_eq_true (by unfold room;rw [List.length_map];have:=I.len;omega)];rfl
    rw [this,cond_true]
    exact ⟨rfl,rfl⟩
   rintro ex a9 w9 ⟨rfl,z9,d9,q9,F9,v6',r6',D9,b9⟩
   show Qp .normal a9 w9
   rw [hQp,hst,hnm,cond_false]
   rw [hnm,cond_false] at I8
   have kp:∀ t,dZ t [1,2,5,7,18,19,20]=true→a9.eval (.tmp t)=a8.eval (.tmp t):=fun t ht=>aj (l:=[1,2,5,7,18,19,20]) (by kernel_rfl) q9 ht
   refine ⟨rfl,(kp 20 rfl).trans h20,_,v5,v6',?_,I8,by show out.length≤j + 1;omega⟩
   exact
    {size:=z9,calm:=d9.trans H8.calm,e1:=(kp 1 rfl).trans H8.e1,e2:=(kp 2 rfl).trans H8.e2,e18:=(kp 18 rfl).trans H8.e18,e19:=(kp 19 rfl).trans H8.e19,e7:=(kp 7 rfl).trans H8.e7
     old:=fun b hb hn=>(F9.block b (by omega) fun e=>by have:=H8.b6 b e;omega).trans (H8.old b hb hn)
     ge:=Nat.le_trans hge8 F9.size
     fut:=H8.fut.trans F9 (fun _ h=>h) (fun b hb e=>by have:=H8.b6 b e;have:=S.lo;omega)
     mapB:=(F9.block Bm (by omega) fun e=>by have:=H8.b6 Bm e;omega).trans H8.mapB
     e5:=(kp 5 rfl).trans H8.e5
     e6:=r6'
     d5:=H8.d5.same fun b hb=>F9.block b (H8.d5.lt hb) fun e=>H8.sep b hb e
     b5:=H8.b5
     d6:=by
      have e:(all ++ [bT l]).map pkU=all.map pkU ++ [pkU (bT l)]:=by simp
      rw [e];exact D9
     b6:=fun b hb=>(b9 b hb).elim (H8.b6 b) fun h=>by omega
     sep:=fun b hb e=>by
      rcases b9 b e with h | h
      ·exact H8.sep b hb h
      ·have:=H8.d5.lt hb;omega }
  ·have hm:decide (bT l ∈ all)=true:=by simpa using hf2
   show Qp .normal a8 w8
   rw [hQp,hst,hm,cond_true]
   rw [hm,cond_true] at I8
   exact ⟨rfl,h20,_,_,_,H8,I8,by show out.length≤j + 1;omega⟩
end
end Go.Mat

namespace Go.Mat
open Go Go.Den Go.Proofs Go.RowKit
set_option maxRecDepth 100000
theorem results_tmp {fn:Func} {tmps:Array Value} {x:Nat} {w:World} (hr:fn.results = #[.tmp x]):(results fn tmps).run PR w = .ok (tmps.getD x undef) w:=by
 have h0:(nT tmps (.tmp x)).run PR w = .ok (tmps.getD x undef) w:=rfl
 rw [gG,hr,Array.mapM_eq_mapM_toList]
 simp [h0]
theorem JM:cd (ar bdC [0]) [(some 2,.box 29 (.tmp 0)),(some 4,.assign (.const (.slice none 0 0)))]:=⟨av (ar bdC [0]),ax (ar bdC [0]),by kernel_rfl,by kernel_rfl,by kernel_rfl⟩
theorem JN:cd (ar bdC [1,0]) [(some 5,.assign (.const (.slice none 0 0)))]:=⟨av (ar bdC [1,0]),ax (ar bdC [1,0]),by kernel_rfl,by kernel_rfl,by kernel_rfl⟩
theorem JG:cd (ar bdC [1,1,0]) [(some 6,.assign (.const (.slice none 0 0)))]:=⟨av (ar bdC [1,1,0]),ax (ar bdC [1,1,0]),by kernel_rfl,by kernel_rfl,by kernel_rfl⟩
theorem JT:cd (ar bdC [1,1,1,0]) [(some 16,.makeMap 90 none),(some 7,.assign (.tmp 16))]:=⟨av (ar bdC [1,1,1,0]),ax (ar bdC [1,1,1,0]),by kernel_rfl,by kernel_rfl,by kernel_rfl⟩
theorem Jv:cd (ar bdC [1,1,1,1,1,0]) [(some 76,.move (.tmp 5)),(some 4,.assign (.tmp 76))]:=⟨av (ar bdC [1,1,1,1,1,0]),ax (ar bdC [1,1,1,1,1,0]),by kernel_rfl,by kernel_rfl,by kernel_rfl⟩
theorem IX {w:World} {Z:Nat→Prop} {c z s T Sh M Qc F:U} {svs:List SV} {vs:List Value} (hs:aU PR [29,30] [[c,z,s,T,Sh,M,Qc],[F]]=some svs) (h:ab w Z none_ svs vs) :
  ∃ vs7 vF,vs=[.agg vs7,vF]∧aX w Z MTC vs7.toList [c,z,s,T,Sh,M,Qc]∧aR w Z (.sl false [.int .u8]) vF F:=by
 have e:aU PR [29,30] [[c,z,s,T,Sh,M,Qc],[F]]=some [.agg (vals MTC [c,z,s,T,Sh,M,Qc]),.val (.sl false [.int .u8]) F]:=by kernel_rfl
 rw [e] at hs
 cases hs
 obtain ⟨x1,t1,rfl,⟨a1,rfl,h1⟩,x2,t2,rfl,h2,h3⟩:=h
 have h3:t2=[]:=h3
 subst h3
 exact ⟨a1,x2,rfl,ab.repL h1,h2⟩
theorem xR {o:Oper} {a:Act} {w:World} {K:Act→World→Prop} {Q:Exit→Act→World→Prop} {t kt vt:TypeId} (hu:PR.underlying t=some (.map kt vt)) (ho:o.op = .makeMap t none) (hk:K (a.put o.dst (.map (some w.heap.size))) (w.alloc (.map #[] 0))):o.wp PR a w K Q:=by
 refine aG (v:=.map (some w.heap.size)) (w':=w.alloc (.map #[] 0)) ?_ hk
 simp only [execOp,ho,Instr.makeMap,newObj]
 rfl
theorem CZ:cG PR 20 ta HO:=fun fn us hfn hP=>by
 have hf:PR.funcs[(20:Nat)]? = some Tryz.f20:=by kernel_rfl
 rw [hf] at hfn;cases hfn
 have hb:Tryz.f20.body=some (bh Tryz.f20):=by kernel_rfl
 have hnt:Tryz.f20.ntmps=77:=by kernel_rfl
 have hpar:Tryz.f20.params.toList=[29,30]:=by kernel_rfl
 have hres:Tryz.f20.results = #[.tmp 4]:=by kernel_rfl
 have hrt:Tryz.f20.resultTypes.toList=[59]:=by kernel_rfl
 refine ⟨by rw [hb];rfl,by kernel_rfl,?_⟩
 intro w0 Z vs hZ hsh ⟨svs,hsvs,hrep⟩
 rw [hpar] at hsh hsvs
 obtain ⟨u1,u2,rfl,l1,l2⟩:=bR (m:=true) (cs:=MTC) (m2:=false) (cs2:=[.sl false [.int .u8]]) (by kernel_rfl) (by kernel_rfl) hsh
 obtain ⟨c,z,s,T,Sh,M,Qc,rfl⟩:=oc l1
 obtain ⟨F,rfl⟩:=bG l2
 obtain ⟨vs7,vF,rfl,h7,hF⟩:=IX hsvs hrep
 obtain ⟨hE,hLl⟩:=hP
 have hLl:(ai (.i (-1)) T.list ++ ad 0 Sh.list).length≤536870912:=hLl
 clear hsvs hrep hsh l1 l2
 refine calls_of_wp hf hb ?_
 rw [FX,hnt]
 generalize ha0:({ tmps:=[Value.agg vs7,vF].toArray ++ Array.replicate (77 - ([Value.agg vs7,vF].toArray:Array Value).size) undef,defers:=[] }:Act)=a0
 have a0s:a0.tmps.size=77:=by rw [← ha0];simp
 have a00:a0.eval (.tmp 0) = .agg vs7:=by rw [← ha0];simp [Act.eval,Array.getD_eq_getD_getElem?]
 have a01:a0.eval (.tmp 1)=vF:=by rw [← ha0];simp [Act.eval,Array.getD_eq_getD_getElem?]
 have a0d:a0.defers=[]:=by rw [← ha0]
 clear ha0
 refine wp_seq (bQ JM ?_)
 simp only [wpL]
 intro o hd ho
 refine np ho ?_
 rw [hd]
 clear hd ho o
 intro o hd ho
 refine eY ho ?_
 rw [hd]
 clear hd ho o
 refine wp_seq (bQ JN ?_)
 simp only [wpL]
 intro o hd ho
 refine eY ho ?_
 rw [hd]
 clear hd ho o
 refine wp_seq (bQ JG ?_)
 simp only [wpL]
 intro o hd ho
 refine eY ho ?_
 rw [hd]
 clear hd ho o
 refine wp_seq (bQ JT ?_)
 simp only [wpL]
 intro o hd ho
 refine xR pZ.map ho ?_
 rw [hd]
 clear hd ho o
 intro o hd ho
 refine eY ho ?_
 rw [hd]
 clear hd ho o
 have hc0:(a0.eval (.tmp 0)).cells=vs7:=by rw [a00];rfl
 rw [hc0]
 simp only [au]
 generalize hw1:w0.alloc (.cells vs7 29)=w1
 generalize hw2:w1.alloc (.map #[] 0)=w2
 have s1:w1.heap.size=w0.heap.size + 1:=by rw [← hw1];simp
 have s2:w2.heap.size=w0.heap.size + 2:=by rw [← hw2];simp [s1]
 have p1:w1.heap[w0.heap.size]? = some (.cells vs7 29 (0,0)):=by rw [← hw1];exact heap_alloc_new w0 _
 have p2:w2.heap[w0.heap.size + 1]? = some (.map #[] 0):=by rw [← hw2,← s1];exact heap_alloc_new w1 _
 have o1:∀ b,b < w0.heap.size→w1.heap[b]? = w0.heap[b]?:=fun b hb=>by rw [← hw1];exact heap_alloc_old _ _ hb
 have o2:∀ b,b < w0.heap.size + 1→w2.heap[b]? = w1.heap[b]?:=fun b hb=>by rw [← hw2];exact heap_alloc_old _ _ (by omega)
 have F2:Fut (fun _=>False) w0 w2:=⟨by rw [← hw2,← hw1];rfl,by rw [← hw2,← hw1];rfl,by rw [← hw2,← hw1];rfl,by omega,fun k hk _=>by rw [o2 k (by omega),o1 k hk]⟩
 have hm2:(((((a0.put (some 2) (.pointer (some ⟨w0.heap.size,0,none⟩))).put (some 4) (.slice none 0 0)).put (some 5) (.slice none 0 0)).put (some 6) (.slice none 0 0)).put (some 16) (.map (some w1.heap.size))).eval (.tmp 16) = .map (some w1.heap.size):=ay (by simp only [size_put];omega)
 rw [hm2,s1]
 generalize ha1:((((((a0.put (some 2) (.pointer (some ⟨w0.heap.size,0,none⟩))).put (some 4) (.slice none 0 0)).put (some 5) (.slice none 0 0)).put (some 6) (.slice none 0 0)).put (some 16) (.map (some (w0.heap.size + 1)))).put (some 7) (.map (some (w0.heap.size + 1))))=a1
 have a1s:a1.tmps.size=77:=by rw [← ha1];simp only [size_put];exact a0s
 have a1d:a1.defers=[]:=by rw [← ha1];simp only [aP];exact a0d
 have e1:a1.eval (.tmp 1)=vF:=by rw [← ha1];simp (disch:=first | omega | (simp only [size_put];omega)) only [ae,ay,a01]
 have e2:a1.eval (.tmp 2) = .pointer (some ⟨w0.heap.size,0,none⟩):=by rw [← ha1];simp (disch:=first | omega | (simp only [size_put];omega)) only [ae,ay]
 have e5:a1.eval (.tmp 5) = .slice none 0 0:=by rw [← ha1];simp (disch:=first | omega | (simp only [size_put];omega)) only [ae,ay]
 have e6:a1.eval (.tmp 6) = .slice none 0 0:=by rw [← ha1];simp (disch:=first | omega | (simp only [size_put];omega)) only [ae,ay]
 have e7:a1.eval (.tmp 7) = .map (some (w0.heap.size + 1)):=by rw [← ha1];simp (disch:=first | omega | (simp only [size_put];omega)) only [ae,ay]
 clear ha1 hm2 hc0 a00 a01 a0d a0s
 obtain ⟨Z1,hZ1⟩:∃ Z1:Nat→Prop,Z1=fun b=>b < w2.heap.size∧b≠w0.heap.size + 1:=⟨_,rfl⟩
 have hZZ:∀ b,Z b→Z1 b:=fun b hb=>by rw [hZ1];have:=hZ b hb;exact ⟨by omega,by omega⟩
 have St:Stays w0 w2 Z Z1:=⟨hZZ,fun b hb=>F2.block b (hZ b hb) id⟩
 have hN1:Z1 w0.heap.size:=by rw [hZ1];exact ⟨by omega,by omega⟩
 have hmeta:bz w2 Z1 MTC w0.heap.size 0 [c,z,s,T,Sh,M,Qc]:=aX.cells (aX.mono St h7) fun j u hj=>by
  rw [cell_of_row w2 _ _ vs7 29 (0,0) ((o2 _ (by omega)).trans p1),Nat.zero_add,← hj,Array.getElem?_toList]
 generalize hLd:ai (.i (-1)) T.list ++ ad 0 Sh.list=L at hLl
 refine wp_seq (wp_seq (bJ HQ (fun _ _ h=>h) (n:=77) (G:=fun _=>.pointer none) (Z:=Z1) (env:=[(2,.rptr MTC [c,z,s,T,Sh,M,Qc])]) (k:=fun σ=>get σ.env 18=vt LNC (.l L)∧get σ.env 19=vi (.i (L.length:Int))∧get σ.env 20=vi (.i 0)) (by kernel_rfl) (by kernel_rfl) a1s (mj fun p hp=>?_) (fun b hb=>by rw [hZ1] at hb;exact hb.1) (fun _=>rfl) ?_ ?_))
 ·have hp:p=(2,.rptr MTC [c,z,s,T,Sh,M,Qc]):=by simpa using hp
  subst hp
  exact ⟨_,0,e2,hN1,hmeta⟩
 ·rw [Cw,hLd]
  exact ⟨hE,rfl,rfl,rfl⟩
 rintro σ a2 w3 Z2 G2 ⟨k1,k2,k3⟩ S' q2
 have F3:Fut (fun _=>False) w2 w3:=S'.fut
 have r18:=S'.slot 18
 have r19:=S'.slot 19
 have r20:=S'.slot 20
 rw [k1] at r18
 rw [k2] at r19
 rw [k3] at r20
 have hsz3:=F3.size
 have kp:∀ t,dZ t [1,2,5,6,7]=true→a2.eval (.tmp t)=a1.eval (.tmp t):=fun t ht=>aj (l:=[1,2,5,6,7]) (by kernel_rfl) q2 ht
 have St3:Stays w2 w3 Z1 Z2:=⟨S'.sub,fun b hb=>F3.block b (by rw [hZ1] at hb;exact hb.1) id⟩
 have B0:Bd0 w0 w3 (w0.heap.size + 1) Z2 vF (a2.eval (.tmp 18)) c z s T Sh M Qc F L:=
  {lo:=by omega,hi:=by omega
   zs:=fun b hb=>⟨S'.lt b hb,fun e=>by
    rcases S'.new b hb with h | h | h | h
    ·rw [hZ1] at h;exact h.2 e
    ·exact h
    ·exact h
    ·have h:w2.heap.size≤b:=h;omega⟩
   file:=aR.mono St3 _ _ _ (aR.mono St _ _ _ hF)
   lines:=r18
   meta_:=bz.mono St3 MTC _ _ _ (F3.block _ (by omega) id) hmeta
   zn:=S'.sub _ hN1 }
 have hI:BdI w0 w3 (w0.heap.size + 1) vF (a2.eval (.tmp 18)) (.slice none 0 0) (.slice none 0 0) L.length [] [] [] a2 w3:=
  {size:=S'.size,calm:=S'.calm.trans a1d,e1:=(kp 1 rfl).trans e1,e2:=(kp 2 rfl).trans e2,e18:=rfl,e19:=r19.1,e7:=(kp 7 rfl).trans e7,old:=fun _ _ _=>rfl,ge:=Nat.le_refl _,fut:=F2.trans F3 (fun _ h=>h) (fun _ _ h=>h)
   mapB:=(F3.block _ (by omega) id).trans p2,e5:=(kp 5 rfl).trans e5,e6:=(kp 6 rfl).trans e6,d5:=fe.nil _ _ _,b5:=fun b h=>(by cases h),d6:=fe.nil _ _ _,b6:=fun b h=>(by cases h),sep:=fun b h=>(by cases h) }
 generalize hvL:a2.eval (.tmp 18)=vL at B0 hI
 clear S' q2 kp k1 k2 k3 r18 r19 hmeta St3
 obtain ⟨st,hst⟩:∃ st:Nat→List U × List PK,st=fun j=>(L.take j).foldl (bu F.list c.int) ([],[]):=⟨_,rfl⟩
 have hstep:∀ j,j < L.length→st (j + 1)=bu F.list c.int (st j) (U.at L j):=fun j hj=>by
  rw [hst]
  show (L.take (j + 1)).foldl _ _=_
  rw [List.take_add_one,List.getElem?_eq_getElem hj,List.foldl_append,eG hj]
  rfl
 refine vD (t:=20) (fun j a w=>a.eval (.tmp 20) = .int .i64 (j:Nat)∧∃ es v5 v6,BdI w0 w3 (w0.heap.size + 1) vF vL v5 v6 L.length (st j).1 (st j).2 es a w∧fM es (st j).2 j∧(st j).1.length≤j)
  (fun j a w=>a.eval (.tmp 20) = .int .i64 (j:Nat)∧∃ es v5 v6,BdI w0 w3 (w0.heap.size + 1) vF vL v5 v6 L.length (st (j + 1)).1 (st (j + 1)).2 es a w∧fM es (st (j + 1)).2 (j + 1)∧(st (j + 1)).1.length≤j + 1) L.length (fun j a w h=>h.1) (Nat.zero_le _) ?_ ?_ ?_ ?_ ?_
 ·have h0:st 0=([],[]):=by rw [hst];rfl
  rw [h0]
  exact ⟨r20.1,[],_,_,hI,⟨fun _=>by simp [fD],fun _ h=>by simp at h,Nat.le_refl _⟩,Nat.le_refl _⟩
 ·rintro j a w hj ⟨h20,es,v5,v6,H,I,hl⟩
  refine wp_mono (dz (C:=KW) (ex:=[(20,vi (.i (j:Int))),(19,vi (.i (L.length:Int)))]) (k:=fun σ=>get σ.env 21=vb (.b (decide ((j:Int) < (L.length:Int))))) rfl bx (fun _ _ h=>h) (by kernel_rfl) (by kernel_rfl) (by kernel_rfl) H B0 (fun p hp=>?_) (by rw [Ch];rfl)) ?_
  ·rcases List.mem_cons.1 hp with rfl | hp
   ·exact la h20 (by omega) (by omega)
   ·have hp:p=(19,vi (.i (L.length:Int))):=by simpa using hp
    subst hp
    exact la H.e19 (by omega) (by omega)
  rintro ex a' w' ⟨rfl,H',F',q',σ,Z',G',hk,S'⟩
  have r21:=S'.slot 21
  rw [hk] at r21
  have r21:a'.eval (.tmp 21) = .bool (decide ((j:Int) < (L.length:Int))):=r21
  refine ⟨rfl,?_,(aj (l:=[20]) (by kernel_rfl) q' rfl).trans h20,es,v5,v6,H',I,hl⟩
  rw [r21]
  congr 1
  simp
 ·rintro j a w hj ⟨h20,es,v5,v6,H,I,hl⟩
  have main:=C6 H B0 hj hLl I hl h20
  rw [← show st (j + 1)=bu F.list c.int ((st j).1,(st j).2) (U.at L j) from hstep j hj] at main
  exact wp_mono main fun e a' w' ⟨h1,h2,es',v5',v6',h3,h4,h5⟩=>⟨h1,h2,es',v5',v6',h3,h4,h5⟩
 ·rintro j a w hj ⟨h20,es,v5,v6,H,I,hl⟩
  refine wp_mono (dz (C:=KW) (ex:=[(20,vi (.i (j:Int)))]) (k:=fun σ=>get σ.env 20=vi (.i ((j + 1:Nat):Int))) rfl bx (fun _ _ h=>h) (by kernel_rfl) (by kernel_rfl) (by kernel_rfl) H B0 (fun p hp=>?_) ?_) ?_
  ·have hp:p=(20,vi (.i (j:Int))):=by simpa using hp
   subst hp
   exact la h20 (by omega) (by omega)
  ·rw [AM]
   have hw:IntKind.i64.wrap ((U.i (j:Int)).int + 1)=((j + 1:Nat):Int):=by
    show IntKind.i64.wrap ((j:Int) + 1)=_
    rw [i64_in (by omega) (by omega)];omega
   rw [hw];rfl
  rintro ex a' w' ⟨rfl,H',F',q',σ,Z',G',hk,S'⟩
  have r20:=S'.slot 20
  rw [hk] at r20
  exact ⟨rfl,r20.1,es,v5,v6,H',I,hl⟩
 ·rintro a w ⟨h20,es,v5,v6,H,I,hl⟩
  have hfin:(st L.length).1=(qz F.list c.int L).1:=by rw [hst];show ((L.take L.length).foldl (bu F.list c.int) ([],[])).1=_;rw [List.take_length];rfl
  refine wp_seq (bQ Jv ?_)
  simp only [wpL]
  intro o hd ho
  refine jy ho ?_
  rw [hd]
  clear hd ho o
  intro o hd ho
  refine eY ho ?_
  rw [hd]
  clear hd ho o
  refine wp_ret ?_
  have hs:=H.size
  have hge:=H.ge
  have e4:((a.put (some 76) (a.eval (.tmp 5))).put (some 4) ((a.put (some 76) (a.eval (.tmp 5))).eval (.tmp 76))).eval (.tmp 4)=v5:=by
   rw [ay (by rw [size_put];omega),ay (by omega)];exact H.e5
  refine ⟨by simp only [aP];exact H.calm,_,results_tmp hres,_,fun b=>Z b∨v5.ownBlock=some b,rfl,H.fut,fun b hb=>.inl hb,fun b hb=>?_,fun b hb=>?_,[vt PPC (.l (qz F.list c.int L).1)],?_,?_⟩
  ·rcases hb with hb | hb
   ·exact .inl hb
   ·have:=H.b5 b hb
    exact .inr ⟨by omega,H.d5.plain hb⟩
  ·rcases hb with hb | hb
   ·have:=hZ b hb;omega
   ·exact H.d5.lt hb
  ·rw [hrt]
   show aU PR [59] [[.l (qz F.list c.int (ai (.i (-1)) T.list ++ ad 0 Sh.list)).1]]=_
   rw [hLd]
   kernel_rfl
  ·show aR w _ (.sl true PPC) (((a.put (some 76) (a.eval (.tmp 5))).put (some 4) ((a.put (some 76) (a.eval (.tmp 5))).eval (.tmp 76))).eval (.tmp 4)) _
   rw [e4,← hfin]
   exact H.d5.rep fun b hb=>.inr hb
end Go.Mat

namespace Go.Mat
open Go Go.Den Go.Proofs Go.RowKit
set_option maxRecDepth 100000
def nS:List (List U)→List (List U):=fun us=>[[.l (nth (.i 0) (nth [] us 0) 0).list]]
theorem rj {f:FuncId} {fn:Func} {us:List (List U)} (hcp:sa f) (hbody:fn.body.isNone=false) (hname:(fn.name == "runtime.NumGoroutine")=false) (hpar:fn.params.toList=[24]) (hrt:fn.resultTypes.toList=[24]) (hP:fc us):vc PR f fn us (nS us):=by
 refine ⟨hbody,hname,?_⟩
 intro w Z vs hZ hsh ⟨svs,hsvs,hrep⟩
 rw [hpar] at hsh hsvs
 obtain ⟨u1,rfl,l1⟩:=cT (m:=true) (cs:=[TRC]) (by kernel_rfl) hsh
 obtain ⟨T,rfl⟩:=bG l1
 have hP:dv T.list:=hP
 have e:aU PR [24] [[T]]=some [.agg [.val TRC T]]:=by kernel_rfl
 rw [e] at hsvs
 cases hsvs
 obtain ⟨x1,t1,rfl,⟨a1,rfl,v,t,h1,hv,ht⟩,h2⟩:=hrep
 have ht:t=[]:=ht
 subst ht
 have h2:t1=[]:=h2
 subst h2
 have ha1:a1 = #[v]:=by apply Array.ext';simpa using h1
 subst ha1
 refine (hcp w Z v T hv hZ hP.1 hP.2).mono ?_
 rintro e w' ⟨v',rows,rfl,F,D⟩
 refine ⟨_,fun b=>Z b∨v'.ownBlock=some b∨∃ (j:Nat) (r:Value),rows[j]? = some r∧r.ownBlock=some b,rfl,F,fun b hb=>.inl hb,fun b hb=>?_,fun b hb=>?_,[.agg [.val TRC (.l T.list)]],?_,?_⟩
 ·rcases hb with hb | hb | ⟨j,r,hr,hb⟩
  ·exact .inl hb
  ·exact .inr ⟨D.home b hb,ns D.own hb⟩
  ·exact .inr ⟨(D.rowF j r b hr hb).1,(D.row j r hr).plain hb⟩
 ·rcases hb with hb | hb | ⟨j,r,hr,hb⟩
  ·exact Nat.lt_of_lt_of_le (hZ b hb) F.size
  ·exact (D.own.lt b hb).2
  ·exact (D.row j r hr).lt hb
 ·rw [hrt];rfl
 ·exact ⟨#[v'],rfl,v',[],rfl,kJ (fun _ h=>h) (fun b h=>.inr (.inl (by rw [← dk D.own];exact h))) (by rw [← D.len];exact D.own) (D.reps fun j r b hr hb=>.inr (.inr ⟨j,r,hr,hb⟩)),rfl⟩
theorem By:cG PR 47 fc nS:=fun fn us hfn hP=>by
 have hf:PR.funcs[(47:Nat)]? = some Tryz.f47:=by kernel_rfl
 rw [hf] at hfn;cases hfn
 exact rj n5 (by kernel_rfl) (by kernel_rfl) (by kernel_rfl) (by kernel_rfl) hP
theorem wk:cG PR 15 fc nS:=fun fn us hfn hP=>by
 have hf:PR.funcs[(15:Nat)]? = some Tryz.f15:=by kernel_rfl
 rw [hf] at hfn;cases hfn
 exact rj pJ (by kernel_rfl) (by kernel_rfl) (by kernel_rfl) (by kernel_rfl) hP
end Go.Mat

namespace Go.Mat
open Go Go.Den Go.Proofs
def xX:List (List U)→Prop:=fun us=>fc us∧(nth (.i 0) (nth [] us 1) 0).int=4096
noncomputable def oK:aS:=fun _ svs os k=>match svs,os with
 | [.val (.int .i64) n,.ptr p q,.ptr p4 q4],[.box [.val (.sl false [.sl true x1]) T],.box [.own o],.arr t []]=>(n.int=4096∧x1=EC∧p=256∧q=0∧p4=512∧q4=0∧o=514∧t=47)∧k (.exit 0) ⟨[(2,.ptr 256 0),(4,.ptr 512 0)],[(256,.box [.val (.sl false [.sl true EC]) T]),(512,.box [.own 514]),(514,.arr 47 [])]⟩
 | _,_=>False
noncomputable def GR:Ctx:=mkC PR bM (aV 47 fc nS aK) aL (aw 0 [5,2,4] [256,512,514] oK aC) (an 0 [2,4] [256,512,514] aq) aq
theorem AF (pan:KP) (μ:Mu) (N:Nat) (k:KE) (n T:U) {a} (_:a=((↑(List.length T.list):Int) * 8):=by rfl): (exec (GR.panics pan) (aa Tryz.f21 0) 0 ⟨[(5,vi n),(2,.ptr 256 0),(4,.ptr 512 0)],[(256,.box [.val TRC T]),(512,.box [.own 514]),(514,.arr 47 [])]⟩ (again PR (some ([2,4],[256,512,514])) none pan [5,2,4] [256,512,514] oK μ N k))=(bif decide (n.int < bif decide ((4096:Int) < IntKind.wrap IntKind.i64 a) then (4096:Int) else IntKind.wrap IntKind.i64 a) then False else k (Ex.exit 0) (St.mk [(2,SV.ptr 256 0),(4,SV.ptr 512 0)] [(256,Obj.box [SV.val (Ct.sl false [Ct.sl true EC]) T]),(512,Obj.box [SV.own 514]),(514,Obj.arr 47 [])])):=by subst_vars;kernel_rfl
theorem EZ (R:RF) (T n:U):(run GR Tryz.f21 [[T],[n]] R)=(((bif decide (n.int < 0) then (0:Int) else n.int)=4096∧EC=EC∧nat_lit 256=nat_lit 256∧nat_lit 0=nat_lit 0∧nat_lit 512=nat_lit 512∧nat_lit 0=nat_lit 0∧nat_lit 514=nat_lit 514
 ∧ nat_lit 47=nat_lit 47)∧fc [[T]]∧R [[U.l T.list]]):=by kernel_rfl
end Go.Mat

namespace Go.Mat
open Go Go.Den Go.Proofs
set_option maxRecDepth 100000
theorem DT:aE GR 0 (aa Tryz.f21 0):=by
 refine al (F:=oK) (ts:=[5,2,4]) (os:=[256,512,514]) rfl (fun _ _=>0) ?_
 intro pan svs os k ho1 ho2 h
 unfold oK at h
 split at h
 ·rename_i n p q p4 q4 x1 T o t
  obtain ⟨⟨hn,rfl,rfl,rfl,rfl,rfl,rfl,rfl⟩,hk⟩:=h
  refine .eq (AF pan _ _ k n T) ?_
  refine bd (fun hlt=>?_) (fun _=>hk)
  rw [hn] at hlt
  exfalso
  generalize IntKind.i64.wrap ((T.list.length:Int) * 8)=x at hlt
  cases hx:decide ((4096:Int) < x) with
  | true=>rw [hx,cond_true] at hlt;omega
  | false=>rw [hx,cond_false] at hlt;have:=of_decide_eq_false hx;omega
 ·exact h.elim
theorem Cd:cG PR 21 xX nS:=fun fn us hfn hP=>by
 have hf:PR.funcs[(21:Nat)]? = some Tryz.f21:=by kernel_rfl
 rw [hf] at hfn;cases hfn
 refine aM (C:=GR) (aB ao af (.consP By .nil) .nil) hf (by kernel_rfl) (aW (by kernel_rfl) DT) fun hok=>?_
 obtain ⟨u1,u2,rfl,l1,l2⟩:=bR (m:=true) (cs:=[TRC]) (m2:=false) (cs2:=[.int .i64]) (by kernel_rfl) (by kernel_rfl) hok.1
 obtain ⟨T,rfl⟩:=bG l1
 obtain ⟨n,rfl⟩:=bG l2
 obtain ⟨h1,h2⟩:=hP
 have h2:n.int=4096:=h2
 refine .eq (EZ _ T n) ⟨⟨?_,by trivial,by trivial,by trivial,by trivial,by trivial,by trivial,by trivial⟩,h1,rfl⟩
 rw [h2];rfl
end Go.Mat

namespace Go.Mat
open Go Go.Den Go.Proofs
def plS (L i:U):Int:=U.int (nth (.i 0) (U.list (nth (.i 0) L.list (Int.toNat i.int))) 0)
def plC (L i:U):Int:=U.int (nth (.i 0) (List.tail (U.list (nth (.i 0) L.list (Int.toNat i.int)))) 0)
abbrev shT (x:U):U:=nth (.i 0) x.list.tail.tail 0
def cA (x:U) (T:List U):U:=.l (c4 x.list 2 [.l T])
def bY (a b d e g:U) (st:List U × List U) (p:U):List U × List U:=
 bif decide ((U.at p.list 0).int < 0) then (setX st.1 (nth (.i 0) p.list.tail 0).int a b d e g,st.2)
 else (st.1,st.2.set (U.at p.list 0).int.toNat (cA (U.at st.2 (U.at p.list 0).int.toNat) (setX (shT (U.at st.2 (U.at p.list 0).int.toNat)).list (nth (.i 0) p.list.tail 0).int a b d e g)))
def ff (a b d e g:U) (T X ps:List U):List U × List U:=ps.foldl (bY a b d e g) (T,X)
def fT (T X ps:List U):Prop:=(dv T∧∀ x,x ∈ X→dv (shT x).list)∧X.length≤1073741824∧∀ p,p ∈ ps→(U.at p.list 0).int < (X.length:Int)
noncomputable def sJ:aS:=fun _ svs os k=>match svs,os with
 | [.val (.int .i64) i,.val (.int .i64) n,.val (.sl true x0) L,.ptr p1 q1,.ptr p2 q2,.ptr p3 q3],[.box [.val (.int .i64) c,.val (.int .i64) z,.val .str s,.val (.sl false [.sl true x1]) T,.own o,.val (.sl true x2) M,.val (.sl false [.int .i64]) Q],.arr t X,.box [.val (.int .i64) a,.val (.int .i64) b,.val (.int .i64) d,.val (.int .i64) e,.val (.int .u32) g],
   .box [.val (.int .i64) r1,.val (.int .i64) r2,.val .str r3,.own o1,.own o2,.own o3,.own o4],.arr t4 [],.arr t3 [],.arr t2 [],.arr t1 []]=>
  ((x0=PPC∧p1=384∧q1=0∧p2=640∧q2=0∧p3=768∧q3=0∧x1=EC∧o=2064∧x2=BC∧t=55)∧(o1=776∧o2=778∧o3=780∧o4=782∧t4=3∧t3=64∧t2=55∧t1=47)∧
    T = .l T.list∧n.int=(L.list.length:Int)∧0≤i.int∧i.int≤n.int∧L.list.length≤1073741824∧fT T.list X (L.list.drop i.int.toNat))∧
  k (.exit 0) ⟨[(3,.ptr 384 0),(6,.ptr 768 0)],[(384,.box [vi c,vi z,vs s,.val TRC (.l (ff a b d e g T.list X (L.list.drop i.int.toNat)).1),.own 2064,vt BC M,vl (.int .i64) Q]),(2064,.arr 55 (ff a b d e g T.list X (L.list.drop i.int.toNat)).2),
   (768,.box [vi r1,vi r2,vs r3,.own 776,.own 778,.own 780,.own 782]),(782,.arr 3 []),(780,.arr 64 []),(778,.arr 55 []),(776,.arr 47 [])]⟩
 | _,_=>False
noncomputable def woC:Ctx:=mkC PR bM (aV 21 xX nS (aV 41 fc Ej aK)) (cw 40 [] (gR SC 55) aL)
 (aw 0 [20,19,18,3,5,6] [384,2064,640,768,782,780,778,776] sJ aC) (an 0 [3,6] [384,2064,768,782,780,778,776] aq) aq
noncomputable def woF:Tr:=fun args objs k=>match args,objs with
 | [.agg [.val (.int .i64) c,.val (.int .i64) z,.val .str s,.val (.sl false [.sl true x1]) T,.val (.sl true x3) Sh,.val (.sl true x2) M,.val (.sl false [.int .i64]) Q],.val (.sl true x0) L,.agg [.val (.int .i64) a,.val (.int .i64) b,.val (.int .i64) d,.val (.int .i64) e,.val (.int .u32) g]],[]=>
  ((x1=EC∧x3=SC∧x2=BC∧x0=PPC)∧L.list.length≤1073741824∧fT T.list Sh.list L.list)∧
  k (.ret [.agg [vi c,vi z,vs s,.val TRC (.l (ff a b d e g T.list Sh.list L.list).1),.own 2097152,vt BC M,vl (.int .i64) Q]]) [(2097152,.arr 55 (ff a b d e g T.list Sh.list L.list).2)]
 | _,_=>False
theorem Dg (pan:KP) (μ:Mu) (N:Nat) (k:KE) (i n L c z s T M Q a b d e g r1 r2 r3:U) (X:List U) {p r f t h j m o q u v w x y a1 b1 c1} (_:p=(Int.toNat (plS L i)):=by rfl) (_:r=(List.tail (List.tail (U.list (nth (.i 0) X p)))):=by rfl) (_:f=(List.set X p (U.l (c4 (U.list (nth (.i 0) X p)) 2 [U.l (setX (U.list (nth (.i 0) r 0)) (plC L i) a b d e g)]))):=by rfl) (_:t=(IntKind.wrap .i64 (i.int + 1)):=by rfl) (_:h=(List.drop (Int.toNat t) L.list):=by rfl) (_:j=(PPC=PPC∧384=384∧0=0∧640=640∧0=0∧768=768∧0=0∧EC=EC∧2064=2064∧[Ct.str,Ct.bool,Ct.sl true PPC]=[.str,Ct.bool,Ct.sl true PPC]∧55=55):=by rfl) (_:m=(768,.box [vi r1,vi r2,.val .str r3,.own 776,.own 778,.own 780,.own 782]):=by rfl) (_:o=(776=776∧778=778∧780=780∧782=782∧3=3∧64=64∧55=55∧47=47):=by rfl) (_:q=(List.tail (U.list (nth (.i 0) L.list i.int.toNat))):=by rfl) (_:u=(L.list.length:Int):=by rfl) (_:v=(780,.arr 64 []):=by rfl) (_:w=(778,.arr 55 []):=by rfl) (_:x=(776,.arr 47 []):=by rfl) (_:y=(782,.arr 3 []):=by rfl) (_:a1=(List.length X):=by rfl) (_:b1=(3,.ptr 384 0):=by rfl) (_:c1=(6,.ptr 768 0):=by rfl): (exec (woC.panics pan) (aa Tryz.f19 0) 0 ⟨[(20,vi i),(19,vi n),(18,vt PPC L),(3,.ptr 384 0),(5,.ptr 640 0),(6,.ptr 768 0)],[(384,.box [vi c,vi z,vs s,.val TRC T,.own 2064,vt BC M,vl (.int .i64) Q]),(2064,.arr 55 X),(640,.box [vi a,vi b,vi d,vi e,.val (.int .u32) g]),(768,.box [vi r1,vi r2,vs r3,.own 776,.own 778,.own 780,.own 782]),(782,.arr 3 []),(780,.arr 64 []),(778,.arr 55 []),(776,.arr 47 [])]⟩ (again PR (some ([3,6],[384,2064,768,782,780,778,776])) none pan [20,19,18,3,5,6] [384,2064,640,768,782,780,778,776] sJ μ N k))=(bif decide (i.int < n.int) then bif decide ((0:Int)≤i.int∧i.int < u) then bif decide (plS L i < 0) then fc [[T],[nth (.i 0) q 0],[a,b,d,e,g]]∧bif Nat.blt (μ [vi (U.i t),vi n,.val (.sl true PPC) L,.ptr 384 0,.ptr 640 0,.ptr 768 0] [.box [vi c,vi z,.val .str s,.val (.sl false [.sl true EC]) (U.l (setX T.list (plC L i) a b d e g)),.own 2064,.val (.sl true [.str,Ct.bool,Ct.sl true PPC]) M,.val (.sl false [.int .i64]) Q],.arr 55 X,.box [vi a,vi b,vi d,vi e,.val (.int .u32) g],.box [vi r1,vi r2,.val .str r3,.own 776,.own 778,.own 780,.own 782],.arr 3 [],.arr 64 [],.arr 55 [],.arr 47 []]) N then (j∧o∧U.l (setX T.list (plC L i) a b d e g)=U.l (setX T.list (plC L i) a b d e g)∧n.int=u∧(0:Int)≤IntKind.wrap .i64 (i.int + 1)∧IntKind.wrap .i64 (i.int + 1)≤n.int∧L.list.length≤(1073741824:Nat)∧fT (setX T.list (plC L i) a b d e g) X h)∧k (Ex.exit 0) (St.mk [b1,c1] [(384,.box [vi c,vi z,.val .str s,.val (.sl false [.sl true EC]) (U.l (Prod.fst (ff a b d e g (setX T.list (plC L i) a b d e g) X h))),.own 2064,.val (.sl true [.str,Ct.bool,Ct.sl true PPC]) M,.val (.sl false [.int .i64]) Q]),(2064,.arr 55 (Prod.snd (ff a b d e g (setX T.list (plC L i) a b d e g) X h))),m,y,v,w,x]) else False else bif decide ((0:Int)≤plS L i∧plS L i < (X.length:Int)) then Alt (bif Nat.blt p a1 then (fun T=>Alt T T) (fc [[nth (.i 0) r 0],[nth (.i 0) q 0],[a,b,d,e,g]]∧bif Nat.blt p a1 then bif Nat.blt (μ [vi (U.i t),vi n,.val (.sl true PPC) L,.ptr 384 0,.ptr 640 0,.ptr 768 0] [.box [vi c,vi z,.val .str s,.val (.sl false [.sl true EC]) T,.own 2064,.val (.sl true [.str,Ct.bool,Ct.sl true PPC]) M,.val (.sl false [.int .i64]) Q],.arr 55 f,.box [vi a,vi b,vi d,vi e,.val (.int .u32) g],.box [vi r1,vi r2,.val .str r3,.own 776,.own 778,.own 780,.own 782],.arr 3 [],.arr 64 [],.arr 55 [],.arr 47 []]) N then (j∧o∧T=U.l T.list∧n.int=u∧(0:Int)≤IntKind.wrap .i64 (i.int + 1)∧IntKind.wrap .i64 (i.int + 1)≤n.int∧L.list.length≤(1073741824:Nat)∧fT T.list f h)∧k (Ex.exit 0) (St.mk [b1,c1] [(384,.box [vi c,vi z,.val .str s,.val (.sl false [.sl true EC]) (U.l (Prod.fst (ff a b d e g T.list f h))),.own 2064,.val (.sl true [.str,Ct.bool,Ct.sl true PPC]) M,.val (.sl false [.int .i64]) Q]),(2064,.arr 55 (Prod.snd (ff a b d e g T.list f h))),m,y,v,w,x]) else False else False) else False) ((fun T=>Alt (Alt T T) (Alt T T)) (bif Nat.blt p a1 then fc [[nth (.i 0) r 0],[nth (.i 0) q 0],[a,b,d,e,g]]∧bif Nat.blt p a1 then bif Nat.blt (μ [vi (U.i t),vi n,.val (.sl true PPC) L,.ptr 384 0,.ptr 640 0,.ptr 768 0] [.box [vi c,vi z,.val .str s,.val (.sl false [.sl true EC]) T,.own 2064,.val (.sl true [.str,Ct.bool,Ct.sl true PPC]) M,.val (.sl false [.int .i64]) Q],.arr 55 f,.box [vi a,vi b,vi d,vi e,.val (.int .u32) g],.box [vi r1,vi r2,.val .str r3,.own 776,.own 778,.own 780,.own 782],.arr 3 [],.arr 64 [],.arr 55 [],.arr 47 []]) N then (j∧o∧T=U.l T.list∧n.int=u∧(0:Int)≤IntKind.wrap .i64 (i.int + 1)∧IntKind.wrap .i64 (i.int + 1)≤n.int∧L.list.length≤(1073741824:Nat)∧fT T.list f h)∧k (Ex.exit 0) (St.mk [b1,c1] [(384,.box [vi c,vi z,.val .str s,.val (.sl false [.sl true EC]) (U.l (Prod.fst (ff a b d e g T.list f h))),.own 2064,.val (.sl true [.str,Ct.bool,Ct.sl true PPC]) M,.val (.sl false [.int .i64]) Q]),(2064,.arr 55 (Prod.snd (ff a b d e g T.list f h))),m,y,v,w,x]) else False else False else False)) else False else False else k (Ex.exit 0) (St.mk [b1,c1] [(384,.box [vi c,vi z,.val .str s,.val (.sl false [.sl true EC]) T,.own 2064,.val (.sl true [.str,Ct.bool,Ct.sl true PPC]) M,.val (.sl false [.int .i64]) Q]),(2064,.arr 55 X),m,y,v,w,x])):=by subst_vars;kernel_rfl
theorem Gz (R:RT) (L c z s T Sh M Q a b d e g:U) {f h} (_:f=(ff a b d e g T.list Sh.list (List.drop (Int.toNat 0) L.list)):=by rfl) (_:h=(L.list.length:Int):=by rfl): (jP woC Tryz.f19 [.agg [vi c,vi z,vs s,.val TRC T,vt SC Sh,vt BC M,vl (.int .i64) Q],vt PPC L,.agg (vals EC [a,b,d,e,g])] [] R)=(xX [[T],[U.i 4096]]∧([Ct.str,.int .i64,Ct.sl false [Ct.sl true EC]]=[.str,.int .i64,Ct.sl false [.sl true EC]]∧Sh.list.length≤(1073741824:Nat))∧((PPC=PPC∧384=384∧0=0∧640=640∧0=0∧768=768∧0=0∧EC=EC∧2064=2064∧[Ct.str,Ct.bool,Ct.sl true PPC]=[.str,Ct.bool,Ct.sl true PPC]∧55=55)∧(776=776∧778=778∧780=780∧782=782∧3=3∧64=64∧55=55∧47=47)∧U.l T.list=U.l T.list∧h=h∧(0:Int)≤0∧(0:Int)≤h∧L.list.length≤(1073741824:Nat)∧fT T.list Sh.list (List.drop (Int.toNat 0) L.list))∧R (Out.ret [.agg [vi c,vi z,.val .str s,.val (.sl false [.sl true EC]) (U.l (Prod.fst f)),.own 2097152,.val (.sl true [.str,Ct.bool,Ct.sl true PPC]) M,.val (.sl false [.int .i64]) Q]]) [(2097152,.arr 55 (Prod.snd f))]):=by subst_vars;kernel_rfl
end Go.Mat

namespace Go.Mat
open Go Go.Den Go.Proofs
set_option maxRecDepth 100000
theorem i9:∀ (n:Nat) (xs:List U),∃ k,fj n xs=xs.take k
 | 0,xs=>⟨xs.length,by rw [List.take_length];rfl⟩
 | n + 1,xs=>by
  unfold fj
  cases h:((U.at xs n).list.length:Int) == 0 with
  | true=>
   rw [cond_true]
   obtain ⟨k,hk⟩:=i9 n (xs.take n)
   exact ⟨min k n,by rw [hk,List.take_take]⟩
  | false=>rw [cond_false];exact ⟨xs.length,by rw [List.take_length]⟩
theorem xL {xs:List U} {j:Nat} (h:xs.length≤j):(U.at xs j).list.length=0:=by rw [oG h];rfl
theorem rr {T:List U} (h:dv T) (k:Nat):dv (T.take k):=by
 refine ⟨by rw [List.length_take];have:=h.1;omega,fun j hj=>?_⟩
 rw [List.length_take] at hj
 rw [tR (by omega)]
 exact h.2 j (by omega)
theorem uo {T:List U} {k:Nat} {R:List U} (h:dv T) (hR:R.length≤1048576):dv (T.set k (.l R)):=by
 by_cases hk:k < T.length
 ·refine ⟨by rw [List.length_set];exact h.1,fun j hj=>?_⟩
  rw [List.length_set] at hj
  rw [fA hk]
  split
  ·exact hR
  ·exact h.2 j hj
 ·rw [List.set_eq_of_length_le (by omega)];exact h
theorem vR {T:List U} {k:Nat} (h:dv T) (hk:T.length + k≤1048576):dv (bm T k):=by
 have hl:(bm T k).length=T.length + k:=by unfold bm;simp
 refine ⟨by omega,fun j hj=>?_⟩
 rw [mU (by omega)]
 split
 ·rename_i h';exact h.2 j h'
 ·exact Nat.zero_le _
theorem yJ {T:List U} (h:dv T) (j:Nat):(U.at T j).list.length≤1048576:=by
 by_cases hj:j < T.length
 ·exact h.2 j hj
 ·rw [xL (by omega)];omega
theorem wK {r:U} (h:r.list.length≤1048576):(rowOf r).length≤1048576:=by
 unfold rowOf
 cases (r.list.length:Int) == 0 with
 | true=>rw [cond_true];show 8≤_;omega
 | false=>rw [cond_false];exact h
theorem Eg {R:List U} (h:R.length≤1048576):(dY R).length≤1048576:=by
 unfold dY
 cases !dD R with
 | true=>rw [cond_true];exact Nat.zero_le _
 | false=>rw [cond_false];exact h
theorem BB {T:List U} {m:Nat} {e:List U} (h:dv T) (hm:m < 4096):dv (setR T m e):=by
 unfold setR
 simp only
 obtain ⟨k,hk⟩:=i9 ((bm T (m / 8 + 1 - T.length)).set (m / 8) (.l (dY (bj (rowOf (U.at (bm T (m / 8 + 1 - T.length)) (m / 8))) (m % 8) e)))).length ((bm T (m / 8 + 1 - T.length)).set (m / 8) (.l (dY (bj (rowOf (U.at (bm T (m / 8 + 1 - T.length)) (m / 8))) (m % 8) e))))
 rw [hk]
 have hp:dv (bm T (m / 8 + 1 - T.length)):=vR h (by have:=h.1;omega)
 refine rr (uo hp (Eg ?_)) k
 unfold bj
 rw [List.length_set]
 exact wK (yJ hp _)
theorem qY {T:List U} {i:Int} {a b d e g:U} (h:dv T):dv (setX T i a b d e g):=by
 unfold setX
 cases hc:decide (i < 0) || (decide (i ≥ 4096) || !bw T a.int b.int d.int e.int g.int 7 0) with
 | true=>rw [cond_true];exact h
 | false=>
  rw [cond_false]
  simp only [Bool.or_eq_false_iff,decide_eq_false_iff_not] at hc
  exact BB h (by omega)
theorem fJ (x:U) (T:List U):shT (cA x T) = .l T:=rfl
theorem BJ {T X ps:List U} {p a b d e g:U} (h:fT T X (p :: ps)):fT (bY a b d e g (T,X) p).1 (bY a b d e g (T,X) p).2 ps:=by
 obtain ⟨⟨h1,h2⟩,h3,h4⟩:=h
 unfold bY
 cases hc:decide ((U.at p.list 0).int < 0) with
 | true=>rw [cond_true];exact ⟨⟨qY h1,h2⟩,h3,fun q hq=>h4 q (List.mem_cons_of_mem _ hq)⟩
 | false=>
  rw [cond_false]
  refine ⟨⟨h1,fun x hx=>?_⟩,by rw [List.length_set];exact h3,fun q hq=>by rw [List.length_set];exact h4 q (List.mem_cons_of_mem _ hq)⟩
  rcases List.mem_or_eq_of_mem_set hx with hx | rfl
  ·exact h2 x hx
  ·rw [fJ]
   have h0:=of_decide_eq_false hc
   have h5:=h4 p (List.mem_cons_self ..)
   have hk:(U.at p.list 0).int.toNat < X.length:=by omega
   refine qY (h2 _ ?_)
   rw [eG hk]
   exact List.getElem_mem hk
theorem bc {L:List U} {k:Nat} (hk:k < L.length):L.drop k=U.at L k :: L.drop (k + 1):=by rw [List.drop_eq_getElem_cons hk,eG hk]
theorem Gp:aE woC 0 (aa Tryz.f19 0):=by
 refine al (F:=sJ) (ts:=[20,19,18,3,5,6]) (os:=[384,2064,640,768,782,780,778,776]) rfl (fun svs _=>match svs with | .val _ i :: .val _ n :: _=>(n.int - i.int).toNat | _=>0) ?_
 intro pan svs os k ho1 ho2 h
 unfold sJ at h
 split at h
 ·rename_i i n x0 L p1 q1 p2 q2 p3 q3 c z s x1 T o x2 M Q t X a b d e g r1 r2 r3 o1 o2 o3 o4 t4 t3 t2 t1
  obtain ⟨⟨⟨rfl,rfl,rfl,rfl,rfl,rfl,rfl,rfl,rfl,rfl,rfl⟩,⟨rfl,rfl,rfl,rfl,rfl,rfl,rfl,rfl⟩,hT,hn,h0,hin,hL,hok⟩,hk⟩:=h
  refine .eq (Dg pan _ _ k i n L c z s T M Q a b d e g r1 r2 r3 X) ?_
  simp only [en]
  refine bd (fun hlt=>?_) (fun hlt=>?_)
  ·have hi:i.int.toNat < L.list.length:=by omega
   have hwi:IntKind.wrap .i64 (i.int + 1)=i.int + 1:=i64_in (by omega) (by omega)
   have hc:(i.int + 1).toNat=i.int.toNat + 1:=by omega
   have hdr:=bc hi
   rw [hdr] at hk hok
   have hok':=BJ (a:=a) (b:=b) (d:=d) (e:=e) (g:=g) hok
   obtain ⟨⟨g1,g2⟩,g3,g4⟩:=hok
   have hp:=g4 _ (List.mem_cons_self ..)
   have hpe:(U.at (U.at L.list i.int.toNat).list 0).int=plS L i:=rfl
   have hpc:(nth (.i 0) (U.at L.list i.int.toNat).list.tail 0).int=plC L i:=rfl
   rw [hpe] at hp
   refine dt ⟨h0,by omega⟩ ?_
   refine bd (fun hneg=>?_) (fun hneg=>?_)
   ·have hst:bY a b d e g (T.list,X) (U.at L.list i.int.toNat)=(setX T.list (plC L i) a b d e g,X):=by
     unfold bY
     rw [hpe,decide_eq_true hneg,cond_true,hpc]
    have hof:ff a b d e g T.list X (U.at L.list i.int.toNat :: L.list.drop (i.int.toNat + 1))=ff a b d e g (setX T.list (plC L i) a b d e g) X (L.list.drop (i.int.toNat + 1)):=by
     unfold ff
     rw [List.foldl_cons,hst]
    rw [hst] at hok'
    rw [hof] at hk
    rw [hwi,hc]
    exact ⟨g1,blt (by simp only [U.int_i];omega) ⟨⟨⟨by trivial,by trivial,by trivial,by trivial,by trivial,by trivial,by trivial,by trivial,by trivial,by trivial,by trivial⟩,⟨by trivial,by trivial,by trivial,by trivial,by trivial,by trivial,by trivial,by trivial⟩,by trivial,hn,by omega,by omega,hL,hok'⟩,hk⟩⟩
   ·have hkx:(plS L i).toNat < X.length:=by omega
    have hst:bY a b d e g (T.list,X) (U.at L.list i.int.toNat)=(T.list,X.set (plS L i).toNat (cA (U.at X (plS L i).toNat) (setX (shT (U.at X (plS L i).toNat)).list (plC L i) a b d e g))):=by
     unfold bY
     rw [hpe,decide_eq_false hneg,cond_false,hpc]
    have hof:ff a b d e g T.list X (U.at L.list i.int.toNat :: L.list.drop (i.int.toNat + 1))=ff a b d e g T.list (X.set (plS L i).toNat (cA (U.at X (plS L i).toNat) (setX (shT (U.at X (plS L i).toNat)).list (plC L i) a b d e g))) (L.list.drop (i.int.toNat + 1)):=by
     unfold ff
     rw [List.foldl_cons,hst]
    rw [hst] at hok'
    rw [hof] at hk
    have hsp:fc [[nth (U.i 0) (List.tail (List.tail (U.list (nth (U.i 0) X (Int.toNat (plS L i)))))) (0:Nat)],[nth (U.i 0) (List.tail (U.list (nth (U.i 0) L.list (Int.toNat i.int)))) (0:Nat)],[a,b,d,e,g]]:=by
     show dv (shT (U.at X (plS L i).toNat)).list
     refine g2 _ ?_
     rw [eG hkx]
     exact List.getElem_mem hkx
    refine dt ⟨by omega,by omega⟩ (blt hkx ⟨hsp,blt hkx ?_⟩)
    rw [hwi,hc]
    exact blt (by simp only [U.int_i];omega) ⟨⟨⟨by trivial,by trivial,by trivial,by trivial,by trivial,by trivial,by trivial,by trivial,by trivial,by trivial,by trivial⟩,⟨by trivial,by trivial,by trivial,by trivial,by trivial,by trivial,by trivial,by trivial⟩,hT,hn,by omega,by omega,hL,hok'⟩,hk⟩
  ·have hd:L.list.drop i.int.toNat=[]:=List.drop_eq_nil_of_le (by omega)
   rw [hd] at hk
   have h1:ff a b d e g T.list X []=(T.list,X):=rfl
   rw [h1,← hT] at hk
   exact hk
 ·exact h.elim
theorem Hh:ee PR 19 woF:=fun fn hfn=>by
 have hf:PR.funcs[(19:Nat)]? = some Tryz.f19:=by kernel_rfl
 rw [hf] at hfn;cases hfn
 refine dB (C:=woC) (aB ao af (.consP Cd (.consP Gb .nil)) (.cons IM .nil)) hf (by kernel_rfl) (aW (by kernel_rfl) Gp) fun vs objs R h1 h2 h=>?_
 clear h1 h2
 unfold woF at h
 split at h
 ·rename_i c z s x1 T x3 Sh x2 M Q x0 L a b d e g
  obtain ⟨⟨⟨rfl,rfl,rfl,rfl⟩,hL,hok⟩,h⟩:=h
  exact .eq (Gz R L c z s T Sh M Q a b d e g) ⟨⟨hok.1.1,rfl⟩,⟨by trivial,hok.2.1⟩,⟨⟨by trivial,by trivial,by trivial,by trivial,by trivial,by trivial,by trivial,by trivial,by trivial,by trivial,by trivial⟩,⟨by trivial,by trivial,by trivial,by trivial,by trivial,by trivial,by trivial,by trivial⟩,by trivial,by trivial,by omega,by omega,hL,hok⟩,h⟩
 ·exact h.elim
end Go.Mat

namespace Go.Mat
open Go Go.Den Go.Proofs
set_option maxRecDepth 100000
def fB (x:Int):Prop:=0≤x∧x≤65536
def jI (e:U):Prop:=fB (U.at e.list 1).int∧fB (U.at e.list 2).int
structure GT (T:List U):Prop where
 len:T.length≤512
 row:∀ j,j < T.length→(U.at T j).list.length=0∨(U.at T j).list.length=8
 ent:∀ j,j < T.length→∀ k,k < (U.at T j).list.length→jI (U.at (U.at T j).list k)
theorem FD {k st ct sz sm c:Int} (h:dR k st ct sz sm c=true):fB st∧fB ct:=by
 unfold dR at h
 unfold fB
 split at h
 ·cases h
 ·split at h
  ·simp only [decide_eq_true_eq] at h;omega
  ·have key:ea st ct=true→(0≤st∧st≤65536)∧0≤ct∧ct≤65536:=fun h=>by
    unfold ea at h
    simp only [Bool.and_eq_true,decide_eq_true_eq] at h
    omega
   split at h
   ·rw [Bool.and_eq_true] at h;exact key h.2
   ·split at h
    ·rw [Bool.and_eq_true] at h;exact key h.2
    ·cases h
theorem ua {n c i:Int}:∀ {l:List U} {k:Int},ef n c i k l=true→∀ j,j < l.length→jI (U.at l j)
 | [],_,_,j,hj=>by simp at hj
 | e :: r,k,h,j,hj=>by
  rw [ef,Bool.and_eq_true] at h
  cases j with
  | zero=>
   have h1:=h.1
   unfold pn at h1
   rw [Bool.and_eq_true] at h1
   exact FD h1.1
  | succ j=>exact ua h.2 j (by simpa using hj)
theorem ky {n c:Int}:∀ {T:List U} {i:Int},cx n c i T=true→∀ j,j < T.length→∀ k,k < (U.at T j).list.length→jI (U.at (U.at T j).list k)
 | [],_,_,j,hj=>by simp at hj
 | l :: r,i,h,j,hj=>by
  unfold cx at h
  split at h
  ·rename_i h0
   cases j with
   | zero=>intro k hk;have hk:k < l.list.length:=hk;rw [h0.1] at hk;simp at hk
   | succ j=>exact ky h j (by simpa using hj)
  ·simp only [Bool.and_eq_true] at h
   cases j with
   | zero=>
    have h1:=h.1
    unfold ll at h1
    simp only [Bool.and_eq_true,decide_eq_true_eq] at h1
    exact ua h1.1.2
   | succ j=>exact ky h.2 j (by simpa using hj)
theorem GT.of_right {T:List U} {n c:Int} (hl:T.length≤1099511627776) (h:bU T n c=true):GT T:=by
 unfold bU at h
 split at h
 ·cases h
 ·rename_i hn
  refine ⟨?_,iu h,ky h⟩
  by_cases hT:T=[]
  ·subst hT;exact Nat.zero_le _
  ·have:=lO (n:=n) (c:=c) (by omega) T 0 (by omega) (by omega) h hT
   omega
theorem GT.tab {T:List U} (h:GT T):dv T:=⟨by have:=h.len;omega,fun j hj=>by have:=h.row j hj;omega⟩
theorem GT.take {T:List U} (h:GT T) (k:Nat):GT (T.take k):=by
 refine ⟨by rw [List.length_take];have:=h.len;omega,fun j hj=>?_,fun j hj=>?_⟩<;>
 ·rw [List.length_take] at hj
  rw [tR (by omega)]
  first | exact h.row j (by omega) | exact h.ent j (by omega)
theorem GT.pad {T:List U} {k:Nat} (h:GT T) (hk:T.length + k≤512):GT (bm T k):=by
 have hl:(bm T k).length=T.length + k:=by unfold bm;simp
 refine ⟨by omega,fun j hj=>?_,fun j hj q hq=>?_⟩
 ·rw [mU (by omega)]
  split
  ·rename_i h';exact h.row j h'
  ·exact .inl rfl
 ·rw [mU (by omega)] at hq ⊢
  split at hq
  ·rename_i h';rw [if_pos h'];exact h.ent j h' q hq
  ·simp at hq
theorem GT.set {T:List U} {k:Nat} {R:List U} (h:GT T) (hR:R.length=0∨R.length=8) (hE:∀ q,q < R.length→jI (U.at R q)):GT (T.set k (.l R)):=by
 by_cases hk:k < T.length
 ·refine ⟨by rw [List.length_set];exact h.len,fun j hj=>?_,fun j hj q hq=>?_⟩
  ·rw [List.length_set] at hj
   rw [fA hk]
   split
   ·exact hR
   ·exact h.row j hj
  ·rw [List.length_set] at hj
   rw [fA hk] at hq ⊢
   split at hq
   ·rename_i e;rw [if_pos e];exact hE q hq
   ·rename_i e;rw [if_neg e];exact h.ent j hj q hq
 ·rw [List.set_eq_of_length_le (by omega)];exact h
theorem DA:∀ q,q < fX.length→jI (U.at fX q):=by
 intro q hq
 have hq:q < 8:=hq
 have key:∀ n:Nat,n < 8→jI (U.at fX n):=by
  intro n hn
  match n,hn with
  | 0,_=>exact ⟨⟨by decide,by decide⟩,by decide,by decide⟩
  | 1,_=>exact ⟨⟨by decide,by decide⟩,by decide,by decide⟩
  | 2,_=>exact ⟨⟨by decide,by decide⟩,by decide,by decide⟩
  | 3,_=>exact ⟨⟨by decide,by decide⟩,by decide,by decide⟩
  | 4,_=>exact ⟨⟨by decide,by decide⟩,by decide,by decide⟩
  | 5,_=>exact ⟨⟨by decide,by decide⟩,by decide,by decide⟩
  | 6,_=>exact ⟨⟨by decide,by decide⟩,by decide,by decide⟩
  | 7,_=>exact ⟨⟨by decide,by decide⟩,by decide,by decide⟩
  | n + 8,h=>omega
 exact key q hq
theorem GT.setR {T:List U} {m:Nat} {a b d e g:U} (h:GT T) (hm:m < 4096) (hb:fB b.int) (hd:fB d.int):GT (setR T m [a,b,d,e,g]):=by
 have hp:GT (bm T (m / 8 + 1 - T.length)):=h.pad (by have:=h.len;omega)
 have hpl:m / 8 < (bm T (m / 8 + 1 - T.length)).length:=by unfold bm;simp;omega
 have hr:=hp.row _ hpl
 have hrl:=nn hr
 have hro:∀ q,q < (rowOf (U.at (bm T (m / 8 + 1 - T.length)) (m / 8))).length→jI (U.at (rowOf (U.at (bm T (m / 8 + 1 - T.length)) (m / 8))) q):=by
  intro q hq
  unfold rowOf at hq ⊢
  cases hc:((U.at (bm T (m / 8 + 1 - T.length)) (m / 8)).list.length:Int) == 0 with
  | true=>rw [hc,cond_true] at hq;rw [cond_true];exact DA q hq
  | false=>rw [hc,cond_false] at hq;rw [cond_false];exact hp.ent _ hpl q hq
 unfold Mat.setR
 simp only
 generalize rowOf (U.at (bm T (m / 8 + 1 - T.length)) (m / 8))=R at hrl hro
 have hpk:∀ q,q < (bj R (m % 8) [a,b,d,e,g]).length→jI (U.at (bj R (m % 8) [a,b,d,e,g]) q):=by
  intro q hq
  unfold bj at hq ⊢
  rw [List.length_set] at hq
  rw [fA (by omega)]
  split
  ·exact ⟨hb,hd⟩
  ·exact hro q hq
 have hpkl:(bj R (m % 8) [a,b,d,e,g]).length=8:=by unfold bj;rw [List.length_set];exact hrl
 have hkl:(dY (bj R (m % 8) [a,b,d,e,g])).length=0∨(dY (bj R (m % 8) [a,b,d,e,g])).length=8:=by
  unfold dY
  cases !dD (bj R (m % 8) [a,b,d,e,g]) with
  | true=>exact .inl rfl
  | false=>exact .inr hpkl
 have hkf:∀ q,q < (dY (bj R (m % 8) [a,b,d,e,g])).length→jI (U.at (dY (bj R (m % 8) [a,b,d,e,g])) q):=by
  intro q hq
  unfold dY at hq ⊢
  cases hc:!dD (bj R (m % 8) [a,b,d,e,g]) with
  | true=>rw [hc,cond_true] at hq;simp at hq
  | false=>rw [hc,cond_false] at hq;rw [cond_false];exact hpk q hq
 obtain ⟨k,hk⟩:=i9 ((bm T (m / 8 + 1 - T.length)).set (m / 8) (.l (dY (bj R (m % 8) [a,b,d,e,g])))).length ((bm T (m / 8 + 1 - T.length)).set (m / 8) (.l (dY (bj R (m % 8) [a,b,d,e,g]))))
 rw [hk]
 exact (hp.set hkl hkf).take k
theorem GT.setX {T:List U} {i:Int} {a b d e g:U} (h:GT T) (hb:fB b.int) (hd:fB d.int):GT (setX T i a b d e g):=by
 unfold Mat.setX
 cases hc:decide (i < 0) || (decide (i ≥ 4096) || !bw T a.int b.int d.int e.int g.int 7 0) with
 | true=>rw [cond_true];exact h
 | false=>
  rw [cond_false]
  simp only [Bool.or_eq_false_iff,decide_eq_false_iff_not] at hc
  exact h.setR (by omega) hb hd
structure GM (T S:List U):Prop where
 t:GT T
 s:S.length≤8
 st:∀ x,x ∈ S→GT (shT x).list
theorem GM.of_right {c z s T S M Q:U} (h:cj c z s T S M Q=true) (hT:T.list.length≤1099511627776) (hS:∀ x,x ∈ S.list→(shT x).list.length≤1099511627776):GM T.list S.list∧Q.list.length≤65536∧M.list.length≤8:=by
 unfold cj at h
 simp only [Bool.and_eq_true,decide_eq_true_eq] at h
 obtain ⟨⟨⟨⟨⟨⟨⟨⟨⟨⟨⟨⟨h1,h2⟩,h3⟩,h4⟩,h5⟩,h6⟩,h7⟩,h8⟩,h9⟩,h10⟩,h11⟩,h12⟩,h13⟩:=h
 refine ⟨⟨GT.of_right hT h5,h6,?_⟩,h8,h7⟩
 have key:∀ l:List U,dQ c.int l=true→(∀ x,x ∈ l→(shT x).list.length≤1099511627776)→∀ x,x ∈ l→GT (shT x).list:=by
  intro l
  induction l with
  | nil=>intro _ _ x hx;cases hx
  | cons y r ih=>
   intro hr hl x hx
   rw [dQ,Bool.and_eq_true,Bool.and_eq_true] at hr
   rcases List.mem_cons.1 hx with rfl | hx
   ·refine GT.of_right (hl _ (List.mem_cons_self ..)) (n:=(e1 x).int / 2 ^ c.int.toNat) (c:=c.int) ?_
    have e:shT x=e2 x:=by show nth _ x.list.tail.tail 0=_;rw [aD,aD]
    rw [e];exact hr.1.2
   ·exact ih hr.2 (fun x hx=>hl x (List.mem_cons_of_mem _ hx)) x hx
 exact key _ h9 hS
theorem GM.step {T S ps:List U} {p a b d e g:U} (h:GM T S) (hb:fB b.int) (hd:fB d.int) (hp:(U.at p.list 0).int < (S.length:Int)):GM (bY a b d e g (T,S) p).1 (bY a b d e g (T,S) p).2∧(bY a b d e g (T,S) p).2.length=S.length:=by
 unfold bY
 cases hc:decide ((U.at p.list 0).int < 0) with
 | true=>rw [cond_true];exact ⟨⟨h.t.setX hb hd,h.s,h.st⟩,rfl⟩
 | false=>
  rw [cond_false]
  have h0:=of_decide_eq_false hc
  have hk:(U.at p.list 0).int.toNat < S.length:=by omega
  refine ⟨⟨h.t,by rw [List.length_set];exact h.s,fun x hx=>?_⟩,by rw [List.length_set]⟩
  rcases List.mem_or_eq_of_mem_set hx with hx | rfl
  ·exact h.st x hx
  ·rw [fJ]
   refine GT.setX (h.st _ ?_) hb hd
   rw [eG hk]
   exact List.getElem_mem hk
theorem GM.wo {a b d e g:U} (hb:fB b.int) (hd:fB d.int):∀ {ps T S:List U},GM T S→(∀ p,p ∈ ps→(U.at p.list 0).int < (S.length:Int))→GM (ff a b d e g T S ps).1 (ff a b d e g T S ps).2∧(ff a b d e g T S ps).2.length=S.length
 | [],_,_,h,_=>⟨h,rfl⟩
 | p :: ps,T,S,h,hp=>by
  obtain ⟨h1,h2⟩:=h.step (ps:=ps) (a:=a) (e:=e) (g:=g) hb hd (hp p (List.mem_cons_self ..))
  have e0:ff a b d e g T S (p :: ps)=ff a b d e g (bY a b d e g (T,S) p).1 (bY a b d e g (T,S) p).2 ps:=rfl
  rw [e0]
  obtain ⟨h3,h4⟩:=GM.wo hb hd h1 (fun q hq=>by rw [h2];exact hp q (List.mem_cons_of_mem _ hq))
  exact ⟨h3,h4.trans h2⟩
theorem GM.ok {T S ps:List U} (h:GM T S) (hp:∀ p,p ∈ ps→(U.at p.list 0).int < (S.length:Int)):fT T S ps:=⟨⟨h.t.tab,fun x hx=>(h.st x hx).tab⟩,by have:=h.s;omega,hp⟩
theorem Dx {T:List U} (h:GT T) (k:Nat):fB (aY 1 T (k:Int)).int∧fB (aY 2 T (k:Int)).int:=by
 have hn:decide ((k:Int) < 0)=false:=decide_eq_false (by omega)
 have e:∀ j,aY j T (k:Int)=nth (.i 0) (ko T k).list j:=fun j=>by unfold aY;rw [hn,cond_false];rfl
 rw [e,e]
 by_cases h1:k / 8 < T.length
 ·by_cases h2:k % 8 < (U.at T (k / 8)).list.length
  ·exact h.ent _ h1 _ h2
  ·have:ko T k = .i 0:=oG (by show (U.at T (k / 8)).list.length≤k % 8;omega)
   rw [this];exact ⟨⟨by decide,by decide⟩,by decide,by decide⟩
 ·have:ko T k = .i 0:=by
   unfold ko
   have:nth (.i 0) T (k / 8) = .i 0:=oG (by omega)
   rw [this];simp [U.list]
  rw [this];exact ⟨⟨by decide,by decide⟩,by decide,by decide⟩
theorem yA:∀ {L:List U},(∀ l,l ∈ L→fB (pS l).int∧fB (uG l).int)→gZ L=true
 | [],_=>rfl
 | l :: r,h=>by
  obtain ⟨⟨h1,h2⟩,h3,h4⟩:=h l (List.mem_cons_self ..)
  rw [gZ,yA fun x hx=>h x (List.mem_cons_of_mem _ hx),decide_eq_true h1,decide_eq_true h2,decide_eq_true h3,decide_eq_true h4]
  rfl
theorem ir {s:U} {T:List U} {l:U} (h:l ∈ ai s T):∃ k,l = .l (dK s T k):=by
 unfold ai aQ at h
 obtain ⟨x,hx,rfl⟩:=List.mem_map.1 h
 obtain ⟨i,_,rfl⟩:=List.mem_map.1 hx
 exact ⟨i,rfl⟩
theorem px (s:U) (T:List U):(ai s T).length≤8 * T.length:=by unfold ai;rw [List.length_map];exact kz s T _
theorem iB:∀ {S:List U} {i:Int} {l:U},l ∈ ad i S→∃ j x,x ∈ S∧i≤j∧j < i + S.length∧l ∈ ai (.i j) (shT x).list
 | [],_,_,h=>by cases h
 | x :: r,i,l,h=>by
  rw [ad,List.mem_append] at h
  rcases h with h | h
  ·refine ⟨i,x,List.mem_cons_self ..,by omega,by simp;omega,?_⟩
   have e:shT x=nth (.i 0) x.list 2:=by show nth _ x.list.tail.tail 0=_;rw [aD,aD]
   rw [e];exact h
  ·obtain ⟨j,y,h1,h2,h3,h4⟩:=iB h
   exact ⟨j,y,List.mem_cons_of_mem _ h1,by omega,by simp;omega,h4⟩
theorem GM.fit {T S:List U} (h:GM T S):gZ (ai (.i (-1)) T ++ ad 0 S)=true:=by
 refine yA fun l hl=>?_
 rcases List.mem_append.1 hl with hl | hl
 ·obtain ⟨k,rfl⟩:=ir hl
  exact Dx h.t k
 ·obtain ⟨j,x,h1,_,_,h4⟩:=iB hl
  obtain ⟨k,rfl⟩:=ir h4
  exact Dx (h.st x h1) k
theorem GM.places {T S:List U} (_h:GM T S):∀ l,l ∈ ai (.i (-1)) T ++ ad 0 S→(lnU l 0).int < (S.length:Int):=by
 intro l hl
 rcases List.mem_append.1 hl with hl | hl
 ·obtain ⟨k,rfl⟩:=ir hl
  show (-1:Int) < _;omega
 ·obtain ⟨j,x,h1,h2,h3,h4⟩:=iB hl
  obtain ⟨k,rfl⟩:=ir h4
  show j < (S.length:Int);omega
theorem rM:∀ {S:List U},(∀ x,x ∈ S→GT (shT x).list)→bb S=true∧∀ i,(ad i S).length≤4096 * S.length
 | [],_=>⟨rfl,fun _=>Nat.le_refl _⟩
 | x :: r,h=>by
  obtain ⟨h1,h2⟩:=rM fun y hy=>h y (List.mem_cons_of_mem _ hy)
  have hx:=(h x (List.mem_cons_self ..)).len
  have e:shT x=nth (.i 0) x.list 2:=by show nth _ x.list.tail.tail 0=_;rw [aD,aD]
  rw [e] at hx
  refine ⟨by rw [bb,h1,decide_eq_true (by omega)];rfl,fun i=>?_⟩
  rw [ad,List.length_append]
  have:=h2 (i + 1)
  have:=px (.i i) (nth (.i 0) x.list 2).list
  simp only [List.length_cons]
  omega
theorem GM.each {T S:List U} (h:GM T S):(T.length≤65536∧S.length≤1000∧bb S=true)∧(ai (.i (-1)) T ++ ad 0 S).length≤36864:=by
 obtain ⟨h1,h2⟩:=rM h.st
 have ht:=h.t.len
 have hs:=h.s
 refine ⟨⟨by omega,by omega,h1⟩,?_⟩
 rw [List.length_append]
 have:=h2 0
 have:=px (.i (-1)) T
 omega
theorem vA {F:List U} {c:Int}:∀ (ls:List U) (st:List U × List PK) (p:U),p ∈ (ls.foldl (bu F c) st).1→p ∈ st.1∨∃ l,l ∈ ls∧p = .l [lnU l 0,lnU l 1]
 | [],_,_,h=>.inl h
 | l :: r,st,p,h=>by
  rcases vA r _ p h with h | ⟨l',h1,h2⟩
  ·unfold bu at h
   cases hc:dm F c l || st.2.any (fh (bT l)) with
   | true=>
    rw [hc,cond_true] at h
    rcases List.mem_append.1 h with h | h
    ·exact .inl h
    ·exact .inr ⟨l,List.mem_cons_self ..,by simpa using h⟩
   | false=>rw [hc,cond_false] at h;exact .inl h
  ·exact .inr ⟨l',List.mem_cons_of_mem _ h1,h2⟩
theorem ub {F:List U} {c:Int}:∀ (ls:List U) (st:List U × List PK),(ls.foldl (bu F c) st).1.length≤st.1.length + ls.length
 | [],_=>Nat.le_refl _
 | l :: r,st=>by
  have:=ub (F:=F) (c:=c) r (bu F c st l)
  have h2:(bu F c st l).1.length≤st.1.length + 1:=by
   unfold bu
   cases dm F c l || st.2.any (fh (bT l)) with
   | true=>rw [cond_true];simp
   | false=>rw [cond_false];simp
  simp only [List.foldl_cons,List.length_cons]
  omega
theorem GM.bad {T S F:List U} {c:Int} (h:GM T S):(qz F c (ai (.i (-1)) T ++ ad 0 S)).1.length≤36864∧∀ p,p ∈ (qz F c (ai (.i (-1)) T ++ ad 0 S)).1→(U.at p.list 0).int < (S.length:Int):=by
 refine ⟨?_,fun p hp=>?_⟩
 ·have:=ub (F:=F) (c:=c) (ai (.i (-1)) T ++ ad 0 S) ([],[])
  have:=h.each.2
  have e:(qz F c (ai (.i (-1)) T ++ ad 0 S)).1=((ai (.i (-1)) T ++ ad 0 S).foldl (bu F c) ([],[])).1:=rfl
  rw [e]
  simp only [List.length_nil] at *
  omega
 ·rcases vA _ _ p hp with h' | ⟨l,hl,rfl⟩
  ·cases h'
  ·exact h.places l hl
end Go.Mat

namespace Go.Mat
open Go Go.Den Go.Proofs
def whU (F:U):List U:=List.take (min (List.length F.list / (16:Nat)) (65536:Nat) * (16:Nat)) F.list
def bdU (c z s T Sh M Q F:U):List U:=Prod.fst (qz (whU F) c.int (tJ [[c,z,s,T,Sh,M,Q],[U.l (whU F)]]))
def woU (c z s T Sh M Q F:U):List U × List U:=ff (U.i 1) (U.i 0) (U.i 0) (U.i 0) (U.i 0) T.list Sh.list (bdU c z s T Sh M Q F)
def szU (F:U):Int:=IntKind.wrap IntKind.i64 (Int.tdiv (List.length (whU F):Int) 16)
def vG (p:U):U:=.l [.i 1,nth (.i 0) p.list.tail 0,nth (.i 0) p.list 0]
def dX (size:Int) (Q:List U) (i:Int) (x:U):List U:=
 bif decide ((bif decide (i < (Q.length:Int)) then (U.at Q i.toNat).int else 0) < (bif decide (i ≥ size) then 0 else x.int)) then [.l [.i 2,.i i,.i 0]]
 else bif decide ((bif decide (i < (Q.length:Int)) then (U.at Q i.toNat).int else 0) > (bif decide (i ≥ size) then 0 else x.int)) then [.l [.i 3,.i i,.i 0]] else []
def ix (size:Int) (Q:List U):Int→List U→List U
 | _,[]=>[]
 | i,x :: r=>dX size Q i x ++ ix size Q (i + 1) r
noncomputable def oz:aS:=fun _ svs os k=>match svs,os with
 | [.val (.int .i64) i,.val (.int .i64) n,.val (.sl true x0) L,.own o,.ptr p q,.val (.sl false [.int .u8]) F,.val (.sl true x4) L5],[.arr t X,.box [.val (.int .i64) c,.val (.int .i64) z,.val .str s,.val (.sl false [.sl true x1]) T,.val (.sl true x3) Sh,.val (.sl true x2) M,.val (.sl false [.int .i64]) Q]]=>
  ((x0=PPC∧o=892∧p=256∧q=0∧x4=PPC∧t=51∧x1=EC∧x3=SC∧x2=BC)∧n.int=(L.list.length:Int)∧0≤i.int∧i.int≤n.int∧X.length + L.list.length≤1073741823 + i.int.toNat)∧
  k (.exit 0) ⟨[(6,.own 892),(2,.ptr 256 0),(1,.val (.sl false [.int .u8]) F),(5,vt PPC L5)],[(892,.arr 51 (X ++ (L.list.drop i.int.toNat).map vG)),(256,.box [vi c,vi z,vs s,.val TRC T,vt SC Sh,vt BC M,vl (.int .i64) Q])]⟩
 | _,_=>False
noncomputable def oh:aS:=fun _ svs os k=>match svs,os with
 | [.val (.int .i64) i,.val (.int .i64) n,.val (.sl false [.int .i64]) L,.own o,.ptr p q,.val (.int .i64) sz],[.arr t X,.box [.val (.int .i64) c,.val (.int .i64) z,.val .str s,.val (.sl false [.sl true x1]) T,.val (.sl true x3) Sh,.val (.sl true x2) M,.val (.sl false [.int .i64]) Q]]=>
  ((i = .i i.int∧o=892∧p=256∧q=0∧t=51∧x1=EC∧x3=SC∧x2=BC)∧n.int=(L.list.length:Int)∧0≤i.int∧i.int≤n.int∧X.length + L.list.length≤1073741823 + i.int.toNat)∧
  k (.exit 2) ⟨[(6,.own 892)],[(892,.arr 51 (X ++ ix sz.int Q.list i.int (L.list.drop i.int.toNat)))]⟩
 | _,_=>False
noncomputable def faC:Ctx:=mkC PR bM (aH 17 yF (aH 18 mW (aV 20 ta HO (aV 24 ofP ofS aK)))) (cw 19 [] woF aL)
 (aw 0 [24,23,22,6,2,1,5] [892,256] oz (aw 2 [52,51,50,6,2,9] [892,256] oh aC)) (an 0 [6,2,1,5] [892,256] (an 2 [6] [892] aq)) aq
theorem zN (pan:KP) (μ:Mu) (N:Nat) (k:KE) (i n L F L5 c z s T Sh M Q:U) (X:List U) {a b d e} (_:a=(256,.box [vi c,vi z,.val .str s,.val (.sl false [.sl true EC]) T,.val (.sl true [.str,.int .i64,Ct.sl false [.sl true EC]]) Sh,.val (.sl true [.str,Ct.bool,Ct.sl true PPC]) M,.val (.sl false [.int .i64]) Q]):=by rfl) (_:b=(U.list (nth (.i 0) L.list i.int.toNat)):=by rfl) (_:d=(X ++ [U.l [U.i 1,nth (.i 0) (List.tail b) 0,nth (.i 0) b 0]]):=by rfl) (_:e=(IntKind.wrap .i64 (i.int + 1)):=by rfl): (exec (faC.panics pan) (aa Tryz.f13 0) 0 ⟨[(24,vi i),(23,vi n),(22,vt PPC L),(6,.own 892),(2,.ptr 256 0),(1,.val (.sl false [.int .u8]) F),(5,vt PPC L5)],[(892,.arr 51 X),(256,.box [vi c,vi z,vs s,.val TRC T,vt SC Sh,vt BC M,vl (.int .i64) Q])]⟩ (again PR (some ([6,2,1,5],[892,256])) none pan [24,23,22,6,2,1,5] [892,256] oz μ N k))=(bif decide (i.int < n.int) then bif decide ((0:Int)≤i.int∧i.int < (L.list.length:Int)) then bif decide (List.length X + 1≤room) && true then bif Nat.blt (μ [vi (U.i e),vi n,.val (.sl true PPC) L,.own 892,.ptr 256 0,.val (.sl false [.int .u8]) F,.val (.sl true PPC) L5] [.arr 51 d,.box [vi c,vi z,.val .str s,.val (.sl false [.sl true EC]) T,.val (.sl true [.str,.int .i64,Ct.sl false [.sl true EC]]) Sh,.val (.sl true [.str,Ct.bool,Ct.sl true PPC]) M,.val (.sl false [.int .i64]) Q]]) N then ((PPC=PPC∧892=892∧256=256∧0=0∧PPC=PPC∧51=51∧EC=EC∧[Ct.str,.int .i64,Ct.sl false [Ct.sl true EC]]=[.str,.int .i64,Ct.sl false [.sl true EC]]∧[Ct.str,Ct.bool,Ct.sl true PPC]=[.str,Ct.bool,Ct.sl true PPC])∧n.int=(L.list.length:Int)∧(0:Int)≤IntKind.wrap .i64 (i.int + 1)∧IntKind.wrap .i64 (i.int + 1)≤n.int∧List.length d + L.list.length≤(1073741823:Nat) + Int.toNat e)∧k (Ex.exit 0) (St.mk [(6,.own 892),(2,.ptr 256 0),(1,.val (.sl false [.int .u8]) F),(5,.val (.sl true PPC) L5)] [(892,.arr 51 (X ++ [U.l [U.i 1,nth (.i 0) (List.tail b) 0,nth (.i 0) b 0]] ++ List.map vG (List.drop (Int.toNat e) L.list))),a]) else False else False else False else k (Ex.exit 0) (St.mk [(6,.own 892),(2,.ptr 256 0),(1,.val (.sl false [.int .u8]) F),(5,.val (.sl true PPC) L5)] [(892,.arr 51 X),a])):=by subst_vars;kernel_rfl
theorem Bs (pan:KP) (μ:Mu) (N:Nat) (k:KE) (i n L sz c z s T Sh M Q:U) (X:List U) {b a d e f u g h j t m o p q r v} (_:b=(IntKind.wrap .i64 (i.int + 1)):=by rfl) (_:a=(U.i b=U.i b∧892=892∧256=256∧0=0∧51=51∧EC=EC∧[Ct.str,.int .i64,Ct.sl false [Ct.sl true EC]]=[.str,.int .i64,Ct.sl false [.sl true EC]]∧[Ct.str,Ct.bool,Ct.sl true PPC]=[.str,Ct.bool,Ct.sl true PPC]):=by rfl) (_:d=(μ [vi (U.i b),vi n,.val (.sl false [.int .i64]) L,.own 892,.ptr 256 0,vi sz] [.arr 51 X,.box [vi c,vi z,.val .str s,.val (.sl false [.sl true EC]) T,.val (.sl true [.str,.int .i64,Ct.sl false [.sl true EC]]) Sh,.val (.sl true [.str,Ct.bool,Ct.sl true PPC]) M,.val (.sl false [.int .i64]) Q]]):=by rfl) (_:e=(μ [vi (U.i b),vi n,.val (.sl false [.int .i64]) L,.own 892,.ptr 256 0,vi sz] [.arr 51 (X ++ [U.l [U.i 2,i,U.i 0]]),.box [vi c,vi z,.val .str s,.val (.sl false [.sl true EC]) T,.val (.sl true [.str,.int .i64,Ct.sl false [.sl true EC]]) Sh,.val (.sl true [.str,Ct.bool,Ct.sl true PPC]) M,.val (.sl false [.int .i64]) Q]]):=by rfl) (_:f=(μ [vi (U.i b),vi n,.val (.sl false [.int .i64]) L,.own 892,.ptr 256 0,vi sz] [.arr 51 (X ++ [U.l [U.i 3,i,U.i 0]]),.box [vi c,vi z,.val .str s,.val (.sl false [.sl true EC]) T,.val (.sl true [.str,.int .i64,Ct.sl false [.sl true EC]]) Sh,.val (.sl true [.str,Ct.bool,Ct.sl true PPC]) M,.val (.sl false [.int .i64]) Q]]):=by rfl) (_:u=(L.list.length:Int):=by rfl) (_:g=(a∧n.int=u∧(0:Int)≤IntKind.wrap .i64 (i.int + 1)∧IntKind.wrap .i64 (i.int + 1)≤n.int∧List.length X + L.list.length≤(1073741823:Nat) + Int.toNat b):=by rfl) (_:h=(a∧n.int=u∧(0:Int)≤IntKind.wrap .i64 (i.int + 1)∧IntKind.wrap .i64 (i.int + 1)≤n.int∧List.length (X ++ [U.l [U.i 2,i,U.i 0]]) + L.list.length≤(1073741823:Nat) + Int.toNat b):=by rfl) (_:j=(a∧n.int=u∧(0:Int)≤IntKind.wrap .i64 (i.int + 1)∧IntKind.wrap .i64 (i.int + 1)≤n.int∧List.length (X ++ [U.l [U.i 3,i,U.i 0]]) + L.list.length≤(1073741823:Nat) + Int.toNat b):=by rfl) (_:t=(List.drop (Int.toNat b) L.list):=by rfl) (_:m=(St.mk [(6,.own 892)] [(892,.arr 51 (X ++ ix sz.int Q.list b t))]):=by rfl) (_:o=(St.mk [(6,.own 892)] [(892,.arr 51 (X ++ [U.l [U.i 2,i,U.i 0]] ++ ix sz.int Q.list b t))]):=by rfl) (_:p=(St.mk [(6,.own 892)] [(892,.arr 51 (X ++ [U.l [U.i 3,i,U.i 0]] ++ ix sz.int Q.list b t))]):=by rfl) (_:q=(nth (.i 0) Q.list i.int.toNat):=by rfl) (_:r=(nth (.i 0) L.list i.int.toNat):=by rfl) (_:v=(Q.list.length:Int):=by rfl): (exec (faC.panics pan) (aa Tryz.f13 1) 2 ⟨[(52,vi i),(51,vi n),(50,.val (.sl false [.int .i64]) L),(6,.own 892),(2,.ptr 256 0),(9,vi sz)],[(892,.arr 51 X),(256,.box [vi c,vi z,vs s,.val TRC T,vt SC Sh,vt BC M,vl (.int .i64) Q])]⟩ (again PR (some ([6],[892])) none pan [52,51,50,6,2,9] [892,256] oh μ N k))=(bif decide (i.int < n.int) then bif decide ((0:Int)≤i.int∧i.int < u) then bif decide (i.int ≥ sz.int) then bif decide (i.int < v) then bif decide ((0:Int)≤i.int∧i.int < v) then bif decide (U.int q < 0) then bif decide (List.length X + 1≤room) && true then bif Nat.blt e N then h∧k (Ex.exit 2) o else False else False else bif decide (U.int q > 0) then bif decide (List.length X + 1≤room) && true then bif Nat.blt f N then j∧k (Ex.exit 2) p else False else False else bif Nat.blt d N then g∧k (Ex.exit 2) m else False else False else bif Nat.blt d N then g∧k (Ex.exit 2) m else False else bif decide (i.int < v) then bif decide ((0:Int)≤i.int∧i.int < v) then bif decide (U.int q < U.int r) then bif decide (List.length X + 1≤room) && true then bif Nat.blt e N then h∧k (Ex.exit 2) o else False else False else bif decide (U.int q > U.int r) then bif decide (List.length X + 1≤room) && true then bif Nat.blt f N then j∧k (Ex.exit 2) p else False else False else bif Nat.blt d N then g∧k (Ex.exit 2) m else False else False else bif decide ((0:Int) < U.int r) then bif decide (List.length X + 1≤room) && true then bif Nat.blt e N then h∧k (Ex.exit 2) o else False else False else bif decide ((0:Int) > U.int r) then bif decide (List.length X + 1≤room) && true then bif Nat.blt f N then j∧k (Ex.exit 2) p else False else False else bif Nat.blt d N then g∧k (Ex.exit 2) m else False else False else k (Ex.exit 2) (St.mk [(6,.own 892)] [(892,.arr 51 X)])):=by subst_vars;kernel_rfl
theorem GF (R:RF) (c z s T Sh M Q F:U) {f b e a d} (_:f=(Q.list.length:Int):=by rfl) (_:b=(bif decide (szU F < f) then f else szU F):=by rfl) (_:e=(woU c z s T Sh M Q F):=by rfl) (_:a=(bif decide (b < 0) then [] else bif decide ((65536:Int) < bif decide (szU F < f) then f else szU F) then [] else ofV (iC [[c,z,s,U.l (Prod.fst e),U.l (Prod.snd e),M,Q],[U.i b]]) (Int.toNat b)):=by rfl) (_:d=(bdU c z s T Sh M Q F):=by rfl): (run faC Tryz.f13 [[c,z,s,T,Sh,M,Q],[F]] R)=(bif !cj c z s T Sh M Q then R [[U.l []]] else ta [[c,z,s,T,Sh,M,Q],[U.l (whU F)]]∧((PPC=PPC∧892=892∧256=256∧0=0∧PPC=PPC∧51=51∧EC=EC∧[Ct.str,.int .i64,Ct.sl false [Ct.sl true EC]]=[.str,.int .i64,Ct.sl false [.sl true EC]]∧[Ct.str,Ct.bool,Ct.sl true PPC]=[.str,Ct.bool,Ct.sl true PPC])∧(↑(List.length d):Int)=(↑(List.length d):Int)∧(0:Int)≤0∧(0:Int)≤(↑(List.length d):Int)∧(0:Nat) + List.length d≤(1073741823:Nat) + Int.toNat 0)∧((EC=EC∧[Ct.str,.int .i64,Ct.sl false [Ct.sl true EC]]=[.str,.int .i64,Ct.sl false [.sl true EC]]∧[Ct.str,Ct.bool,Ct.sl true PPC]=[.str,Ct.bool,Ct.sl true PPC]∧PPC=PPC)∧List.length d≤(1073741824:Nat)∧fT T.list Sh.list d)∧ofP [[c,z,s,U.l (Prod.fst e),U.l (Prod.snd e),M,Q],[U.i b]]∧((U.i (0:Int)=U.i 0∧892=892∧256=256∧0=0∧51=51∧EC=EC∧[Ct.str,.int .i64,Ct.sl false [Ct.sl true EC]]=[.str,.int .i64,Ct.sl false [.sl true EC]]∧[Ct.str,Ct.bool,Ct.sl true PPC]=[.str,Ct.bool,Ct.sl true PPC])∧(↑(List.length a):Int)=(↑(List.length a):Int)∧(0:Int)≤0∧(0:Int)≤(↑(List.length a):Int)∧List.length ([] ++ List.map vG (List.drop (Int.toNat 0) d)) + List.length a≤(1073741823:Nat) + Int.toNat 0)∧R [[U.l ([] ++ List.map vG (List.drop (Int.toNat 0) d) ++ ix (szU F) Q.list 0 (List.drop (Int.toNat 0) a))]]):=by subst_vars;kernel_rfl
end Go.Mat

namespace Go.Mat
open Go Go.Den Go.Proofs
set_option maxRecDepth 100000
theorem DW:aE faC 0 (aa Tryz.f13 0):=by
 refine al (F:=oz) (ts:=[24,23,22,6,2,1,5]) (os:=[892,256]) rfl (fun svs _=>match svs with | .val _ i :: .val _ n :: _=>(n.int - i.int).toNat | _=>0) ?_
 intro pan svs os k ho1 ho2 h
 unfold oz at h
 split at h
 ·rename_i i n x0 L o p q F x4 L5 t X c z s x1 T x3 Sh x2 M Q
  obtain ⟨⟨⟨rfl,rfl,rfl,rfl,rfl,rfl,rfl,rfl,rfl⟩,hn,h0,hin,hX⟩,hk⟩:=h
  refine .eq (zN pan _ _ k i n L F L5 c z s T Sh M Q X) ?_
  refine bd (fun hlt=>?_) (fun hlt=>?_)
  ·have hi:i.int.toNat < L.list.length:=by omega
   have hwi:IntKind.wrap .i64 (i.int + 1)=i.int + 1:=i64_in (by omega) (by have:L.list.length≤maxLen:=ho1.2.2.1.1;unfold maxLen at this;omega)
   have hc:(i.int + 1).toNat=i.int.toNat + 1:=by omega
   rw [bc hi,List.map_cons] at hk
   refine dt ⟨h0,by omega⟩ (cu (by unfold room;omega) rfl ?_)
   rw [hwi,hc]
   exact blt (by simp only [U.int_i];omega) ⟨⟨⟨by trivial,by trivial,by trivial,by trivial,by trivial,by trivial,by trivial,by trivial,by trivial⟩,hn,by omega,by omega,by rw [List.length_append,List.length_singleton];omega⟩,by rw [List.append_assoc];exact hk⟩
  ·have hd:L.list.drop i.int.toNat=[]:=List.drop_eq_nil_of_le (by omega)
   rw [hd,List.map_nil,List.append_nil] at hk
   exact hk
 ·exact h.elim
theorem DF:aE faC 2 (aa Tryz.f13 1):=by
 refine al (F:=oh) (ts:=[52,51,50,6,2,9]) (os:=[892,256]) rfl (fun svs _=>match svs with | .val _ i :: .val _ n :: _=>(n.int - i.int).toNat | _=>0) ?_
 intro pan svs os k ho1 ho2 h
 unfold oh at h
 split at h
 ·rename_i i n L o p q sz t X c z s x1 T x3 Sh x2 M Q
  obtain ⟨⟨⟨hii,rfl,rfl,rfl,rfl,rfl,rfl,rfl⟩,hn,h0,hin,hX⟩,hk⟩:=h
  refine .eq (Bs pan _ _ k i n L sz c z s T Sh M Q X) ?_
  refine bd (fun hlt=>?_) (fun hlt=>?_)
  ·have hi:i.int.toNat < L.list.length:=by omega
   have hwi:IntKind.wrap .i64 (i.int + 1)=i.int + 1:=i64_in (by omega) (by have:L.list.length≤maxLen:=ho1.2.2.1.1;unfold maxLen at this;omega)
   have hc:(i.int + 1).toNat=i.int.toNat + 1:=by omega
   have hcn:ix sz.int Q.list i.int (U.at L.list i.int.toNat :: L.list.drop (i.int.toNat + 1))=dX sz.int Q.list i.int (U.at L.list i.int.toNat) ++ ix sz.int Q.list (i.int + 1) (L.list.drop (i.int.toNat + 1)):=rfl
   rw [bc hi,hcn] at hk
   rw [hwi,hc]
   have hxe:nth (.i 0) L.list i.int.toNat=U.at L.list i.int.toNat:=rfl
   have hqe:nth (.i 0) Q.list i.int.toNat=U.at Q.list i.int.toNat:=rfl
   have hie:∀ k:Int,U.l [U.i k,i,U.i 0]=U.l [U.i k,.i i.int,U.i 0]:=fun k=>by rw [← hii]
   rw [hxe,hqe,hie 2,hie 3]
   generalize hx:U.at L.list i.int.toNat=x at hk
   have hr:X.length + 1≤room:=by unfold room;omega
   refine dt ⟨h0,by omega⟩ ?_
   refine bd (fun hs=>?_) (fun hs=>?_)
   ·refine bd (fun hq=>dt ⟨h0,hq⟩ ?_) (fun hq=>?_)
    ·refine bd (fun ha=>cu hr rfl ?_) (fun ha=>bd (fun hb=>cu hr rfl ?_) (fun hb=>?_))
     ·exact blt (by simp only [U.int_i];omega) ⟨⟨⟨by trivial,by trivial,by trivial,by trivial,by trivial,by trivial,by trivial,by trivial⟩,hn,by omega,by omega,by rw [List.length_append,List.length_singleton];omega⟩,by have hY:=(by unfold dX;rw [decide_eq_true hs,decide_eq_true hq,cond_true,cond_true,decide_eq_true ha];rfl:dX sz.int Q.list i.int x=[.l [.i 2,.i i.int,.i 0]]);rw [hY] at hk;rw [List.append_assoc];exact hk⟩
     ·exact blt (by simp only [U.int_i];omega) ⟨⟨⟨by trivial,by trivial,by trivial,by trivial,by trivial,by trivial,by trivial,by trivial⟩,hn,by omega,by omega,by rw [List.length_append,List.length_singleton];omega⟩,by have hY:=(by unfold dX;rw [decide_eq_true hs,decide_eq_true hq,cond_true,cond_true,decide_eq_false ha,decide_eq_true hb];rfl:dX sz.int Q.list i.int x=[.l [.i 3,.i i.int,.i 0]]);rw [hY] at hk;rw [List.append_assoc];exact hk⟩
     ·exact blt (by simp only [U.int_i];omega) ⟨⟨⟨by trivial,by trivial,by trivial,by trivial,by trivial,by trivial,by trivial,by trivial⟩,hn,by omega,by omega,by omega⟩,by have hY:=(by unfold dX;rw [decide_eq_true hs,decide_eq_true hq,cond_true,cond_true,decide_eq_false ha,decide_eq_false hb];rfl:dX sz.int Q.list i.int x=[]);rw [hY] at hk;rw [List.nil_append] at hk;exact hk⟩
    ·exact blt (by simp only [U.int_i];omega) ⟨⟨⟨by trivial,by trivial,by trivial,by trivial,by trivial,by trivial,by trivial,by trivial⟩,hn,by omega,by omega,by omega⟩,by have hY:=(by unfold dX;rw [decide_eq_true hs,decide_eq_false hq,cond_true,cond_false];rfl:dX sz.int Q.list i.int x=[]);rw [hY] at hk;rw [List.nil_append] at hk;exact hk⟩
   ·refine bd (fun hq=>dt ⟨h0,hq⟩ ?_) (fun hq=>?_)
    ·refine bd (fun ha=>cu hr rfl ?_) (fun ha=>bd (fun hb=>cu hr rfl ?_) (fun hb=>?_))
     ·exact blt (by simp only [U.int_i];omega) ⟨⟨⟨by trivial,by trivial,by trivial,by trivial,by trivial,by trivial,by trivial,by trivial⟩,hn,by omega,by omega,by rw [List.length_append,List.length_singleton];omega⟩,by have hY:=(by unfold dX;rw [decide_eq_false hs,decide_eq_true hq,cond_true,cond_false,decide_eq_true ha];rfl:dX sz.int Q.list i.int x=[.l [.i 2,.i i.int,.i 0]]);rw [hY] at hk;rw [List.append_assoc];exact hk⟩
     ·exact blt (by simp only [U.int_i];omega) ⟨⟨⟨by trivial,by trivial,by trivial,by trivial,by trivial,by trivial,by trivial,by trivial⟩,hn,by omega,by omega,by rw [List.length_append,List.length_singleton];omega⟩,by have hY:=(by unfold dX;rw [decide_eq_false hs,decide_eq_true hq,cond_true,cond_false,decide_eq_false ha,decide_eq_true hb];rfl:dX sz.int Q.list i.int x=[.l [.i 3,.i i.int,.i 0]]);rw [hY] at hk;rw [List.append_assoc];exact hk⟩
     ·exact blt (by simp only [U.int_i];omega) ⟨⟨⟨by trivial,by trivial,by trivial,by trivial,by trivial,by trivial,by trivial,by trivial⟩,hn,by omega,by omega,by omega⟩,by have hY:=(by unfold dX;rw [decide_eq_false hs,decide_eq_true hq,cond_true,cond_false,decide_eq_false ha,decide_eq_false hb];rfl:dX sz.int Q.list i.int x=[]);rw [hY] at hk;rw [List.nil_append] at hk;exact hk⟩
    ·refine bd (fun ha=>cu hr rfl ?_) (fun ha=>bd (fun hb=>cu hr rfl ?_) (fun hb=>?_))
     ·exact blt (by simp only [U.int_i];omega) ⟨⟨⟨by trivial,by trivial,by trivial,by trivial,by trivial,by trivial,by trivial,by trivial⟩,hn,by omega,by omega,by rw [List.length_append,List.length_singleton];omega⟩,by have hY:=(by unfold dX;rw [decide_eq_false hs,decide_eq_false hq,cond_false,cond_false,decide_eq_true ha];rfl:dX sz.int Q.list i.int x=[.l [.i 2,.i i.int,.i 0]]);rw [hY] at hk;rw [List.append_assoc];exact hk⟩
     ·exact blt (by simp only [U.int_i];omega) ⟨⟨⟨by trivial,by trivial,by trivial,by trivial,by trivial,by trivial,by trivial,by trivial⟩,hn,by omega,by omega,by rw [List.length_append,List.length_singleton];omega⟩,by have hY:=(by unfold dX;rw [decide_eq_false hs,decide_eq_false hq,cond_false,cond_false,decide_eq_false ha,decide_eq_true hb];rfl:dX sz.int Q.list i.int x=[.l [.i 3,.i i.int,.i 0]]);rw [hY] at hk;rw [List.append_assoc];exact hk⟩
     ·exact blt (by simp only [U.int_i];omega) ⟨⟨⟨by trivial,by trivial,by trivial,by trivial,by trivial,by trivial,by trivial,by trivial⟩,hn,by omega,by omega,by omega⟩,by have hY:=(by unfold dX;rw [decide_eq_false hs,decide_eq_false hq,cond_false,cond_false,decide_eq_false ha,decide_eq_false hb];rfl:dX sz.int Q.list i.int x=[]);rw [hY] at hk;rw [List.nil_append] at hk;exact hk⟩
  ·have hd:L.list.drop i.int.toNat=[]:=List.drop_eq_nil_of_le (by omega)
   have h1:ix sz.int Q.list i.int []=[]:=rfl
   rw [hd,h1,List.append_nil] at hk
   exact hk
 ·exact h.elim
def nU (F Q:U):Int:=bif decide (szU F < (Q.list.length:Int)) then (Q.list.length:Int) else szU F
def okM (c z s T Sh M Q F:U):List U:=ai (.i (-1)) (woU c z s T Sh M Q F).1 ++ ad 0 (woU c z s T Sh M Q F).2
def faV (c z s T Sh M Q F:U):List U:=(bdU c z s T Sh M Q F).map vG ++ ix (szU F) Q.list 0 (ofV (okM c z s T Sh M Q F) (nU F Q).toNat)
def faS:List (List U)→List (List U):=fun us=>match us with
 | [[c,z,s,T,Sh,M,Q],[F]]=>[[.l (bif cj c z s T Sh M Q then faV c z s T Sh M Q F else [])]]
 | _=>[]
def mgP (T Sh:U):Prop:=T.list.length≤1099511627776∧∀ x,x ∈ Sh.list→(shT x).list.length≤1099511627776
def faP:List (List U)→Prop:=fun us=>mgP (nth (.i 0) (nth [] us 0) 3) (nth (.i 0) (nth [] us 0) 4)
theorem Fp (F:U):(whU F).length≤1048576:=by unfold whU;rw [List.length_take];omega
theorem xW (F:U):0≤szU F∧szU F≤65536:=by
 have h:=Fp F
 have e:szU F=((whU F).length:Int) / 16:=by
  unfold szU
  rw [Int.tdiv_eq_ediv_of_nonneg (by omega)]
  exact i64_in (by omega) (by omega)
 omega
theorem Js {F Q:U} (h:Q.list.length≤65536):0≤nU F Q∧nU F Q≤65536:=by
 have:=xW F
 unfold nU
 by_cases h1:szU F < (Q.list.length:Int)
 ·rw [decide_eq_true h1,cond_true];omega
 ·rw [decide_eq_false h1,cond_false];omega
theorem Fu (L:List U) (n:Nat):(ofV L n).length=n:=by unfold ofV;rw [List.length_map,List.length_range]
theorem IT:cG PR 13 faP faS:=fun fn us hfn hpre=>by
 have hf:PR.funcs[(13:Nat)]? = some Tryz.f13:=by kernel_rfl
 rw [hf] at hfn;cases hfn
 refine aM (C:=faC) (aB ao af (.cons yZ (.cons vr (.consP CZ (.consP JC .nil)))) (.cons Hh .nil)) hf (by kernel_rfl) (dS (by kernel_rfl) DW DF) fun hok=>?_
 have hp:Tryz.f13.params.toList=[29,30]:=by kernel_rfl
 rw [hp] at hok
 obtain ⟨u,u2,rfl,h1,h2⟩:=bR (by kernel_rfl:Cs PR 29=some (true,[.int .i64,.int .i64,.str,.sl false [.sl true EC],.sl true SC,.sl true BC,.sl false [.int .i64]])) (by kernel_rfl:Cs PR 30=some (false,[.sl false [.int .u8]])) hok.1
 obtain ⟨c,z,s,T,Sh,M,Q,rfl⟩:∃ a b c d e f g,u=[a,b,c,d,e,f,g]:=match u,h1 with | [a,b,c,d,e,f,g],_=>⟨a,b,c,d,e,f,g,rfl⟩
 obtain ⟨F,rfl⟩:=bG h2
 clear hok h1 h2
 have hpre:mgP T Sh:=hpre
 refine .eq (GF _ c z s T Sh M Q F) ?_
 rw [show faS [[c,z,s,T,Sh,M,Q],[F]]=[[.l (bif cj c z s T Sh M Q then faV c z s T Sh M Q F else [])]] from rfl]
 refine bi (fun hr=>by rw [nt hr];rfl) (fun hr=>?_)
 rw [nf hr,cond_true]
 obtain ⟨hG,hQ,_⟩:=GM.of_right (nf hr) hpre.1 hpre.2
 obtain ⟨b1,b2⟩:=GM.bad (F:=whU F) (c:=c.int) hG
 have hbe:bdU c z s T Sh M Q F=(qz (whU F) c.int (ai (.i (-1)) T.list ++ ad 0 Sh.list)).1:=rfl
 rw [← hbe] at b1 b2
 have i0:fB (U.i 0).int:=⟨by decide,by decide⟩
 obtain ⟨hW,hWl⟩:=GM.wo (a:=.i 1) (e:=.i 0) (g:=.i 0) i0 i0 hG b2
 have hwe:woU c z s T Sh M Q F=ff (.i 1) (.i 0) (.i 0) (.i 0) (.i 0) T.list Sh.list (bdU c z s T Sh M Q F):=rfl
 rw [← hwe] at hW hWl
 obtain ⟨n0,n1⟩:=Js (F:=F) hQ
 have hne:(bif decide (szU F < (Q.list.length:Int)) then (Q.list.length:Int) else szU F)=nU F Q:=rfl
 have hlm:iC [[c,z,s,.l (woU c z s T Sh M Q F).1,.l (woU c z s T Sh M Q F).2,M,Q],[.i (nU F Q)]]=okM c z s T Sh M Q F:=rfl
 rw [hne,hlm,decide_eq_false (by omega:¬ nU F Q < 0),decide_eq_false (by omega:¬ 65536 < nU F Q)]
 simp only [cond_false,Fu,Int.toNat_zero,List.drop_zero,List.nil_append,List.length_map]
 refine ⟨⟨hG.each.1,?_⟩,⟨⟨by trivial,by trivial,by trivial,by trivial,by trivial,by trivial,by trivial,by trivial,by trivial⟩,by trivial,by omega,by omega,by omega⟩,⟨⟨by trivial,by trivial,by trivial,by trivial⟩,by omega,hG.ok b2⟩,⟨hW.each.1,hW.fit⟩,⟨⟨by trivial,by trivial,by trivial,by trivial,by trivial,by trivial,by trivial,by trivial⟩,by trivial,by omega,by omega,by omega⟩,rfl⟩
 have:=hG.each.2
 show (ai (.i (-1)) T.list ++ ad 0 Sh.list).length≤536870912
 omega
end Go.Mat

namespace Go.Mat
open Go Go.Den Go.Proofs
theorem Et (R:RT) (c z s T S M Q n:U) {e d a b f} (_:e=(bif decide ((2:Int) < n.int) then (2:Int) else n.int):=by rfl) (_:d=(List.replicate n.int.toNat (U.i 0)):=by rfl) (_:a=(bD (inI 0 e) (0:Nat) d):=by rfl) (_:b=(ai (U.i (-1:Int)) T.list ++ ad 0 S.list):=by rfl) (_:f=(Out.ret [.own 2097152]):=by rfl): (jP ofC Tryz.f24 [.agg [vi c,vi z,vs s,.val TRC T,vt SC S,vt BC M,vl (.int .i64) Q],vi n] [] R)=(bif decide (n.int < 0) then R f [(2097152,.arr 3 [])] else bif decide (n.int > 65536) then R f [(2097152,.arr 3 [])] else bif decide ((0:Int)≤n.int∧n.int≤n.int∧n.int≤(↑room:Int)) then (2558=2558∧3=3∧EC=EC∧[Ct.str,.int .i64,Ct.sl false [Ct.sl true EC]]=[.str,.int .i64,Ct.sl false [.sl true EC]]∧[Ct.str,Ct.bool,Ct.sl true [.int .i64,.int .i64]]=[.str,Ct.bool,Ct.sl true [.int .i64,.int .i64]]∧256=256∧0=0∧(0:Int)≤0∧e≤(↑(List.length d):Int)∧List.length d≤(65536:Nat)∧eg d∧ej 1000 (List.drop (Int.toNat 0) d)=true)∧gQ [[c,z,s,T,S,M,Q]]∧(2558=2558∧3=3∧LNC=LNC∧(↑(List.length b):Int)=(↑(List.length b):Int)∧(0:Int)≤0∧(0:Int)≤(↑(List.length b):Int)∧List.length b≤(1073741824:Nat)∧n.int=(↑(List.length a):Int)∧List.length a≤(65536:Nat)∧eg a∧gZ (List.drop (Int.toNat 0) b)=true∧ej ((1:Int) + 0) a=true)∧R f [(2097152,.arr 3 (bD (cH (List.drop (Int.toNat 0) b)) (0:Nat) a))] else False):=by subst_vars;kernel_rfl
noncomputable def ofF:Tr:=fun args objs k=>match args,objs with
 | [.agg [.val (.int .i64) c,.val (.int .i64) z,.val .str s,.val (.sl false [.sl true x1]) T,.val (.sl true x3) S,.val (.sl true x2) M,.val (.sl false [.int .i64]) Q],.val (.int .i64) n],[]=>
  ((x1=EC∧x3=SC∧x2=BC)∧(0≤n.int∧n.int≤65536)∧ofP [[c,z,s,T,S,M,Q],[n]])∧
  k (.ret [.own 2097152]) [(2097152,.arr 3 (ofV (iC [[c,z,s,T,S,M,Q],[n]]) n.int.toNat))]
 | _,_=>False
end Go.Mat

namespace Go.Mat
open Go Go.Den Go.Proofs
set_option maxRecDepth 100000
theorem Eh (L:List U) (m:Nat):bD (cH L) 0 (bD (inI 0 (bif decide ((2:Int) < (m:Int)) then (2:Int) else (m:Int))) 0 (List.replicate m (.i 0)))=ofV L m:=by
 rw [dI,iM]
 unfold ofV
 rw [List.range_eq_range']
 refine List.map_congr_left fun k hk=>?_
 have hk:k < m:=by
  have:=List.mem_range'_1.1 hk
  omega
 congr 2
 unfold inI
 rw [decide_eq_true (by omega:(0:Int)≤(k:Int))]
 by_cases h2:(2:Int) < m
 ·rw [decide_eq_true h2]
  simp only [cond_true,Bool.true_and]
  by_cases h:k < 2
  ·rw [if_pos h,decide_eq_true (by omega:(k:Int) < 2)];rfl
  ·rw [if_neg h,decide_eq_false (by omega:¬ (k:Int) < 2)];rfl
 ·rw [decide_eq_false h2]
  simp only [cond_false,Bool.true_and]
  rw [if_pos (by omega),decide_eq_true (by omega:(k:Int) < (m:Int))];rfl
theorem Ir:ee PR 24 ofF:=fun fn hfn=>by
 have hf:PR.funcs[(24:Nat)]? = some Tryz.f24:=by kernel_rfl
 rw [hf] at hfn;cases hfn
 refine dB (C:=ofC) (aB ao af (.consP sk .nil) .nil) hf (by kernel_rfl) (dP (by kernel_rfl) u9 we uh) fun vs objs R h1 h2 h=>?_
 clear h1 h2
 unfold ofF at h
 split at h
 ·rename_i c sz bk x1 T x3 S x2 M Q n
  obtain ⟨⟨⟨rfl,rfl,rfl⟩,⟨hn0,hn1⟩,hpre⟩,hk⟩:=h
  obtain ⟨hE,hfit⟩:=hpre
  obtain ⟨e1,e2,e3⟩:T.list.length≤65536∧S.list.length≤1000∧bb S.list=true:=hE
  have hfit:gZ (ai (.i (-1)) T.list ++ ad 0 S.list)=true:=hfit
  have hlen:(ai (.i (-1)) T.list ++ ad 0 S.list).length≤1073741824:=by
   have h1:=de (.i (-1)) T.list
   have h2:=fY 0 S.list e3
   rw [List.length_append]
   omega
  refine .eq (Et _ c sz bk T S M Q n) ?_
  have hle:iC [[c,sz,bk,T,S,M,Q],[n]]=ai (.i (-1)) T.list ++ ad 0 S.list:=rfl
  rw [hle] at hk
  generalize ai (.i (-1)) T.list ++ ad 0 S.list=L at hfit hlen hk
  refine bd (fun h1=>absurd h1 (by omega)) (fun h1=>bd (fun h2=>absurd h2 (by omega)) (fun h2=>?_))
  obtain ⟨m,hm⟩:∃ m:Nat,n.int=(m:Int):=⟨n.int.toNat,by omega⟩
  rw [hm,Int.toNat_natCast] at hk
  simp only [Int.toNat_zero,List.drop_zero,hm,Int.toNat_natCast,List.length_replicate,ck]
  refine dt ⟨by omega,by omega,by unfold room;omega⟩ ⟨⟨by trivial,by trivial,by trivial,by trivial,by trivial,by trivial,by trivial,by omega,?_,by omega,?_,?_⟩,⟨e1,e2,e3⟩,⟨by trivial,by trivial,by trivial,by trivial,by omega,by omega,hlen,by trivial,by omega,fU _ _,hfit,?_⟩,?_⟩
  ·by_cases h:(2:Int) < m
   ·rw [decide_eq_true h];simp only [cond_true];omega
   ·rw [decide_eq_false h];simp only [cond_false];omega
  ·unfold eg
   rw [iM,List.map_const',List.length_range']
  ·refine List.all_eq_true.2 fun x hx=>?_
   rw [(List.mem_replicate.1 hx).2]
   rfl
  ·rw [Int.add_zero,show (1:Int)=0 + 1 from rfl]
   refine fq 0 _ (List.all_eq_true.2 fun x hx=>?_) fun j=>iH _ _ j
   rw [(List.mem_replicate.1 hx).2]
   rfl
  ·rw [Eh];exact hk
 ·exact h.elim
end Go.Mat

namespace Go.Mat
open Go Go.Den Go.Proofs
def jL (x:U):U:=.l (c4 x.list 2 [.l (nth (.i 0) x.list.tail.tail 0).list])
def mpL (x:U):List U:=(nth (.i 0) x.list.tail.tail 0).list
noncomputable def oo:aS:=fun _ svs os k=>match svs,os with
 | [.val (.int .i64) i,.val (.int .i64) n,.ptr p q,.val (.sl false [.int .u8]) F,.ptr p4 q4],[.box [.val (.int .i64) c,.val (.int .i64) z,.val .str s,.val (.sl false [.sl true x1]) T,.own o,.val (.sl true x2) M,.val (.sl false [.int .i64]) Q],.arr t X,
   .box [.val (.int .i64) r1,.val (.int .i64) r2,.val .str r3,.own o1,.own o2,.own o3,.own o4],.arr t4 [],.arr t3 [],.arr t2 [],.arr t1 []]=>
  ((p=256∧q=0∧p4=512∧q4=0∧x1=EC∧o=2448∧x2=BC∧t=55)∧(o1=520∧o2=522∧o3=524∧o4=526∧t4=3∧t3=64∧t2=55∧t1=47)∧
    n.int=(X.length:Int)∧0≤i.int∧i.int≤n.int∧X.length≤1073741824∧∀ x,x ∈ X.drop i.int.toNat→dv (shT x).list)∧
  k (.exit 0) ⟨[(2,.ptr 256 0),(1,.val (.sl false [.int .u8]) F),(4,.ptr 512 0)],[(256,.box [vi c,vi z,vs s,.val TRC T,.own 2448,vt BC M,vl (.int .i64) Q]),(2448,.arr 55 (X.take i.int.toNat ++ (X.drop i.int.toNat).map fun x=>cA x (shT x).list)),
   (512,.box [vi r1,vi r2,vs r3,.own 520,.own 522,.own 524,.own 526]),(526,.arr 3 []),(524,.arr 64 []),(522,.arr 55 []),(520,.arr 47 [])]⟩
 | _,_=>False
noncomputable def oe:aS:=fun _ svs os k=>match svs,os with
 | [.val (.int .i64) i,.val (.int .i64) n,.ptr p q,.val (.sl false [.int .u8]) F,.ptr p4 q4],[.box [.val (.int .i64) c,.val (.int .i64) z,.val .str s,.val (.sl false [.sl true x1]) T,.own o,.own o5,.val (.sl false [.int .i64]) Q],.arr t X,.arr t5 Y,
   .box [.val (.int .i64) r1,.val (.int .i64) r2,.val .str r3,.own o1,.own o2,.own o3,.own o4],.arr t4 [],.arr t3 [],.arr t2 [],.arr t1 []]=>
  ((p=256∧q=0∧p4=512∧q4=0∧x1=EC∧o=2448∧o5=5264∧t=55∧t5=64)∧(o1=520∧o2=522∧o3=524∧o4=526∧t4=3∧t3=64∧t2=55∧t1=47)∧
    n.int=(Y.length:Int)∧0≤i.int∧i.int≤n.int∧Y.length≤1073741824∧∀ x,x ∈ Y.drop i.int.toNat→(mpL x).length≤1073741824)∧
  k (.exit 2) ⟨[(2,.ptr 256 0),(1,.val (.sl false [.int .u8]) F),(4,.ptr 512 0)],[(256,.box [vi c,vi z,vs s,.val TRC T,.own 2448,.own 5264,vl (.int .i64) Q]),(2448,.arr 55 X),(5264,.arr 64 (Y.take i.int.toNat ++ (Y.drop i.int.toNat).map jL)),
   (512,.box [vi r1,vi r2,vs r3,.own 520,.own 522,.own 524,.own 526]),(526,.arr 3 []),(524,.arr 64 []),(522,.arr 55 []),(520,.arr 47 [])]⟩
 | _,_=>False
noncomputable def mdC:Ctx:=mkC PR bM (aH 17 yF (aH 18 mW (aV 20 ta HO (aV 21 xX nS aK))))
 (cw 19 [] woF (cw 22 [] (gR BC 64) (cw 23 [] (HR PR [2097152] (gR [.int .i64,.int .i64] 67)) (cw 24 [] ofF aL))))
 (aw 0 [23,22,2,1,4] [256,2448,512,526,524,522,520] oo (aw 2 [46,45,2,1,4] [256,2448,5264,512,526,524,522,520] oe aC)) (an 0 [2,1,4] [256,2448,512,526,524,522,520] (an 2 [2,1,4] [256,2448,5264,512,526,524,522,520] aq)) aq
theorem Am (pan:KP) (μ:Mu) (N:Nat) (k:KE) (i n F c z s T M Q r1 r2 r3:U) (X:List U) {w g a j b d e f h m o p q r t u v} (_:w=(U.list (nth (.i 0) X i.int.toNat)):=by rfl) (_:g=(List.tail (List.tail w)):=by rfl) (_:a=(List.set X i.int.toNat (U.l (c4 w 2 [U.l (U.list (nth (.i 0) g 0))]))):=by rfl) (_:j=(IntKind.wrap .i64 (i.int + 1)):=by rfl) (_:b=(Int.toNat j):=by rfl) (_:d=(256=256∧0=0∧512=512∧0=0∧EC=EC∧2448=2448∧[Ct.str,Ct.bool,Ct.sl true PPC]=[.str,Ct.bool,Ct.sl true PPC]∧55=55):=by rfl) (_:e=(512,.box [vi r1,vi r2,.val .str r3,.own 520,.own 522,.own 524,.own 526]):=by rfl) (_:f=(520=520∧522=522∧524=524∧526=526∧3=3∧64=64∧55=55∧47=47):=by rfl) (_:h=(1,.val (.sl false [.int .u8]) F):=by rfl) (_:m=(List.length X):=by rfl) (_:o=(X.length:Int):=by rfl) (_:p=(524,.arr 64 []):=by rfl) (_:q=(522,.arr 55 []):=by rfl) (_:r=(520,.arr 47 []):=by rfl) (_:t=(526,.arr 3 []):=by rfl) (_:u=(2,.ptr 256 0):=by rfl) (_:v=(4,.ptr 512 0):=by rfl): (exec (mdC.panics pan) (aa Tryz.f7 0) 0 ⟨[(23,vi i),(22,vi n),(2,.ptr 256 0),(1,.val (.sl false [.int .u8]) F),(4,.ptr 512 0)],[(256,.box [vi c,vi z,vs s,.val TRC T,.own 2448,vt BC M,vl (.int .i64) Q]),(2448,.arr 55 X),(512,.box [vi r1,vi r2,vs r3,.own 520,.own 522,.own 524,.own 526]),(526,.arr 3 []),(524,.arr 64 []),(522,.arr 55 []),(520,.arr 47 [])]⟩ (again PR (some ([2,1,4],[256,2448,512,526,524,522,520])) none pan [23,22,2,1,4] [256,2448,512,526,524,522,520] oo μ N k))=(bif decide (i.int < n.int) then Alt (bif decide ((0:Int)≤i.int∧i.int < o) then bif Nat.blt i.int.toNat m then xX [[nth (.i 0) g 0],[U.i 4096]]∧bif decide ((0:Int)≤i.int∧i.int < o) then bif Nat.blt i.int.toNat m then bif Nat.blt (μ [vi (U.i j),vi n,.ptr 256 0,.val (.sl false [.int .u8]) F,.ptr 512 0] [.box [vi c,vi z,.val .str s,.val (.sl false [.sl true EC]) T,.own 2448,.val (.sl true [.str,Ct.bool,Ct.sl true PPC]) M,.val (.sl false [.int .i64]) Q],.arr 55 a,.box [vi r1,vi r2,.val .str r3,.own 520,.own 522,.own 524,.own 526],.arr 3 [],.arr 64 [],.arr 55 [],.arr 47 []]) N then (d∧f∧n.int=(↑(List.length a):Int)∧(0:Int)≤IntKind.wrap .i64 (i.int + 1)∧IntKind.wrap .i64 (i.int + 1)≤n.int∧List.length a≤(1073741824:Nat)∧∀ (x:U),x ∈ List.drop b a→dv (U.list (shT x)))∧k (Ex.exit 0) (St.mk [u,h,v] [(256,.box [vi c,vi z,.val .str s,.val (.sl false [.sl true EC]) T,.own 2448,.val (.sl true [.str,Ct.bool,Ct.sl true PPC]) M,.val (.sl false [.int .i64]) Q]),(2448,.arr 55 (List.take b a ++ List.map (fun x=>cA x (U.list (shT x))) (List.drop b a))),e,t,p,q,r]) else False else False else False else False else False) (bif decide ((0:Int)≤i.int∧i.int < o) then Alt (bif Nat.blt i.int.toNat m then xX [[nth (.i 0) g 0],[U.i 4096]]∧bif decide ((0:Int)≤i.int∧i.int < o) then bif Nat.blt i.int.toNat m then bif Nat.blt (μ [vi (U.i j),vi n,.ptr 256 0,.val (.sl false [.int .u8]) F,.ptr 512 0] [.box [vi c,vi z,.val .str s,.val (.sl false [.sl true EC]) T,.own 2448,.val (.sl true [.str,Ct.bool,Ct.sl true PPC]) M,.val (.sl false [.int .i64]) Q],.arr 55 a,.box [vi r1,vi r2,.val .str r3,.own 520,.own 522,.own 524,.own 526],.arr 3 [],.arr 64 [],.arr 55 [],.arr 47 []]) N then (d∧f∧n.int=(↑(List.length a):Int)∧(0:Int)≤IntKind.wrap .i64 (i.int + 1)∧IntKind.wrap .i64 (i.int + 1)≤n.int∧List.length a≤(1073741824:Nat)∧∀ (x:U),x ∈ List.drop b a→dv (U.list (shT x)))∧k (Ex.exit 0) (St.mk [u,h,v] [(256,.box [vi c,vi z,.val .str s,.val (.sl false [.sl true EC]) T,.own 2448,.val (.sl true [.str,Ct.bool,Ct.sl true PPC]) M,.val (.sl false [.int .i64]) Q]),(2448,.arr 55 (List.take b a ++ List.map (fun x=>cA x (U.list (shT x))) (List.drop b a))),e,t,p,q,r]) else False else False else False else False) (bif Nat.blt i.int.toNat m then (fun T=>Alt T T) (xX [[nth (.i 0) g 0],[U.i 4096]]∧bif decide ((0:Int)≤i.int∧i.int < o) then bif Nat.blt i.int.toNat m then bif Nat.blt (μ [vi (U.i j),vi n,.ptr 256 0,.val (.sl false [.int .u8]) F,.ptr 512 0] [.box [vi c,vi z,.val .str s,.val (.sl false [.sl true EC]) T,.own 2448,.val (.sl true [.str,Ct.bool,Ct.sl true PPC]) M,.val (.sl false [.int .i64]) Q],.arr 55 a,.box [vi r1,vi r2,.val .str r3,.own 520,.own 522,.own 524,.own 526],.arr 3 [],.arr 64 [],.arr 55 [],.arr 47 []]) N then (d∧f∧n.int=(↑(List.length a):Int)∧(0:Int)≤IntKind.wrap .i64 (i.int + 1)∧IntKind.wrap .i64 (i.int + 1)≤n.int∧List.length a≤(1073741824:Nat)∧∀ (x:U),x ∈ List.drop b a→dv (U.list (shT x)))∧k (Ex.exit 0) (St.mk [u,h,v] [(256,.box [vi c,vi z,.val .str s,.val (.sl false [.sl true EC]) T,.own 2448,.val (.sl true [.str,Ct.bool,Ct.sl true PPC]) M,.val (.sl false [.int .i64]) Q]),(2448,.arr 55 (List.take b a ++ List.map (fun x=>cA x (U.list (shT x))) (List.drop b a))),e,t,p,q,r]) else False else False else False) else False) else False) else k (Ex.exit 0) (St.mk [u,h,v] [(256,.box [vi c,vi z,.val .str s,.val (.sl false [.sl true EC]) T,.own 2448,.val (.sl true [.str,Ct.bool,Ct.sl true PPC]) M,.val (.sl false [.int .i64]) Q]),(2448,.arr 55 X),e,t,p,q,r])):=by subst_vars;kernel_rfl
theorem AP (pan:KP) (μ:Mu) (N:Nat) (k:KE) (i n F c z s T Q r1 r2 r3:U) (X Y:List U) {c1 p a m b o d e f g h j q r t u v w y a1 b1} (_:c1=(U.list (nth (.i 0) Y i.int.toNat)):=by rfl) (_:p=(U.list (nth (.i 0) (List.tail (List.tail c1)) 0)):=by rfl) (_:a=(List.set Y i.int.toNat (U.l (c4 c1 2 [U.l p]))):=by rfl) (_:m=(IntKind.wrap .i64 (i.int + 1)):=by rfl) (_:b=(Int.toNat m):=by rfl) (_:o=(1073741824:Nat):=by rfl) (_:d=(PPC=PPC∧List.length p≤o):=by rfl) (_:e=(256=256∧0=0∧512=512∧0=0∧EC=EC∧2448=2448∧5264=5264∧55=55∧64=64):=by rfl) (_:f=(512,.box [vi r1,vi r2,.val .str r3,.own 520,.own 522,.own 524,.own 526]):=by rfl) (_:g=(520=520∧522=522∧524=524∧526=526∧3=3∧64=64∧55=55∧47=47):=by rfl) (_:h=(5264,.arr 64 (List.take b a ++ List.map jL (List.drop b a))):=by rfl) (_:j=(1,.val (.sl false [.int .u8]) F):=by rfl) (_:q=(List.length Y):=by rfl) (_:r=(Y.length:Int):=by rfl) (_:t=(2448,.arr 55 X):=by rfl) (_:u=(524,.arr 64 []):=by rfl) (_:v=(522,.arr 55 []):=by rfl) (_:w=(520,.arr 47 []):=by rfl) (_:y=(526,.arr 3 []):=by rfl) (_:a1=(2,.ptr 256 0):=by rfl) (_:b1=(4,.ptr 512 0):=by rfl): (exec (mdC.panics pan) (aa Tryz.f7 1) 2 ⟨[(46,vi i),(45,vi n),(2,.ptr 256 0),(1,.val (.sl false [.int .u8]) F),(4,.ptr 512 0)],[(256,.box [vi c,vi z,vs s,.val TRC T,.own 2448,.own 5264,vl (.int .i64) Q]),(2448,.arr 55 X),(5264,.arr 64 Y),(512,.box [vi r1,vi r2,vs r3,.own 520,.own 522,.own 524,.own 526]),(526,.arr 3 []),(524,.arr 64 []),(522,.arr 55 []),(520,.arr 47 [])]⟩ (again PR (some ([2,1,4],[256,2448,5264,512,526,524,522,520])) none pan [46,45,2,1,4] [256,2448,5264,512,526,524,522,520] oe μ N k))=(bif decide (i.int < n.int) then Alt (bif decide ((0:Int)≤i.int∧i.int < r) then bif Nat.blt i.int.toNat q then d∧bif decide ((0:Int)≤i.int∧i.int < r) then bif Nat.blt i.int.toNat q then bif Nat.blt (μ [vi (U.i m),vi n,.ptr 256 0,.val (.sl false [.int .u8]) F,.ptr 512 0] [.box [vi c,vi z,.val .str s,.val (.sl false [.sl true EC]) T,.own 2448,.own 5264,.val (.sl false [.int .i64]) Q],.arr 55 X,.arr 64 a,.box [vi r1,vi r2,.val .str r3,.own 520,.own 522,.own 524,.own 526],.arr 3 [],.arr 64 [],.arr 55 [],.arr 47 []]) N then (e∧g∧n.int=(↑(List.length a):Int)∧(0:Int)≤IntKind.wrap .i64 (i.int + 1)∧IntKind.wrap .i64 (i.int + 1)≤n.int∧List.length a≤o∧∀ (x:U),x ∈ List.drop b a→List.length (mpL x)≤o)∧k (Ex.exit 2) (St.mk [a1,j,b1] [(256,.box [vi c,vi z,.val .str s,.val (.sl false [.sl true EC]) T,.own 2448,.own 5264,.val (.sl false [.int .i64]) Q]),t,h,f,y,u,v,w]) else False else False else False else False else False) (bif decide ((0:Int)≤i.int∧i.int < r) then Alt (bif Nat.blt i.int.toNat q then d∧bif decide ((0:Int)≤i.int∧i.int < r) then bif Nat.blt i.int.toNat q then bif Nat.blt (μ [vi (U.i m),vi n,.ptr 256 0,.val (.sl false [.int .u8]) F,.ptr 512 0] [.box [vi c,vi z,.val .str s,.val (.sl false [.sl true EC]) T,.own 2448,.own 5264,.val (.sl false [.int .i64]) Q],.arr 55 X,.arr 64 a,.box [vi r1,vi r2,.val .str r3,.own 520,.own 522,.own 524,.own 526],.arr 3 [],.arr 64 [],.arr 55 [],.arr 47 []]) N then (e∧g∧n.int=(↑(List.length a):Int)∧(0:Int)≤IntKind.wrap .i64 (i.int + 1)∧IntKind.wrap .i64 (i.int + 1)≤n.int∧List.length a≤o∧∀ (x:U),x ∈ List.drop b a→List.length (mpL x)≤o)∧k (Ex.exit 2) (St.mk [a1,j,b1] [(256,.box [vi c,vi z,.val .str s,.val (.sl false [.sl true EC]) T,.own 2448,.own 5264,.val (.sl false [.int .i64]) Q]),t,h,f,y,u,v,w]) else False else False else False else False) (bif Nat.blt i.int.toNat q then (fun T=>Alt T T) (d∧bif decide ((0:Int)≤i.int∧i.int < r) then bif Nat.blt i.int.toNat q then bif Nat.blt (μ [vi (U.i m),vi n,.ptr 256 0,.val (.sl false [.int .u8]) F,.ptr 512 0] [.box [vi c,vi z,.val .str s,.val (.sl false [.sl true EC]) T,.own 2448,.own 5264,.val (.sl false [.int .i64]) Q],.arr 55 X,.arr 64 a,.box [vi r1,vi r2,.val .str r3,.own 520,.own 522,.own 524,.own 526],.arr 3 [],.arr 64 [],.arr 55 [],.arr 47 []]) N then (e∧g∧n.int=(↑(List.length a):Int)∧(0:Int)≤IntKind.wrap .i64 (i.int + 1)∧IntKind.wrap .i64 (i.int + 1)≤n.int∧List.length a≤o∧∀ (x:U),x ∈ List.drop b a→List.length (mpL x)≤o)∧k (Ex.exit 2) (St.mk [a1,j,b1] [(256,.box [vi c,vi z,.val .str s,.val (.sl false [.sl true EC]) T,.own 2448,.own 5264,.val (.sl false [.int .i64]) Q]),t,h,f,y,u,v,w]) else False else False else False) else False) else False) else k (Ex.exit 2) (St.mk [a1,j,b1] [(256,.box [vi c,vi z,.val .str s,.val (.sl false [.sl true EC]) T,.own 2448,.own 5264,.val (.sl false [.int .i64]) Q]),t,(5264,.arr 64 Y),f,y,u,v,w])):=by subst_vars;kernel_rfl
theorem FK (R:RF) (c z s T Sh M Q F:U) {a b d e} (_:a=(List.take (Int.toNat 0) M.list ++ List.map jL (List.drop (Int.toNat 0) M.list)):=by rfl) (_:b=(520=520∧522=522∧524=524∧526=526∧3=3∧64=64∧55=55∧47=47):=by rfl) (_:d=(1073741824:Nat):=by rfl) (_:e=(M.list.length:Int):=by rfl): (run mdC Tryz.f7 [[c,z,s,T,Sh,M,Q],[F]] R)=(bif !cj c z s T Sh M Q then R [[U.i 0,U.i 0,U.s ⟨#[]⟩,U.l [],U.l [],U.l [],U.l []],[U.i 1]] else (fun T=>Alt T (Alt T T)) (ta [[c,z,s,T,Sh,M,Q],[U.l (whU F)]]∧((EC=EC∧[Ct.str,.int .i64,Ct.sl false [Ct.sl true EC]]=[.str,.int .i64,Ct.sl false [.sl true EC]]∧[Ct.str,Ct.bool,Ct.sl true PPC]=[.str,Ct.bool,Ct.sl true PPC]∧PPC=PPC)∧List.length (bdU c z s T Sh M Q F)≤d∧fT T.list Sh.list (bdU c z s T Sh M Q F))∧((256=256∧0=0∧512=512∧0=0∧EC=EC∧2448=2448∧[Ct.str,Ct.bool,Ct.sl true PPC]=[.str,Ct.bool,Ct.sl true PPC]∧55=55)∧b∧(↑(List.length (Prod.snd (woU c z s T Sh M Q F))):Int)=(↑(List.length (Prod.snd (woU c z s T Sh M Q F))):Int)∧(0:Int)≤0∧(0:Int)≤(↑(List.length (Prod.snd (woU c z s T Sh M Q F))):Int)∧List.length (Prod.snd (woU c z s T Sh M Q F))≤d∧∀ (x:U),x ∈ List.drop (Int.toNat 0) (Prod.snd (woU c z s T Sh M Q F))→dv (U.list (shT x)))∧([Ct.str,Ct.bool,Ct.sl true PPC]=[.str,Ct.bool,Ct.sl true PPC]∧M.list.length≤d)∧((256=256∧0=0∧512=512∧0=0∧EC=EC∧2448=2448∧5264=5264∧55=55∧64=64)∧b∧e=e∧(0:Int)≤0∧(0:Int)≤e∧M.list.length≤d∧∀ (x:U),x ∈ List.drop (Int.toNat 0) M.list→List.length (mpL x)≤d)∧((EC=EC∧[Ct.str,.int .i64,Ct.sl false [Ct.sl true EC]]=[.str,.int .i64,Ct.sl false [.sl true EC]]∧[Ct.str,Ct.bool,Ct.sl true PPC]=[.str,Ct.bool,Ct.sl true PPC])∧((0:Int)≤szU F∧szU F≤65536)∧ofP [[c,z,s,U.l (Prod.fst (woU c z s T Sh M Q F)),U.l (List.take (Int.toNat 0) (Prod.snd (woU c z s T Sh M Q F)) ++ List.map (fun x=>cA x (U.list (shT x))) (List.drop (Int.toNat 0) (Prod.snd (woU c z s T Sh M Q F)))),U.l a,Q],[U.i (szU F)]])∧R [[c,z,s,U.l (Prod.fst (woU c z s T Sh M Q F)),U.l (List.take (Int.toNat 0) (Prod.snd (woU c z s T Sh M Q F)) ++ List.map (fun x=>cA x (U.list (shT x))) (List.drop (Int.toNat 0) (Prod.snd (woU c z s T Sh M Q F)))),U.l a,U.l (ofV (iC [[c,z,s,U.l (Prod.fst (woU c z s T Sh M Q F)),U.l (List.take (Int.toNat 0) (Prod.snd (woU c z s T Sh M Q F)) ++ List.map (fun x=>cA x (U.list (shT x))) (List.drop (Int.toNat 0) (Prod.snd (woU c z s T Sh M Q F)))),U.l a,Q],[U.i (szU F)]]) (Int.toNat (szU F)))],[U.i 0]])):=by subst_vars;kernel_rfl
end Go.Mat

namespace Go.Mat
open Go Go.Den Go.Proofs
set_option maxRecDepth 100000
abbrev iO (x:U):U:=cA x (shT x).list
theorem uE {f:U→U} {X:List U} {i:Nat} (hi:i < X.length):(X.set i (f (U.at X i))).take (i + 1) ++ ((X.set i (f (U.at X i))).drop (i + 1)).map f=X.take i ++ (X.drop i).map f:=by
 rw [bc hi,List.map_cons]
 have h1:(X.set i (f (U.at X i))).drop (i + 1)=X.drop (i + 1):=by rw [List.drop_set_of_lt (by omega)]
 have h2:(X.set i (f (U.at X i))).take (i + 1)=X.take i ++ [f (U.at X i)]:=by
  rw [List.take_succ_eq_append_getElem (by rw [List.length_set];exact hi),List.getElem_set_self,List.take_set_of_le (by omega)]
 rw [h1,h2,List.append_assoc]
 rfl
theorem nX {X:List U} {i:Nat} {y x:U} (h:x ∈ (X.set i y).drop (i + 1)):x ∈ X.drop i:=by
 rw [List.drop_set_of_lt (by omega)] at h
 exact List.drop_subset_drop_left X (by omega:i≤i + 1) h
theorem B5:aE mdC 0 (aa Tryz.f7 0):=by
 refine al (F:=oo) (ts:=[23,22,2,1,4]) (os:=[256,2448,512,526,524,522,520]) rfl (fun svs _=>match svs with | .val _ i :: .val _ n :: _=>(n.int - i.int).toNat | _=>0) ?_
 intro pan svs os k ho1 ho2 h
 unfold oo at h
 split at h
 ·rename_i i n p q F p4 q4 c z s x1 T o x2 M Q t X r1 r2 r3 o1 o2 o3 o4 t4 t3 t2 t1
  obtain ⟨⟨⟨rfl,rfl,rfl,rfl,rfl,rfl,rfl,rfl⟩,⟨rfl,rfl,rfl,rfl,rfl,rfl,rfl,rfl⟩,hn,h0,hin,hX,hT⟩,hk⟩:=h
  refine .eq (Am pan _ _ k i n F c z s T M Q r1 r2 r3 X) ?_
  refine bd (fun hlt=>?_) (fun hlt=>?_)
  ·have hi:i.int.toNat < X.length:=by omega
   have hwi:IntKind.wrap .i64 (i.int + 1)=i.int + 1:=i64_in (by omega) (by omega)
   have hc:(i.int + 1).toNat=i.int.toNat + 1:=by omega
   have e1:decide ((0:Int)≤i.int∧i.int < (X.length:Int))=true:=decide_eq_true ⟨h0,by omega⟩
   have e2:Nat.blt i.int.toNat X.length=true:=by simpa [Nat.blt_eq] using hi
   have hm:U.at X i.int.toNat ∈ X.drop i.int.toNat:=by rw [bc hi];exact List.mem_cons_self ..
   have hs:=uE (f:=iO) hi
   have hfe:U.l (c4 (U.list (nth (U.i 0) X (Int.toNat i.int))) 2 [U.l (U.list (nth (U.i 0) (List.tail (List.tail (U.list (nth (U.i 0) X (Int.toNat i.int))))) (0:Nat)))])=iO (U.at X i.int.toNat):=rfl
   simp only [e1,e2,cond_true,en]
   rw [hwi,hc,hfe,hs]
   refine ⟨⟨hT _ hm,rfl⟩,blt (by simp only [U.int_i];omega) ⟨⟨⟨by trivial,by trivial,by trivial,by trivial,by trivial,by trivial,by trivial,by trivial⟩,⟨by trivial,by trivial,by trivial,by trivial,by trivial,by trivial,by trivial,by trivial⟩,by rw [List.length_set];exact hn,by omega,by omega,by rw [List.length_set];exact hX,fun x hx=>hT x (nX hx)⟩,hk⟩⟩
  ·have hd:X.drop i.int.toNat=[]:=List.drop_eq_nil_of_le (by omega)
   have ht:X.take i.int.toNat=X:=List.take_of_length_le (by omega)
   rw [hd,ht,List.map_nil,List.append_nil] at hk
   exact hk
 ·exact h.elim
theorem DE:aE mdC 2 (aa Tryz.f7 1):=by
 refine al (F:=oe) (ts:=[46,45,2,1,4]) (os:=[256,2448,5264,512,526,524,522,520]) rfl (fun svs _=>match svs with | .val _ i :: .val _ n :: _=>(n.int - i.int).toNat | _=>0) ?_
 intro pan svs os k ho1 ho2 h
 unfold oe at h
 split at h
 ·rename_i i n p q F p4 q4 c z s x1 T o o5 Q t X t5 Y r1 r2 r3 o1 o2 o3 o4 t4 t3 t2 t1
  obtain ⟨⟨⟨rfl,rfl,rfl,rfl,rfl,rfl,rfl,rfl,rfl⟩,⟨rfl,rfl,rfl,rfl,rfl,rfl,rfl,rfl⟩,hn,h0,hin,hX,hT⟩,hk⟩:=h
  refine .eq (AP pan _ _ k i n F c z s T Q r1 r2 r3 X Y) ?_
  refine bd (fun hlt=>?_) (fun hlt=>?_)
  ·have hi:i.int.toNat < Y.length:=by omega
   have hwi:IntKind.wrap .i64 (i.int + 1)=i.int + 1:=i64_in (by omega) (by omega)
   have hc:(i.int + 1).toNat=i.int.toNat + 1:=by omega
   have e1:decide ((0:Int)≤i.int∧i.int < (Y.length:Int))=true:=decide_eq_true ⟨h0,by omega⟩
   have e2:Nat.blt i.int.toNat Y.length=true:=by simpa [Nat.blt_eq] using hi
   have hm:U.at Y i.int.toNat ∈ Y.drop i.int.toNat:=by rw [bc hi];exact List.mem_cons_self ..
   have hs:=uE (f:=jL) hi
   have hfe:U.l (c4 (U.list (nth (U.i 0) Y (Int.toNat i.int))) 2 [U.l (U.list (nth (U.i 0) (List.tail (List.tail (U.list (nth (U.i 0) Y (Int.toNat i.int))))) (0:Nat)))])=jL (U.at Y i.int.toNat):=rfl
   simp only [e1,e2,cond_true,en]
   rw [hwi,hc,hfe,hs]
   refine ⟨⟨by trivial,hT _ hm⟩,blt (by simp only [U.int_i];omega) ⟨⟨⟨by trivial,by trivial,by trivial,by trivial,by trivial,by trivial,by trivial,by trivial,by trivial⟩,⟨by trivial,by trivial,by trivial,by trivial,by trivial,by trivial,by trivial,by trivial⟩,by rw [List.length_set];exact hn,by omega,by omega,by rw [List.length_set];exact hX,fun x hx=>hT x (nX hx)⟩,hk⟩⟩
  ·have hd:Y.drop i.int.toNat=[]:=List.drop_eq_nil_of_le (by omega)
   have ht:Y.take i.int.toNat=Y:=List.take_of_length_le (by omega)
   rw [hd,ht,List.map_nil,List.append_nil] at hk
   exact hk
 ·exact h.elim
theorem lg:∀ (i:Int) (X:List U),ad i (X.map iO)=ad i X
 | _,[]=>rfl
 | i,x :: r=>by
  rw [List.map_cons,ad,ad,lg (i + 1) r]
  have e:shT x=nth (.i 0) x.list 2:=by show nth _ x.list.tail.tail 0=_;rw [aD,aD]
  have e':shT (iO x)=nth (.i 0) (iO x).list 2:=by show nth _ (iO x).list.tail.tail 0=_;rw [aD,aD]
  rw [← e,← e',fJ]
  rfl
def mdS:List (List U)→List (List U):=fun us=>match us with
 | [[c,z,s,T,Sh,M,Q],[F]]=>[[bif cj c z s T Sh M Q then c else .i 0,bif cj c z s T Sh M Q then z else .i 0,bif cj c z s T Sh M Q then s else .s (ByteArray.mk #[]),.l (bif cj c z s T Sh M Q then (woU c z s T Sh M Q F).1 else []),
   .l (bif cj c z s T Sh M Q then (woU c z s T Sh M Q F).2.map iO else []),.l (bif cj c z s T Sh M Q then M.list.map jL else []),.l (bif cj c z s T Sh M Q then ofV (okM c z s T Sh M Q F) (szU F).toNat else [])],[.i (bif cj c z s T Sh M Q then 0 else 1)]]
 | _=>[]
def mdP:List (List U)→Prop:=fun us=>mgP (nth (.i 0) (nth [] us 0) 3) (nth (.i 0) (nth [] us 0) 4)∧∀ x,x ∈ (nth (.i 0) (nth [] us 0) 5).list→(mpL x).length≤1073741824
theorem vN {c z s T Sh M Q F:U} (hr:cj c z s T Sh M Q=true) (hpre:mgP T Sh):GM T.list Sh.list∧((bdU c z s T Sh M Q F).length≤36864∧∀ p,p ∈ bdU c z s T Sh M Q F→(U.at p.list 0).int < (Sh.list.length:Int))∧
  GM (woU c z s T Sh M Q F).1 (woU c z s T Sh M Q F).2∧M.list.length≤8∧(∀ X Y,iC [[c,z,s,.l (woU c z s T Sh M Q F).1,.l ((woU c z s T Sh M Q F).2.map fun x=>cA x (U.list (shT x))),X,Y],[.i (szU F)]]=okM c z s T Sh M Q F)∧
  GM (woU c z s T Sh M Q F).1 ((woU c z s T Sh M Q F).2.map iO):=by
 obtain ⟨hG,hQ,hML⟩:=GM.of_right hr hpre.1 hpre.2
 obtain ⟨b1,b2⟩:=GM.bad (F:=whU F) (c:=c.int) hG
 have hbe:bdU c z s T Sh M Q F=(qz (whU F) c.int (ai (.i (-1)) T.list ++ ad 0 Sh.list)).1:=rfl
 rw [← hbe] at b1 b2
 have i0:fB (U.i 0).int:=⟨by decide,by decide⟩
 obtain ⟨hW,hWl⟩:=GM.wo (a:=.i 1) (e:=.i 0) (g:=.i 0) i0 i0 hG b2
 have hwe:woU c z s T Sh M Q F=ff (.i 1) (.i 0) (.i 0) (.i 0) (.i 0) T.list Sh.list (bdU c z s T Sh M Q F):=rfl
 rw [← hwe] at hW hWl
 have hws:=hW.s
 have hlm:∀ X Y,iC [[c,z,s,.l (woU c z s T Sh M Q F).1,.l ((woU c z s T Sh M Q F).2.map fun x=>cA x (U.list (shT x))),X,Y],[.i (szU F)]]=okM c z s T Sh M Q F:=fun X Y=>by
  show ai (.i (-1)) (woU c z s T Sh M Q F).1 ++ ad 0 ((woU c z s T Sh M Q F).2.map iO)=_
  rw [lg];rfl
 have hWc:GM (woU c z s T Sh M Q F).1 ((woU c z s T Sh M Q F).2.map iO):=⟨hW.t,by rw [List.length_map];exact hW.s,fun x hx=>by
  obtain ⟨y,hy,rfl⟩:=List.mem_map.1 hx
  rw [fJ];exact hW.st y hy⟩
 exact ⟨hG,⟨b1,b2⟩,hW,hML,hlm,hWc⟩
theorem Hr:cG PR 7 mdP mdS:=fun fn us hfn hpre=>by
 have hf:PR.funcs[(7:Nat)]? = some Tryz.f7:=by kernel_rfl
 rw [hf] at hfn;cases hfn
 refine aM (C:=mdC) (aB ao af (.cons yZ (.cons vr (.consP CZ (.consP Cd .nil)))) (.cons Hh (.cons HF (.cons (Io.frz [2097152]) (.cons Ir .nil))))) hf (by kernel_rfl) (dS (by kernel_rfl) B5 DE) fun hok=>?_
 have hp:Tryz.f7.params.toList=[29,30]:=by kernel_rfl
 rw [hp] at hok
 obtain ⟨u,u2,rfl,h1,h2⟩:=bR (by kernel_rfl:Cs PR 29=some (true,[.int .i64,.int .i64,.str,.sl false [.sl true EC],.sl true SC,.sl true BC,.sl false [.int .i64]])) (by kernel_rfl:Cs PR 30=some (false,[.sl false [.int .u8]])) hok.1
 obtain ⟨c,z,s,T,Sh,M,Q,rfl⟩:∃ a b c d e f g,u=[a,b,c,d,e,f,g]:=match u,h1 with | [a,b,c,d,e,f,g],_=>⟨a,b,c,d,e,f,g,rfl⟩
 obtain ⟨F,rfl⟩:=bG h2
 clear hok h1 h2
 obtain ⟨hpre,hM⟩:mgP T Sh∧∀ x,x ∈ M.list→(mpL x).length≤1073741824:=hpre
 refine .eq (FK _ c z s T Sh M Q F) ?_
 refine bi (fun hr=>by simp only [mdS,nt hr,cond_false]) (fun hr=>?_)
 simp only [mdS,nf hr,cond_true]
 obtain ⟨hG,⟨b1,b2⟩,hW,hML,hlm,hWc⟩:=vN (F:=F) (nf hr) hpre
 have hws:=hW.s
 obtain ⟨n0,n1⟩:=xW F
 simp only [Int.toNat_zero,List.drop_zero,List.take_zero,List.nil_append,hlm,en]
 refine ⟨⟨hG.each.1,?_⟩,⟨⟨by trivial,by trivial,by trivial,by trivial⟩,by omega,hG.ok b2⟩,⟨⟨by trivial,by trivial,by trivial,by trivial,by trivial,by trivial,by trivial,by trivial⟩,⟨by trivial,by trivial,by trivial,by trivial,by trivial,by trivial,by trivial,by trivial⟩,by trivial,by omega,by omega,by omega,fun x hx=>(hW.st x hx).tab⟩,⟨by trivial,by omega⟩,⟨⟨by trivial,by trivial,by trivial,by trivial,by trivial,by trivial,by trivial,by trivial,by trivial⟩,⟨by trivial,by trivial,by trivial,by trivial,by trivial,by trivial,by trivial,by trivial⟩,by trivial,by omega,by omega,by omega,hM⟩,⟨⟨by trivial,by trivial,by trivial⟩,⟨n0,n1⟩,hWc.each.1,?_⟩,by trivial⟩
 ·have:=hG.each.2
  show (ai (.i (-1)) T.list ++ ad 0 Sh.list).length≤536870912
  omega
 ·rw [hlm];exact hW.fit
end Go.Mat

namespace Go.Mat
open Go Go.Den Go.Proofs
noncomputable def Ic (t:TypeId):Option (List IntKind):=bif Nat.beq t 51 then some [.i64,.i64,.i64] else bM t
def Iy:List (List U)→List (List U):=fun _=>[[.b true]]
def HW:List (List U)→List (List U):=fun us=>[[nth (.i 0) (nth [] us 0) 0]]
theorem Bd (R:RF) (n:U):(run K0 Tryz.f10 [[n]] R)=(R [[n]]):=by kernel_rfl
noncomputable def awC:Ctx:=mkC PR Ic (aH 10 HW (aH 14 AA (aV 13 faP faS (aV 7 mdP mdS aK)))) aL aC aq aq
theorem FI (R:RF) {c a d} (_:c=(U.l [U.i 0,U.i 0,U.i 0,U.i 0,U.i 0]):=by rfl) (_:a=(List.set (List.set (List.set (List.set (List.set (List.set (List.set (List.set (List.replicate (8:Nat) c) (0:Nat) (U.l [U.i 2,U.i 9,U.i 1,U.i 0,U.i 0])) (1:Nat) c) (2:Nat) c) (3:Nat) c) (4:Nat) c) (5:Nat) c) (6:Nat) c) (7:Nat) c):=by rfl) (_:d=(List.replicate (Int.toNat 64) (U.i 0)):=by rfl): (run awC Tryz.f5 [] R)=(faP [[U.i 0,U.i 1,U.s ⟨#[]⟩,U.l [U.l a],U.l [],U.l [],U.l []],[U.l d]]∧(fun T=>Alt (Alt (Alt T T) T) (Alt (Alt (Alt T T) T) (Alt T T))) (mdP [[U.i 0,U.i 1,U.s ⟨#[]⟩,U.l [U.l a],U.l [],U.l [],U.l []],[U.l d]]∧R [[U.b (U.int (aY (0:Nat) (bif cj (U.i 0) (U.i 1) (U.s ⟨#[]⟩) (U.l [U.l a]) (U.l []) (U.l []) (U.l []) then Prod.fst (woU (U.i 0) (U.i 1) (U.s ⟨#[]⟩) (U.l [U.l a]) (U.l []) (U.l []) (U.l []) (U.l d)) else []) 0) == 1)]])):=by subst_vars;kernel_rfl
end Go.Mat

namespace Go.Mat
open Go Go.Den Go.Proofs
set_option maxRecDepth 100000
theorem Fg:∀ t ks,Ic t=some ks→xF PR t ks:=by
 intro t ks h
 unfold Ic at h
 cases hb:Nat.beq t 51 with
 | true=>
  rw [hb] at h
  have:=Nat.eq_of_beq_eq_true hb
  subst this
  injection h with h
  subst h
  exact yO (by kernel_rfl)
 | false=>rw [hb] at h;exact ao t ks h
theorem yM:bB PR 10 HW:=fun fn us hfn=>by
 have hf:PR.funcs[(10:Nat)]? = some Tryz.f10:=by kernel_rfl
 rw [hf] at hfn;cases hfn
 refine aM (C:=K0) (aB ao af .nil .nil) hf (by kernel_rfl) (aI (by kernel_rfl)) fun hok=>?_
 have hp:Tryz.f10.params.toList=[34]:=by kernel_rfl
 rw [hp] at hok
 obtain ⟨u,rfl,h1⟩:=cT (by kernel_rfl:Cs PR 34=some (false,[.int .i64])) hok.1
 obtain ⟨n,rfl⟩:=bG h1
 exact .eq (Bd _ n) rfl
theorem Jz:bB PR 5 Iy:=fun fn us hfn=>by
 have hf:PR.funcs[(5:Nat)]? = some Tryz.f5:=by kernel_rfl
 rw [hf] at hfn;cases hfn
 refine aM (C:=awC) (aB Fg af (.cons yM (.cons I0 (.consP IT (.consP Hr .nil)))) .nil) hf (by kernel_rfl) (aI (by kernel_rfl)) fun hok=>?_
 have hp:Tryz.f5.params.toList=[]:=by kernel_rfl
 rw [hp] at hok
 have hus:us=[]:=hok.1
 subst hus
 refine .eq (FI _) ?_
 have hg:∀ T:U,T.list.length≤1099511627776→mgP T (.l []):=fun T hT=>⟨hT,fun x hx=>by cases hx⟩
 simp only [en]
 refine ⟨hg _ (by decide),⟨hg _ (by decide),fun x hx=>by cases hx⟩,?_⟩
 kernel_rfl
end Go.Mat

namespace Go.Mat
open Go Go.Den Go.Proofs
set_option maxRecDepth 100000
theorem wP {T:List U} {a b d e g c:Int} (ht:b8 T 4096 c=true) (hm:dR a b d e g c=true):∀ (n:Nat) (c0:Int),c0≤c→c < c0 + n→bl T a b d e g n c0=true
 | 0,c0,h1,h2=>by omega
 | n + 1,c0,h1,h2=>by
  rw [bl]
  by_cases he:c0=c
  ·subst he;rw [ht,hm];rfl
  ·have ih:=wP ht hm n (c0 + 1) (by omega) (by omega)
   rw [ih]
   cases b8 T 4096 c0<;>cases dR a b d e g c0<;>rfl
theorem zj {T:List U} {a b d e g c:Int} (ht:bU T 4096 c=true) (hm:dR a b d e g c=true):∀ (n:Nat) (c0:Int),c0≤c→c < c0 + n→bw T a b d e g n c0=true
 | 0,c0,h1,h2=>by omega
 | n + 1,c0,h1,h2=>by
  rw [bw]
  by_cases he:c0=c
  ·subst he;rw [ht,hm];rfl
  ·have ih:=zj ht hm n (c0 + 1) (by omega) (by omega)
   rw [ih]
   cases bU T 4096 c0<;>cases dR a b d e g c0<;>rfl
theorem Fs {T:List U} {i:Int} {a b d e g:U} {c:Int} (h0:0≤i) (h1:i < 4096) (hc0:0≤c) (hc6:c≤6) (ht:b8 T 4096 c=true) (hm:dR a.int b.int d.int e.int g.int c=true) (ha:(a.int == 0)=false) :
  jQ T i a b d e g=xU T i.toNat [a,b,d,e,g]:=by
 unfold jQ
 rw [wP ht hm 7 0 hc0 (by omega),decide_eq_false (by omega),decide_eq_false (by omega),ha]
 rfl
theorem FF {T:List U} {i:Int} {a b d e g:U} {c:Int} (h0:0≤i) (h1:i < 4096) (hc0:0≤c) (hc6:c≤6) (ht:bU T 4096 c=true) (hm:dR a.int b.int d.int e.int g.int c=true) :
  setX T i a b d e g=setR T i.toNat [a,b,d,e,g]:=by
 unfold setX
 rw [zj ht hm 7 0 hc0 (by omega),decide_eq_false (by omega),decide_eq_false (by omega)]
 rfl
end Go.Mat
