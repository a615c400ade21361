/- A part of the proof of this: the program mends a meta as the document does, and what was handed in stays what it was. Conditions: none. Joined of F119, B130, F130, B131, F131, B140, F140, B141, F141, B142, F142, B143, F143, DenRS, B144, F144, B145, F145, B146, F146, B147, F147, F148. -/
import Derived.Test.YtjleagfibbbjnaaGreatC5
import Derived.KernelRfl
namespace Go.Mat
open Go Go.Den Go.Proofs
set_option maxRecDepth 100000
def plI (l:U):Int × Int:=((lnU l 0).int,(lnU l 1).int)
def plU (l:U):U:=.l [lnU l 0,lnU l 1]
def sS (F:List U) (c:Int) (all:List PK) (l:U):Bool:=dm F c l || all.any (fh (bT l))
def Di (all:List PK) (l:U):List PK:=bif decide (bT l ∈ all) then all else all ++ [bT l]
def iR (F:List U) (c:Int):List PK→List U→List U
 | _,[]=>[]
 | all,l :: r=>bif sS F c all l then l :: iR F c all r else iR F c (Di all l) r
section
variable {F:List U} {c:Int}
theorem pt:∀ (ls o:List U) (all:List PK),(ls.foldl (bu F c) (o,all)).1=o ++ (iR F c all ls).map plU
 | [],o,all=>(List.append_nil o).symm
 | l :: r,o,all=>by
  have e:bu F c (o,all) l=bif sS F c all l then (o ++ [plU l],all) else (o,Di all l):=rfl
  rw [List.foldl_cons,iR,e]
  cases sS F c all l with
  | true=>rw [cond_true,cond_true,pt r,List.map_cons,List.append_assoc];rfl
  | false=>rw [cond_false,cond_false,pt r]
theorem mJ:∀ {ls:List U} {all:List PK} {x:U},x ∈ iR F c all ls→x ∈ ls
 | [],_,_,h=>by cases h
 | l :: r,all,x,h=>by
  rw [iR] at h
  cases hb:sS F c all l with
  | true=>
   rw [hb,cond_true] at h
   rcases List.mem_cons.1 h with rfl | h
   ·exact List.mem_cons_self ..
   ·exact List.mem_cons_of_mem _ (mJ h)
  | false=>rw [hb,cond_false] at h;exact List.mem_cons_of_mem _ (mJ h)
theorem na:∀ (ls:List U) (all:List PK),(ls.map plI).Nodup→((iR F c all ls).map plI).Nodup
 | [],_,_=>List.nodup_nil
 | l :: r,all,h=>by
  obtain ⟨h1,h2⟩:=List.nodup_cons.1 h
  rw [iR]
  cases sS F c all l with
  | true=>
   rw [cond_true]
   refine List.nodup_cons.2 ⟨fun hm=>h1 ?_,na r all h2⟩
   obtain ⟨x,hx,e⟩:=List.mem_map.1 hm
   exact List.mem_map.2 ⟨x,mJ hx,e⟩
  | false=>rw [cond_false];exact na r _ h2
end
theorem j6 {n c i:Int}:∀ (l:List U) (k:Int),ft n c i k l=true↔∀ j,j < l.length→lA n c i (k + j) (U.at l j)=true
 | [],k=>⟨fun _ j hj=>absurd hj (Nat.not_lt_zero _),fun _=>rfl⟩
 | e :: r,k=>by
  rw [ft,Bool.and_eq_true,j6 r]
  constructor
  ·rintro ⟨h1,h2⟩ j hj
   cases j with
   | zero=>rw [show k + ((0:Nat):Int)=k by omega];exact h1
   | succ j=>rw [show k + ((j + 1:Nat):Int)=k + 1 + j by omega];exact h2 j (by simpa using hj)
  ·intro h
   refine ⟨?_,fun j hj=>?_⟩
   ·have:=h 0 (by simp);rw [show k + ((0:Nat):Int)=k by omega] at this;exact this
   ·have:=h (j + 1) (by simpa using hj);rw [show k + ((j + 1:Nat):Int)=k + 1 + j by omega] at this;exact this
theorem u4:∀ (l:List U),gj l=true↔∃ j,j < l.length∧(e0 (U.at l j)).int≠0
 | []=>⟨fun h=>(by cases h),fun ⟨j,hj,_⟩=>absurd hj (Nat.not_lt_zero _)⟩
 | e :: r=>by
  have ih:=u4 r
  unfold gj at ih ⊢
  rw [List.any_cons,Bool.or_eq_true,ih,decide_eq_true_eq]
  constructor
  ·rintro (h | ⟨j,hj,h⟩)
   ·exact ⟨0,by simp,h⟩
   ·exact ⟨j + 1,by simpa using hj,h⟩
  ·rintro ⟨j,hj,h⟩
   cases j with
   | zero=>exact .inl h
   | succ j=>exact .inr ⟨j,by simpa using hj,h⟩
theorem pQ {n c:Int}:∀ (L:List U) (i:Int),bq n c i L=true↔∀ j,j < L.length→(U.at L j).list=[]∨ed n c (i + j) (U.at L j).list=true
 | [],i=>⟨fun _ j hj=>absurd hj (Nat.not_lt_zero _),fun _=>rfl⟩
 | l :: r,i=>by
  rw [bq]
  have key:(if l.list=[] then bq n c (i + 1) r else ed n c i l.list && bq n c (i + 1) r)=true↔(l.list=[]∨ed n c i l.list=true)∧bq n c (i + 1) r=true:=by
   by_cases h:l.list=[]
   ·simp [h]
   ·simp [h]
  rw [key,pQ r]
  constructor
  ·rintro ⟨h1,h2⟩ j hj
   cases j with
   | zero=>rw [show i + ((0:Nat):Int)=i by omega];exact h1
   | succ j=>rw [show i + ((j + 1:Nat):Int)=i + 1 + j by omega];exact h2 j (by simpa using hj)
  ·intro h
   refine ⟨?_,fun j hj=>?_⟩
   ·have:=h 0 (by simp);rw [show i + ((0:Nat):Int)=i by omega] at this;exact this
   ·have:=h (j + 1) (by simpa using hj);rw [show i + ((j + 1:Nat):Int)=i + 1 + j by omega] at this;exact this
def lH:List U:=[.i 1,.i 0,.i 0,.i 0,.i 0]
def dG (T:List U) (k:Nat):List U:=T.set (k / 8) (.l (bj (U.at T (k / 8)).list (k % 8) lH))
structure TR (T:List U) (n c:Int):Prop where
 n0:0≤n
 n1:n≤4096
 c0:0≤c
 c1:c≤6
 last:c6 T=true
 row:∀ j:Nat,j < T.length→(U.at T j).list=[]∨ed n c j (U.at T j).list=true
theorem TR.iff {T:List U} {n c:Int}:bU T n c=true↔TR T n c:=by
 unfold bU
 by_cases h:n < 0∨4096 < n∨c < 0∨6 < c
 ·rw [if_pos h]
  exact ⟨fun h=>by (cases h),fun g=>by have:=g.n0;have:=g.n1;have:=g.c0;have:=g.c1;omega⟩
 ·rw [if_neg h,jF,Bool.and_eq_true,pQ]
  constructor
  ·rintro ⟨h1,h2⟩
   exact ⟨by omega,by omega,by omega,by omega,h1,fun j hj=>by have:=h2 j hj;rw [Int.zero_add] at this;exact this⟩
  ·intro g
   exact ⟨g.last,fun j hj=>by have:=g.row j hj;rw [Int.zero_add];exact this⟩
theorem sZ {c:Int} (h0:0≤c) (h1:c≤6):dR 1 0 0 0 0 c=true:=by
 unfold dR
 rw [if_neg (by omega),if_pos (.inr rfl)]
 decide
theorem TR.hit {T:List U} {n c:Int} (g:TR T n c) {k:Nat} (h:gl T k=true):k / 8 < T.length∧(U.at T (k / 8)).list.length=8∧(e0 (ko T k)).int≠0∧ed n c (k / 8:Nat) (U.at T (k / 8)).list=true:=by
 have he:aY 0 T (k:Int)=e0 (ko T k):=by
  unfold aY
  rw [decide_eq_false (by omega:¬ (k:Int) < 0),cond_false]
  rfl
 have h0:(e0 (ko T k)).int≠0:=by
  intro e
  unfold gl at h
  rw [he,e] at h
  cases h
 have h1:k / 8 < T.length:=by
  by_cases h1:k / 8 < T.length
  ·exact h1
  ·refine absurd ?_ h0
   unfold ko
   have:nth (.i 0) T (k / 8) = .i 0:=oG (by omega)
   rw [this];rfl
 have h2:=g.row _ h1
 rcases h2 with h2 | h2
 ·refine absurd ?_ h0
  unfold ko
  have e:(nth (.i 0) T (k / 8)).list=[]:=h2
  rw [e];rfl
 ·refine ⟨h1,?_,h0,h2⟩
  unfold ed at h2
  simp only [Bool.and_eq_true,decide_eq_true_eq] at h2
  exact h2.1.1
section
variable {T:List U} {n c:Int} {k:Nat}
theorem y0 (h1:k / 8 < T.length) (h2:(U.at T (k / 8)).list.length=8) (j:Nat):ko (dG T k) j=if j=k then .l (c4 (ko T k).list 0 lH) else ko T j:=by
 have e:U.at (dG T k) (j / 8)=if j / 8=k / 8 then .l (bj (U.at T (k / 8)).list (k % 8) lH) else U.at T (j / 8):=fA h1
 show U.at (U.at (dG T k) (j / 8)).list (j % 8)=_
 rw [e]
 by_cases hd:j / 8=k / 8
 ·rw [if_pos hd]
  show U.at (bj (U.at T (k / 8)).list (k % 8) lH) (j % 8)=_
  unfold bj
  rw [fA (by omega)]
  by_cases hm:j % 8=k % 8
  ·rw [if_pos hm,if_pos (by omega)];rfl
  ·rw [if_neg hm,if_neg (by omega),← hd];rfl
 ·rw [if_neg hd,if_neg (fun e=>hd (by rw [e]))];rfl
theorem FA (h1:k / 8 < T.length) (h2:(U.at T (k / 8)).list.length=8) (j:Nat):gl (dG T k) j=(!decide (j=k) && gl T j):=by
 have he:∀ T:List U,aY 0 T (j:Int)=e0 (ko T j):=fun T=>by
  unfold aY
  rw [decide_eq_false (by omega:¬ (j:Int) < 0),cond_false]
  rfl
 unfold gl
 rw [he,he,y0 h1 h2]
 by_cases h:j=k
 ·rw [if_pos h,decide_eq_true h];rfl
 ·rw [if_neg h,decide_eq_false h];rfl
theorem DU (h1:k / 8 < T.length) (h2:(U.at T (k / 8)).list.length=8) {j:Nat} (h:j≠k) (s:U):dK s (dG T k) j=dK s T j:=by
 have he:∀ i,aY i (dG T k) (j:Int)=aY i T (j:Int):=fun i=>by
  unfold aY
  rw [decide_eq_false (by omega:¬ (j:Int) < 0),cond_false,cond_false,Int.toNat_natCast,y0 h1 h2,if_neg h]
 unfold dK
 rw [he,he,he,he,he]
theorem Bq (h1:k / 8 < T.length) (h2:(U.at T (k / 8)).list.length=8) (s:U):ai s (dG T k)=(ai s T).filter fun l=>!decide ((lnU l 1).int=k):=by
 have hl:(dG T k).length=T.length:=List.length_set ..
 unfold ai aQ
 rw [hl,List.filter_map,List.filter_map,List.filter_filter]
 congr 1
 have e:(List.range (8 * T.length)).filter (gl (dG T k))=(List.range (8 * T.length)).filter fun a=>(((fun l=>!decide ((lnU l 1).int=(k:Int))) ∘ U.l) ∘ dK s T) a && gl T a:=by
  refine List.filter_congr fun a _=>?_
  rw [FA h1 h2]
  congr 2
  show decide (a=k)=decide ((a:Int)=(k:Int))
  rw [decide_eq_decide];omega
 rw [e]
 refine List.map_congr_left fun a ha=>DU h1 h2 (fun e=>?_) s
 have:=(List.mem_filter.1 ha).2
 rw [Bool.and_eq_true] at this
 have h9:(!decide ((a:Int)=(k:Int)))=true:=this.1
 rw [decide_eq_true (by omega)] at h9
 cases h9
theorem TR.zap (g:TR T n c) (h:gl T k=true):TR (dG T k) n c:=by
 obtain ⟨h1,h2,h3,h4⟩:=g.hit h
 have hl:(dG T k).length=T.length:=List.length_set ..
 unfold ed at h4
 simp only [Bool.and_eq_true,decide_eq_true_eq] at h4
 have hm:k % 8 < (U.at T (k / 8)).list.length:=by omega
 have hrow:ed n c (k / 8:Nat) (bj (U.at T (k / 8)).list (k % 8) lH)=true:=by
  unfold ed
  have hpl:(bj (U.at T (k / 8)).list (k % 8) lH).length=8:=by unfold bj;rw [List.length_set];exact h2
  rw [decide_eq_true hpl,Bool.true_and,Bool.and_eq_true]
  refine ⟨(j6 _ _).2 fun j hj=>?_,(u4 _).2 ⟨k % 8,by omega,?_⟩⟩
  ·have hj':j < (U.at T (k / 8)).list.length:=by rw [hpl] at hj;omega
   have ho:=(j6 _ _).1 h4.1.2 j hj'
   unfold bj
   rw [fA hm]
   split
   ·rename_i e
    subst e
    unfold lA at ho ⊢
    rw [Bool.and_eq_true,Bool.or_eq_true] at ho
    have hi:=ho.2.resolve_left (by rw [decide_eq_true_eq];exact h3)
    rw [hi,Bool.or_true,Bool.and_true]
    exact sZ g.c0 g.c1
   ·exact ho
  ·unfold bj
   rw [fA hm,if_pos rfl]
   show (1:Int)≠0
   decide
 refine ⟨g.n0,g.n1,g.c0,g.c1,?_,fun j hj=>?_⟩
 ·have hne:T≠[]:=fun e=>by rw [e] at h1;simp at h1
  have hlast:=g.last
  unfold c6 at hlast ⊢
  rw [decide_eq_false hne,Bool.false_or] at hlast
  rw [decide_eq_false (fun e=>hne (List.length_eq_zero_iff.1 (by rw [← hl,e];rfl))),Bool.false_or,hl]
  have e:nth (.i 0) (dG T k) (T.length - 1)=if T.length - 1=k / 8 then .l (bj (U.at T (k / 8)).list (k % 8) lH) else U.at T (T.length - 1):=fA h1
  rw [e]
  split
  ·rw [decide_eq_false];rfl
   intro hc
   have:(bj (U.at T (k / 8)).list (k % 8) lH).length=8:=by unfold bj;rw [List.length_set];exact h2
   have hc:bj (U.at T (k / 8)).list (k % 8) lH=[]:=hc
   rw [hc] at this
   cases this
  ·exact hlast
 ·rw [hl] at hj
  have e:U.at (dG T k) j=if j=k / 8 then .l (bj (U.at T (k / 8)).list (k % 8) lH) else U.at T j:=fA h1
  rw [e]
  split
  ·rename_i e;subst e;exact .inr hrow
  ·exact g.row j hj
theorem TR.mono (g:TR T n c):TR T 4096 c:=by
 refine ⟨by decide,by decide,g.c0,g.c1,g.last,fun j hj=>(g.row j hj).imp_right fun h=>?_⟩
 unfold ed at h ⊢
 simp only [Bool.and_eq_true] at h ⊢
 refine ⟨⟨h.1.1,(j6 _ _).2 fun i hi=>?_⟩,h.2⟩
 have ho:=(j6 _ _).1 h.1.2 i hi
 unfold lA at ho ⊢
 rw [Bool.and_eq_true,Bool.or_eq_true,decide_eq_true_eq,decide_eq_true_eq] at ho ⊢
 have:=g.n1
 exact ⟨ho.1,ho.2.imp_right fun h=>by omega⟩
theorem rG {xs:List U} (h:c6 xs=true):fj xs.length xs=xs:=by
 cases hl:xs.length with
 | zero=>rfl
 | succ m=>
  unfold c6 at h
  rw [decide_eq_false (fun e=>by rw [e] at hl;cases hl),Bool.false_or,hl,Nat.add_sub_cancel] at h
  have h:(nth (.i 0) xs m).list≠[]:=by simpa using h
  rw [fj]
  have hn:(((U.at xs m).list.length:Int) == 0)=false:=by
   rw [beq_eq_false_iff_ne]
   intro e
   exact h (List.length_eq_zero_iff.1 (Int.ofNat.inj e))
  rw [hn];rfl
theorem oy (g:TR T n c) (h:gl T k=true) (hT:T.length≤512):setX T k (.i 1) (.i 0) (.i 0) (.i 0) (.i 0)=dG T k:=by
 obtain ⟨h1,h2,h3,h4⟩:=g.hit h
 rw [FF (a:=.i 1) (b:=.i 0) (d:=.i 0) (e:=.i 0) (g:=.i 0) (c:=c) (by omega) (by omega) g.c0 g.c1 (TR.iff.2 g.mono) (sZ g.c0 g.c1),Int.toNat_natCast]
 unfold setR
 simp only
 have hp:bm T (k / 8 + 1 - T.length)=T:=by
  rw [show k / 8 + 1 - T.length=0 by omega]
  unfold bm
  rw [List.replicate_zero,List.append_nil]
 have hr:rowOf (U.at T (k / 8))=(U.at T (k / 8)).list:=by unfold rowOf;rw [h2];rfl
 rw [hp,hr]
 have hk:dY (bj (U.at T (k / 8)).list (k % 8) lH)=bj (U.at T (k / 8)).list (k % 8) lH:=by
  have ha:∀ (l:List U) (j:Nat) (x:U),j < l.length→ic x=false→dD (l.set j x)=true:=by
   intro l
   induction l with
   | nil=>intro j x hj;simp at hj
   | cons y r ih=>
    intro j x hj hx
    cases j with
    | zero=>rw [List.set_cons_zero,dD,hx];rfl
    | succ j=>
     rw [List.set_cons_succ,dD,ih j x (by simpa using hj) hx]
     cases ic y<;>rfl
  unfold dY
  have:dD (bj (U.at T (k / 8)).list (k % 8) lH)=true:=by
   unfold bj
   exact ha _ _ _ (by omega) rfl
  rw [this];rfl
 have hz:T.set (k / 8) (.l (dY (bj (U.at T (k / 8)).list (k % 8) [.i 1,.i 0,.i 0,.i 0,.i 0])))=dG T k:=by unfold dG;rw [← hk];rfl
 rw [hz]
 exact rG (g.zap h).last
end
def fN (st:List U × List U):List U:=ai (.i (-1)) st.1 ++ ad 0 st.2
theorem gM:∀ {S:List U} {i:Int} {l:U},l ∈ ad i S→∃ j:Nat,j < S.length∧l ∈ ai (.i (i + j)) (shT (U.at S j)).list
 | [],_,_,h=>by cases h
 | x :: r,i,l,h=>by
  rw [ad,List.mem_append] at h
  rcases h with h | h
  ·refine ⟨0,by simp,?_⟩
   have e:shT x=nth (.i 0) x.list 2:=by show nth _ x.list.tail.tail 0=_;rw [aD,aD]
   rw [show i + ((0:Nat):Int)=i by omega]
   show l ∈ ai (.i i) (shT x).list
   rw [e];exact h
  ·obtain ⟨j,h1,h2⟩:=gM h
   refine ⟨j + 1,by simpa using h1,?_⟩
   rw [show i + ((j + 1:Nat):Int)=i + 1 + j by omega]
   exact h2
theorem fx {s:U} {T:List U} {l:U} (h:l ∈ ai s T):∃ k,gl T k=true∧l = .l (dK s T k):=by
 unfold ai aQ at h
 obtain ⟨x,hx,rfl⟩:=List.mem_map.1 h
 obtain ⟨i,hi,rfl⟩:=List.mem_map.1 hx
 exact ⟨i,(List.mem_filter.1 hi).2,rfl⟩
theorem iS (s:U) (T:List U) (k:Nat):plI (.l (dK s T k))=(s.int,(k:Int)):=rfl
theorem ny (s:U) (T:List U):((ai s T).map plI).Nodup:=by
 unfold ai aQ
 rw [List.map_map,List.map_map]
 refine List.Pairwise.map _ (R:=(·≠·)) (fun a b hab=>?_) (List.Pairwise.filter _ List.nodup_range)
 show (s.int,(a:Int))≠(s.int,(b:Int))
 intro e
 have:=congrArg Prod.snd e
 simp at this
 exact hab (by omega)
theorem nG:∀ (S:List U) (i:Int),((ad i S).map plI).Nodup
 | [],_=>List.nodup_nil
 | x :: r,i=>by
  rw [ad,List.map_append,List.nodup_append]
  refine ⟨ny _ _,nG r (i + 1),fun a ha b hb e=>?_⟩
  obtain ⟨l,hl,rfl⟩:=List.mem_map.1 ha
  obtain ⟨m,hm,rfl⟩:=List.mem_map.1 hb
  obtain ⟨k,_,rfl⟩:=fx hl
  obtain ⟨j,_,hm⟩:=gM hm
  obtain ⟨k',_,rfl⟩:=fx hm
  rw [iS,iS] at e
  have:=congrArg Prod.fst e
  simp [U.int] at this
  omega
theorem BI (st:List U × List U):((fN st).map plI).Nodup:=by
 unfold fN
 rw [List.map_append,List.nodup_append]
 refine ⟨ny _ _,nG _ _,fun a ha b hb e=>?_⟩
 obtain ⟨l,hl,rfl⟩:=List.mem_map.1 ha
 obtain ⟨m,hm,rfl⟩:=List.mem_map.1 hb
 obtain ⟨k,_,rfl⟩:=fx hl
 obtain ⟨j,_,hm⟩:=gM hm
 obtain ⟨k',_,rfl⟩:=fx hm
 rw [iS,iS] at e
 have:=congrArg Prod.fst e
 simp [U.int] at this
theorem mf {L:List U} {v:Int × Int} (h:∀ l,l ∈ L→(plI l).1≠v.1):L.filter (fun l=>!decide (plI l=v))=L:=by
 refine List.filter_eq_self.2 fun l hl=>?_
 rw [decide_eq_false fun e=>h l hl (congrArg Prod.fst e)];rfl
theorem iW {s:U} {T:List U} {l:U} (h:l ∈ ai s T):(plI l).1=s.int:=by
 obtain ⟨k,_,rfl⟩:=fx h;rfl
theorem qh {T:List U} {k:Nat} (h1:k / 8 < T.length) (h2:(U.at T (k / 8)).list.length=8) (s:U):ai s (dG T k)=(ai s T).filter fun l=>!decide (plI l=(s.int,(k:Int))):=by
 rw [Bq h1 h2]
 refine List.filter_congr fun l hl=>?_
 have:=iW hl
 congr 1
 rw [decide_eq_decide]
 show _↔plI l=_
 constructor
 ·intro h;exact Prod.ext this h
 ·intro h;exact congrArg Prod.snd h
theorem uS:∀ {S:List U} {i:Int} {j k:Nat},j < S.length→(k / 8 < (shT (U.at S j)).list.length∧(U.at (shT (U.at S j)).list (k / 8)).list.length=8)→
  ad i (S.set j (cA (U.at S j) (dG (shT (U.at S j)).list k)))=(ad i S).filter fun l=>!decide (plI l=(i + j,(k:Int)))
 | [],_,_,_,h,_=>absurd h (Nat.not_lt_zero _)
 | x :: r,i,0,k,_,h=>by
  have h:k / 8 < (shT x).list.length∧(U.at (shT x).list (k / 8)).list.length=8:=h
  have e:shT x=nth (.i 0) x.list 2:=by show nth _ x.list.tail.tail 0=_;rw [aD,aD]
  show ad i (cA x (dG (shT x).list k) :: r)=_
  have e':nth (.i 0) (cA x (dG (shT x).list k)).list 2 = .l (dG (shT x).list k):=by
   have:shT (cA x (dG (shT x).list k))=nth (.i 0) (cA x (dG (shT x).list k)).list 2:=by show nth _ (cA x (dG (shT x).list k)).list.tail.tail 0=_;rw [aD,aD]
   rw [← this];rfl
  rw [ad,ad,List.filter_append,e',← e,show i + ((0:Nat):Int)=i by omega]
  show ai (.i i) (dG (shT x).list k) ++ _=_
  rw [qh h.1 h.2]
  congr 1
  refine (mf fun l hl=>?_).symm
  obtain ⟨j,_,hm⟩:=gM hl
  rw [iW hm]
  show i + 1 + (j:Int)≠i
  omega
 | x :: r,i,j + 1,k,hj,h=>by
  have ih:=uS (S:=r) (i:=i + 1) (j:=j) (k:=k) (by simpa using hj) h
  show ad i (x :: r.set j (cA (U.at r j) (dG (shT (U.at r j)).list k)))=_
  rw [ad,ad,List.filter_append,ih,show i + ((j + 1:Nat):Int)=i + 1 + j by omega]
  congr 1
  refine (mf fun l hl=>?_).symm
  rw [iW hl]
  show i≠i + 1 + (j:Int)
  omega
structure MR (n c:Int) (T S:List U):Prop where
 t:TR T n c
 tl:T.length≤512
 s:dQ c S=true
 sl:∀ x,x ∈ S→(shT x).list.length≤512
theorem ni (x:U):shT x=e2 x:=by show nth _ x.list.tail.tail 0=_;rw [aD,aD]
theorem kf {c:Int}:∀ (S:List U),dQ c S=true↔∀ j,j < S.length→dW (e1 (U.at S j)).int c=true∧bU (shT (U.at S j)).list ((e1 (U.at S j)).int / 2 ^ c.toNat) c=true
 | []=>⟨fun _ j hj=>absurd hj (Nat.not_lt_zero _),fun _=>rfl⟩
 | x :: r=>by
  rw [dQ,Bool.and_eq_true,Bool.and_eq_true,kf r,← ni]
  constructor
  ·rintro ⟨h1,h2⟩ j hj
   cases j with
   | zero=>exact h1
   | succ j=>exact h2 j (by simpa using hj)
  ·intro h
   exact ⟨h 0 (by simp),fun j hj=>h (j + 1) (by simpa using hj)⟩
theorem mc (x:U) (T:List U):e1 (cA x T)=e1 x:=by
 show nth (.i 0) x.list.tail 0=nth (.i 0) x.list 1
 rw [aD]
theorem MR.step {n c:Int} {T S:List U} (g:MR n c T S) {l:U} (hl:l ∈ fN (T,S)):MR n c (bY (.i 1) (.i 0) (.i 0) (.i 0) (.i 0) (T,S) (plU l)).1 (bY (.i 1) (.i 0) (.i 0) (.i 0) (.i 0) (T,S) (plU l)).2∧
  fN (bY (.i 1) (.i 0) (.i 0) (.i 0) (.i 0) (T,S) (plU l))=(fN (T,S)).filter (fun x=>!decide (plI x=plI l))∧(bY (.i 1) (.i 0) (.i 0) (.i 0) (.i 0) (T,S) (plU l)).2.map e0=S.map e0:=by
 unfold fN at hl
 rcases List.mem_append.1 hl with hl | hl
 ·obtain ⟨k,hk,rfl⟩:=fx hl
  have e:bY (.i 1) (.i 0) (.i 0) (.i 0) (.i 0) (T,S) (plU (.l (dK (.i (-1)) T k)))=(setX T k (.i 1) (.i 0) (.i 0) (.i 0) (.i 0),S):=rfl
  rw [e,oy g.t hk g.tl]
  obtain ⟨h1,h2,_,_⟩:=g.t.hit hk
  refine ⟨⟨g.t.zap hk,by show (dG T k).length≤512;unfold dG;rw [List.length_set];exact g.tl,g.s,g.sl⟩,?_,rfl⟩
  unfold fN
  rw [List.filter_append,iS]
  show ai (.i (-1)) (dG T k) ++ ad 0 S=_
  rw [qh h1 h2]
  congr 1
  refine (mf fun l hl=>?_).symm
  obtain ⟨j,_,hm⟩:=gM hl
  rw [iW hm]
  show 0 + (j:Int)≠-1
  omega
 ·obtain ⟨j,hj,hm⟩:=gM hl
  obtain ⟨k,hk,rfl⟩:=fx hm
  have hs:=(kf S).1 g.s j hj
  have hin:U.at S j ∈ S:=by rw [eG hj];exact List.getElem_mem hj
  have gt:=TR.iff.1 hs.2
  obtain ⟨h1,h2,_,_⟩:=gt.hit hk
  have hz:(0:Int) + (j:Int)=j:=Int.zero_add _
  have e:bY (.i 1) (.i 0) (.i 0) (.i 0) (.i 0) (T,S) (plU (.l (dK (.i (0 + (j:Int))) (shT (U.at S j)).list k)))=(T,S.set j (cA (U.at S j) (setX (shT (U.at S j)).list k (.i 1) (.i 0) (.i 0) (.i 0) (.i 0)))):=by
   rw [hz]
   unfold bY
   show (bif decide ((j:Int) < 0) then _ else (T,S.set (j:Int).toNat (cA (U.at S (j:Int).toNat) (setX (shT (U.at S (j:Int).toNat)).list k _ _ _ _ _))))=_
   rw [decide_eq_false (by omega),cond_false,Int.toNat_natCast]
  rw [e,oy gt hk (g.sl _ hin)]
  refine ⟨⟨g.t,g.tl,(kf _).2 fun i hi=>?_,fun x hx=>?_⟩,?_,?_⟩
  ·rw [List.length_set] at hi
   show dW (e1 (U.at (S.set j _) i)).int c=true∧bU (shT (U.at (S.set j _) i)).list ((e1 (U.at (S.set j _) i)).int / 2 ^ c.toNat) c=true
   rw [fA hj]
   split
   ·rw [mc,fJ]
    exact ⟨hs.1,TR.iff.2 (gt.zap hk)⟩
   ·exact (kf S).1 g.s i hi
  ·rcases List.mem_or_eq_of_mem_set hx with hx | rfl
   ·exact g.sl x hx
   ·rw [fJ]
    show (dG _ k).length≤512
    unfold dG
    rw [List.length_set];exact g.sl _ hin
  ·unfold fN
   rw [List.filter_append,iS]
   show ai (.i (-1)) T ++ ad 0 (S.set j _)=_
   rw [uS hj ⟨h1,h2⟩]
   congr 1
   refine (mf fun l hl=>?_).symm
   rw [iW hl]
   show (-1:Int)≠0 + (j:Int)
   omega
  ·show (S.set j _).map e0=S.map e0
   rw [List.map_set]
   have:e0 (cA (U.at S j) (dG (shT (U.at S j)).list k))=e0 S[j]:=by rw [eG hj];rfl
   rw [this,← List.map_set,List.set_getElem_self]
theorem IK (c z s T Sh M Q F:U):bdU c z s T Sh M Q F=(iR (whU F) c.int [] (fN (T.list,Sh.list))).map plU:=by
 refine Eq.trans (show _=((fN (T.list,Sh.list)).foldl (bu (whU F) c.int) ([],[])).1 from rfl) ?_
 rw [pt,List.nil_append]
section
variable {c z s T Sh M Q F:U}
theorem MR.of_right (h:cj c z s T Sh M Q=true) (hpre:mgP T Sh):MR (z.int / 2 ^ c.int.toNat) c.int T.list Sh.list:=by
 obtain ⟨hG,_,_⟩:=GM.of_right h hpre.1 hpre.2
 unfold cj at h
 simp only [Bool.and_eq_true] at h
 exact ⟨TR.iff.1 h.1.1.1.1.1.1.1.1.2,hG.t.len,h.1.1.1.1.2,fun x hx=>(hG.st x hx).len⟩
end
end Go.Mat

namespace Go.Mat
open Go Go.Den Go.Proofs
abbrev p9 (c sz bk T S M Q:U):List SV:=[vi c,vi sz,vs bk,vl (.sl true EC) T,vt SC S,vt BC M,vl (.int .i64) Q]
def eV (n:Int):List U→Int
 | []=>n
 | l :: r=>bif decide (n≤6000) then eV (n + 1 + (bif decide (6000 < (l.list.length:Int)) then (6000:Int) else (l.list.length:Int))) r else n
def iz (L:List U):Bool:=decide (eV 0 L > 6000)
def yc:List (List U)→List (List U):=fun us=>[[.b (iz (nth (.i 0) (nth [] us 0) 0).list)]]
noncomputable def kL:aS:=fun _ svs os k=>match svs,os with
 | [.val (.int .i64) i,.val (.int .i64) n,.ptr p o],[.box [.val (.sl false [.sl true ec]) L]]=>
  (p=128∧o=0∧ec=EC∧n = .i n.int∧0≤i.int∧i.int≤L.list.length∧0≤n.int∧n.int≤20000)∧
  k (.exit 0) ⟨[(3,vi (.i (eV n.int (L.list.drop i.int.toNat))))],[]⟩
 | _,_=>False
noncomputable def tE:Ctx:=mkC PR bM aK aL (aw 0 [4,3,1] [128] kL aC) (an 0 [3] [] aq) aq
theorem wi (pan:KP) (μ:Mu) (N:Nat) (k:KE) (i n L:U) {c a b d} (_:c=(List.length (U.list (nth (.i 0) L.list i.int.toNat))):=by rfl) (_:a=(IntKind.wrap .i64 (n.int + 1) + bif decide ((6000:Int) < (↑c:Int)) then (6000:Int) else (↑c:Int)):=by rfl) (_:b=(IntKind.wrap .i64 a):=by rfl) (_:d=(L.list.length:Int):=by rfl): (exec (tE.panics pan) (aa Tryz.f33 0) 0 ⟨[(4,vi i),(3,vi n),(1,.ptr 128 0)],[(128,.box [vl (.sl true EC) L])]⟩ (again PR (some ([3],[])) none pan [4,3,1] [128] kL μ N k))=(bif decide (i.int < d) then bif decide (n.int≤6000) then bif decide ((0:Int)≤i.int∧i.int < d) then bif Nat.blt (μ [vi (U.i (IntKind.wrap .i64 (i.int + 1))),vi (U.i b),.ptr 128 0] [.box [.val (.sl false [.sl true EC]) L]]) N then (128=128∧0=0∧EC=EC∧U.i b=U.i b∧(0:Int)≤IntKind.wrap .i64 (i.int + 1)∧IntKind.wrap .i64 (i.int + 1)≤d∧(0:Int)≤IntKind.wrap .i64 a∧IntKind.wrap .i64 a≤20000)∧k (Ex.exit 0) (St.mk [(3,vi (U.i (eV b (List.drop (Int.toNat (IntKind.wrap .i64 (i.int + 1))) L.list))))] []) else False else False else k (Ex.exit 0) (St.mk [(3,vi n)] []) else k (Ex.exit 0) (St.mk [(3,vi n)] [])):=by subst_vars;kernel_rfl
theorem xJ (R:RF) (L:U):(run tE Tryz.f33 [[L]] R)=((128=nat_lit 128∧nat_lit 0=nat_lit 0∧EC=EC∧U.i (0:Int)=U.i 0∧(0:Int)≤0∧(0:Int)≤(↑(List.length L.list):Int)∧(0:Int)≤0∧(0:Int)≤20000)∧R [[U.b (decide (eV 0
 (List.drop (Int.toNat 0) L.list) > 6000))]]):=by kernel_rfl
def gK:List U→Bool
 | []=>false
 | s :: r=>iz (e2 s).list || decide (((e0 s).str.size:Int) > 1000) || gK r
def ml:List U→Bool
 | []=>false
 | b :: r=>decide (((e2 b).list.length:Int) > 500) || decide (((e0 b).str.size:Int) > 1000) || ml r
def mN (bk T S M Q:U):Bool:=iz T.list || decide ((S.list.length:Int) > 20) || decide ((M.list.length:Int) > 20) || decide ((Q.list.length:Int) > 20000) || decide ((bk.str.size:Int) > 1000) || gK S.list || ml M.list
def ye:List (List U)→List (List U):=fun us=>[[.b (mN (nth (.i 0) (nth [] us 0) 2) (nth (.i 0) (nth [] us 0) 3) (nth (.i 0) (nth [] us 0) 4) (nth (.i 0) (nth [] us 0) 5) (nth (.i 0) (nth [] us 0) 6))]]
noncomputable def jq:aS:=fun _ svs os k=>match svs,os with
 | [.val (.int .i64) i,.ptr p o],[.box [.val (.int .i64) c,.val (.int .i64) sz,.val .str bk,.val (.sl false [.sl true x1]) T,.val (.sl true x2) S,.val (.sl true x3) M,.val (.sl false [.int .i64]) Q]]=>
  ((p=128∧o=0)∧(x1=EC∧x2=SC∧x3=BC)∧S.list.length≤20∧0≤i.int∧i.int≤S.list.length)∧
  (bif gK (S.list.drop i.int.toNat) then k .ret ⟨[(2,vb (.b true))],[]⟩ else k (.exit 0) ⟨[(1,.ptr 128 0)],[(128,.box (p9 c sz bk T S M Q))]⟩)
 | _,_=>False
noncomputable def jd:aS:=fun _ svs os k=>match svs,os with
 | [.val (.int .i64) i,.ptr p o],[.box [.val (.int .i64) c,.val (.int .i64) sz,.val .str bk,.val (.sl false [.sl true x1]) T,.val (.sl true x2) S,.val (.sl true x3) M,.val (.sl false [.int .i64]) Q]]=>
  ((p=128∧o=0)∧(x1=EC∧x2=SC∧x3=BC)∧M.list.length≤20∧0≤i.int∧i.int≤M.list.length)∧
  (bif ml (M.list.drop i.int.toNat) then k .ret ⟨[(2,vb (.b true))],[]⟩ else k (.exit 2) ⟨[],[]⟩)
 | _,_=>False
noncomputable def mZ:Ctx:=mkC PR bM (aH 33 yc aK) aL (aw 2 [4,1] [128] jd (aw 0 [3,1] [128] jq aC)) (an 2 [] [] (an 0 [1] [128] (an 1048578 [2] [] (an 1048576 [2] [] aq)))) aq
theorem sG (pan:KP) (μ:Mu) (N:Nat) (k:KE) (i c sz bk T S M Q:U) {a d e f} (_:a=(St.mk [(1,.ptr 128 0)] [(128,.box [vi c,vi sz,.val .str bk,.val (.sl false [.sl true EC]) T,.val (.sl true [.str,.int .i64,Ct.sl false [.sl true EC]]) S,.val (.sl true [.str,Ct.bool,Ct.sl true [.int .i64,.int .i64]]) M,.val (.sl false [.int .i64]) Q])]):=by rfl) (_:d=(St.mk [(2,.val .bool (U.b true))] []):=by rfl) (_:e=(S.list.length:Int):=by rfl) (_:f=(U.list (nth (.i 0) S.list i.int.toNat)):=by rfl): (exec (mZ.panics pan) (aa Tryz.f11 0) 0 ⟨[(3,vi i),(1,.ptr 128 0)],[(128,.box (p9 c sz bk T S M Q))]⟩ (again PR (some ([1],[128])) (some ([2],[])) pan [3,1] [128] jq μ N k))=(bif decide (i.int < e) then bif decide ((0:Int)≤i.int∧i.int < e) then bif iz (U.list (nth (.i 0) (List.drop (2:Nat) f) 0)) then k Ex.ret d else bif decide ((0:Int)≤i.int∧i.int < e) then bif decide ((↑(ByteArray.size (U.str (nth (.i 0) (List.drop (0:Nat) f) 0))):Int) > 1000) then k Ex.ret d else bif Nat.blt (μ [vi (U.i (IntKind.wrap .i64 (i.int + 1))),.ptr 128 0] [.box [vi c,vi sz,.val .str bk,.val (.sl false [.sl true EC]) T,.val (.sl true [.str,.int .i64,Ct.sl false [.sl true EC]]) S,.val (.sl true [.str,Ct.bool,Ct.sl true [.int .i64,.int .i64]]) M,.val (.sl false [.int .i64]) Q]]) N then ((128=128∧0=0)∧(EC=EC∧[Ct.str,.int .i64,Ct.sl false [Ct.sl true EC]]=[.str,.int .i64,Ct.sl false [.sl true EC]]∧[Ct.str,Ct.bool,Ct.sl true [.int .i64,.int .i64]]=[.str,Ct.bool,Ct.sl true [.int .i64,.int .i64]])∧S.list.length≤(20:Nat)∧(0:Int)≤IntKind.wrap .i64 (i.int + 1)∧IntKind.wrap .i64 (i.int + 1)≤e)∧bif gK (List.drop (Int.toNat (IntKind.wrap .i64 (i.int + 1))) S.list) then k Ex.ret d else k (Ex.exit 0) a else False else False else False else k (Ex.exit 0) a):=by subst_vars;kernel_rfl
theorem tY (pan:KP) (μ:Mu) (N:Nat) (k:KE) (i c sz bk T S M Q:U) {a d e} (_:a=(St.mk [(2,.val .bool (U.b true))] []):=by rfl) (_:d=(M.list.length:Int):=by rfl) (_:e=(U.list (nth (.i 0) M.list i.int.toNat)):=by rfl): (exec (mZ.panics pan) (aa Tryz.f11 1) 2 ⟨[(4,vi i),(1,.ptr 128 0)],[(128,.box (p9 c sz bk T S M Q))]⟩ (again PR (some ([],[])) (some ([2],[])) pan [4,1] [128] jd μ N k))=(bif decide (i.int < d) then bif decide ((0:Int)≤i.int∧i.int < d) then bif decide ((↑(List.length (U.list (nth (.i 0) (List.drop (2:Nat) e) 0))):Int) > 500) then k Ex.ret a else bif decide ((0:Int)≤i.int∧i.int < d) then bif decide ((↑(ByteArray.size (U.str (nth (.i 0) (List.drop (0:Nat) e) 0))):Int) > 1000) then k Ex.ret a else bif Nat.blt (μ [vi (U.i (IntKind.wrap .i64 (i.int + 1))),.ptr 128 0] [.box [vi c,vi sz,.val .str bk,.val (.sl false [.sl true EC]) T,.val (.sl true [.str,.int .i64,Ct.sl false [.sl true EC]]) S,.val (.sl true [.str,Ct.bool,Ct.sl true [.int .i64,.int .i64]]) M,.val (.sl false [.int .i64]) Q]]) N then ((128=128∧0=0)∧(EC=EC∧[Ct.str,.int .i64,Ct.sl false [Ct.sl true EC]]=[.str,.int .i64,Ct.sl false [.sl true EC]]∧[Ct.str,Ct.bool,Ct.sl true [.int .i64,.int .i64]]=[.str,Ct.bool,Ct.sl true [.int .i64,.int .i64]])∧M.list.length≤(20:Nat)∧(0:Int)≤IntKind.wrap .i64 (i.int + 1)∧IntKind.wrap .i64 (i.int + 1)≤d)∧bif ml (List.drop (Int.toNat (IntKind.wrap .i64 (i.int + 1))) M.list) then k Ex.ret a else k (Ex.exit 2) (St.mk [] []) else False else False else False else k (Ex.exit 2) (St.mk [] [])):=by subst_vars;kernel_rfl
theorem wY (R:RF) (c sz bk T S M Q:U) {a d} (_:a=(EC=EC∧[Ct.str,.int .i64,Ct.sl false [Ct.sl true EC]]=[Ct.str,.int .i64,Ct.sl false [Ct.sl true EC]]∧[Ct.str,Ct.bool,Ct.sl true [.int .i64,.int .i64]]=[Ct.str,Ct.bool,Ct.sl true [.int .i64,.int .i64]]):=by rfl) (_:d=(128=nat_lit 128∧nat_lit 0=nat_lit 0):=by rfl): (run mZ Tryz.f11 [[c,sz,bk,T,S,M,Q]] R)=(bif iz T.list then R [[U.b true]] else bif decide ((↑(List.length S.list):Int) > 20) then R [[U.b true]] else bif decide ((↑(List.length M.list):Int) > 20) then R [[U.b true]] else bif decide ((↑(List.length Q.list):Int) > 20000) then R [[U.b true]] else bif decide ((↑(ByteArray.size bk.str):Int) > 1000) then R [[U.b true]] else (d∧a∧List.length S.list≤(20:Nat)∧(0:Int)≤0∧(0:Int)≤(↑(List.length S.list):Int))∧bif gK (List.drop (Int.toNat 0) S.list) then R [[U.b true]] else (d∧a∧List.length M.list≤(20:Nat)∧(0:Int)≤0∧(0:Int)≤(↑(List.length M.list):Int))∧bif ml (List.drop (Int.toNat 0) M.list) then R [[U.b true]] else R [[U.b false]]):=by subst_vars;kernel_rfl
end Go.Mat

namespace Go.Mat
open Go Go.Den Go.Proofs
theorem wU:aE tE 0 (aa Tryz.f33 0):=by
 refine al (F:=kL) (ts:=[4,3,1]) (os:=[128]) rfl (fun svs os=>match svs,os with | .val _ i :: _,[.box [.val _ L]]=>((L.list.length:Int) - i.int).toNat | _,_=>0) ?_
 intro pan svs os k ho1 ho2 h
 unfold kL at h
 split at h
 ·rename_i i n p o ec L
  obtain ⟨⟨rfl,rfl,rfl,hnn,h0,hi,hn0,hn⟩,hk⟩:=h
  have hL:L.list.length≤maxLen:=ho2.1.1.1
  unfold maxLen at hL
  refine .eq (wi pan _ _ k i n L) ?_
  refine bd (fun hlt=>bd (fun h6=>dt ⟨h0,by omega⟩ ?_) (fun h6=>?_)) (fun hlt=>?_)
  ·rw [aN (by omega),eV,decide_eq_true h6,cond_true] at hk
   simp only [U.at] at hk
   have hm:(0:Int)≤(bif decide (6000 < ((nth (.i 0) L.list i.int.toNat).list.length:Int)) then 6000 else ((nth (.i 0) L.list i.int.toNat).list.length:Int))∧(bif decide (6000 < ((nth (.i 0) L.list i.int.toNat).list.length:Int)) then 6000 else ((nth (.i 0) L.list i.int.toNat).list.length:Int))≤6000:=by
    by_cases hc:6000 < ((nth (.i 0) L.list i.int.toNat).list.length:Int)
    ·rw [decide_eq_true hc,cond_true];omega
    ·rw [decide_eq_false hc,cond_false];omega
   generalize (bif decide (6000 < ((nth (.i 0) L.list i.int.toNat).list.length:Int)) then 6000 else ((nth (.i 0) L.list i.int.toNat).list.length:Int))=m at hm hk ⊢
   have hw:IntKind.wrap .i64 (i.int + 1)=i.int + 1:=i64_in (by omega) (by omega)
   have hw1:IntKind.wrap .i64 (n.int + 1)=n.int + 1:=i64_in (by omega) (by omega)
   have hw2:IntKind.wrap .i64 (n.int + 1 + m)=n.int + 1 + m:=i64_in (by omega) (by omega)
   have hc:(i.int + 1).toNat=i.int.toNat + 1:=by omega
   have hlt':((L.list.length:Int) - (i.int + 1)).toNat < ((L.list.length:Int) - i.int).toNat:=by omega
   simp only [hw,hw1,hw2,hc]
   exact blt hlt' ⟨⟨by trivial,by trivial,by trivial,by trivial,by omega,by omega,by omega,by omega⟩,hk⟩
  ·rw [aN (by omega),eV,decide_eq_false h6,cond_false,← hnn] at hk
   exact hk
  ·rw [List.drop_of_length_le (by omega),eV,← hnn] at hk
   exact hk
 ·exact h.elim
theorem EX:bB PR 33 yc:=fun fn us hfn=>by
 have hf:PR.funcs[(33:Nat)]? = some Tryz.f33:=by kernel_rfl
 rw [hf] at hfn;cases hfn
 refine aM (C:=tE) (aB ao af .nil .nil) hf (by kernel_rfl) (aW (by kernel_rfl) wU) fun hok=>?_
 have hp:Tryz.f33.params.toList=[24]:=by kernel_rfl
 rw [hp] at hok
 obtain ⟨L,hus⟩:∃ L,us=[[L]]:=by
  obtain ⟨u,rfl,h1⟩:=cT (by kernel_rfl:Cs PR 24=some (true,[.sl false [.sl true [.int .i64,.int .i64,.int .i64,.int .i64,.int .u32]]])) hok.1
  obtain ⟨L,rfl⟩:=bG h1
  exact ⟨L,rfl⟩
 subst hus
 refine .eq (xJ _ L) ?_
 unfold yc iz
 simp only [bo,aZ]
 exact ⟨⟨by trivial,by trivial,by trivial,by trivial,by omega,by omega,by omega,by omega⟩,rfl⟩
theorem rI:∀ (L:List U) (n:Int),eV n L≤6000→n + L.length≤6000
 | [],n,h=>by simpa [eV] using h
 | l :: r,n,h=>by
  rw [eV] at h
  by_cases hn:n≤6000
  ·rw [decide_eq_true hn,cond_true] at h
   have:=rI r _ h
   have h0:(0:Int)≤(bif decide (6000 < (l.list.length:Int)) then 6000 else (l.list.length:Int)):=by
    cases decide (6000 < (l.list.length:Int))<;>simp
   rw [List.length_cons];omega
  ·rw [decide_eq_false hn,cond_false] at h;omega
theorem lq {L:List U} (h:iz L=false):L.length≤6000:=by
 unfold iz at h
 have:=rI L 0 (by have:=of_decide_eq_false h;omega)
 omega
theorem vv:aE mZ 0 (aa Tryz.f11 0):=by
 refine al (F:=jq) (ts:=[3,1]) (os:=[128]) rfl (fun svs os=>match svs,os with | .val _ i :: _,[.box [_,_,_,_,.val _ S,_,_]]=>((S.list.length:Int) - i.int).toNat | _,_=>0) ?_
 intro pan svs os k ho1 ho2 h
 unfold jq at h
 split at h
 ·rename_i i p o c sz bk x1 T x2 S x3 M Q
  obtain ⟨⟨⟨rfl,rfl⟩,⟨rfl,rfl,rfl⟩,hS,h0,hi⟩,hk⟩:=h
  refine .eq (sG pan _ _ k i c sz bk T S M Q) ?_
  refine bd (fun hlt=>dt ⟨h0,by omega⟩ ?_) (fun hlt=>?_)
  ·rw [aN (by omega),gK] at hk
   simp only [U.at,e0,e2] at hk
   have hw:IntKind.wrap .i64 (i.int + 1)=i.int + 1:=i64_in (by omega) (by omega)
   have hc:(i.int + 1).toNat=i.int.toNat + 1:=by omega
   have hlt':((S.list.length:Int) - (i.int + 1)).toNat < ((S.list.length:Int) - i.int).toNat:=by omega
   simp only [bW,Nat.add_zero,hw,hc]
   refine bi (fun h1=>?_) (fun h1=>dt ⟨h0,by omega⟩ (bi (fun h2=>?_) (fun h2=>?_)))
   ·rw [h1] at hk;exact hk
   ·rw [h1,h2] at hk;exact hk
   ·rw [h1,h2] at hk
    exact blt hlt' ⟨⟨⟨by trivial,by trivial⟩,⟨by trivial,by trivial,by trivial⟩,hS,by omega,by omega⟩,hk⟩
  ·rw [List.drop_of_length_le (by omega),gK] at hk
   exact hk
 ·exact h.elim
theorem u5:aE mZ 2 (aa Tryz.f11 1):=by
 refine al (F:=jd) (ts:=[4,1]) (os:=[128]) rfl (fun svs os=>match svs,os with | .val _ i :: _,[.box [_,_,_,_,_,.val _ M,_]]=>((M.list.length:Int) - i.int).toNat | _,_=>0) ?_
 intro pan svs os k ho1 ho2 h
 unfold jd at h
 split at h
 ·rename_i i p o c sz bk x1 T x2 S x3 M Q
  obtain ⟨⟨⟨rfl,rfl⟩,⟨rfl,rfl,rfl⟩,hS,h0,hi⟩,hk⟩:=h
  refine .eq (tY pan _ _ k i c sz bk T S M Q) ?_
  refine bd (fun hlt=>dt ⟨h0,by omega⟩ ?_) (fun hlt=>?_)
  ·rw [aN (by omega),ml] at hk
   simp only [U.at,e0,e2] at hk
   have hw:IntKind.wrap .i64 (i.int + 1)=i.int + 1:=i64_in (by omega) (by omega)
   have hc:(i.int + 1).toNat=i.int.toNat + 1:=by omega
   have hlt':((M.list.length:Int) - (i.int + 1)).toNat < ((M.list.length:Int) - i.int).toNat:=by omega
   simp only [bW,Nat.add_zero,hw,hc]
   refine bi (fun h1=>?_) (fun h1=>dt ⟨h0,by omega⟩ (bi (fun h2=>?_) (fun h2=>?_)))
   ·rw [h1] at hk;exact hk
   ·rw [h1,h2] at hk;exact hk
   ·rw [h1,h2] at hk
    exact blt hlt' ⟨⟨⟨by trivial,by trivial⟩,⟨by trivial,by trivial,by trivial⟩,hS,by omega,by omega⟩,hk⟩
  ·rw [List.drop_of_length_le (by omega),ml] at hk
   exact hk
 ·exact h.elim
theorem CJ:bB PR 11 ye:=fun fn us hfn=>by
 have hf:PR.funcs[(11:Nat)]? = some Tryz.f11:=by kernel_rfl
 rw [hf] at hfn;cases hfn
 refine aM (C:=mZ) (aB ao af (.cons EX .nil) .nil) hf (by kernel_rfl) (dS (by kernel_rfl) vv u5) fun hok=>?_
 have hp:Tryz.f11.params.toList=[29]:=by kernel_rfl
 rw [hp] at hok
 obtain ⟨c,sz,bk,T,S,M,Q,hus⟩:∃ c sz bk T S M Q,us=[[c,sz,bk,T,S,M,Q]]:=by
  obtain ⟨u,rfl,h1⟩:=cT (by kernel_rfl:Cs PR 29=some (true,[.int .i64,.int .i64,.str,.sl false [.sl true EC],.sl true SC,.sl true BC,.sl false [.int .i64]])) hok.1
  obtain ⟨c,sz,bk,T,S,M,Q,rfl⟩:=oc h1
  exact ⟨c,sz,bk,T,S,M,Q,rfl⟩
 subst hus
 refine .eq (wY _ c sz bk T S M Q) ?_
 have hS:ye [[c,sz,bk,T,S,M,Q]]=[[.b (mN bk T S M Q)]]:=rfl
 rw [hS]
 unfold mN
 simp only [Int.toNat_zero,List.drop_zero]
 refine bi (fun h1=>by rw [h1];rfl) (fun h1=>bi (fun h2=>by rw [h1,h2];rfl) (fun h2=>bi (fun h3=>by rw [h1,h2,h3];rfl) (fun h3=>bi (fun h4=>by rw [h1,h2,h3,h4];rfl) (fun h4=>bi (fun h5=>by rw [h1,h2,h3,h4,h5];rfl) (fun h5=>?_)))))
 have g2:=of_decide_eq_false h2
 have g3:=of_decide_eq_false h3
 rw [h1,h2,h3,h4,h5]
 refine ⟨⟨⟨by trivial,by trivial⟩,⟨by trivial,by trivial,by trivial⟩,by omega,by omega,by omega⟩,bi (fun h6=>by rw [h6];rfl) (fun h6=>?_)⟩
 rw [h6]
 exact ⟨⟨⟨by trivial,by trivial⟩,⟨by trivial,by trivial,by trivial⟩,by omega,by omega,by omega⟩,bi (fun h7=>by rw [h7];rfl) (fun h7=>by rw [h7];rfl)⟩
theorem pT:∀ {S:List U},gK S=false→∀ s ∈ S,(e2 s).list.length≤6000
 | [],_,s,hs=>by cases hs
 | x :: r,h,s,hs=>by
  rw [gK] at h
  simp only [Bool.or_eq_false_iff] at h
  rcases List.mem_cons.1 hs with rfl | hs
  ·exact lq h.1.1
  ·exact pT h.2 s hs
theorem qR:∀ {M:List U},ml M=false→∀ s ∈ M,(e2 s).list.length≤500
 | [],_,s,hs=>by cases hs
 | x :: r,h,s,hs=>by
  rw [ml] at h
  simp only [Bool.or_eq_false_iff] at h
  rcases List.mem_cons.1 hs with rfl | hs
  ·have:=of_decide_eq_false h.1.1;omega
  ·exact qR h.2 s hs
theorem m0 {bk T S M Q:U} (h:mN bk T S M Q=false):T.list.length≤6000∧S.list.length≤20∧(∀ s ∈ S.list,(e2 s).list.length≤6000)∧M.list.length≤20∧∀ b ∈ M.list,(e2 b).list.length≤500:=by
 unfold mN at h
 simp only [Bool.or_eq_false_iff,decide_eq_false_iff_not] at h
 exact ⟨lq h.1.1.1.1.1.1,by omega,pT h.1.2,by omega,qR h.2⟩
end Go.Mat

namespace Go.Mat
open Go Go.Den Go.Proofs
def grX (bk T S M Q F:U):Bool:=mN bk T S M Q || decide ((F.list.length:Int) > 20000) || decide (((ai (.i (-1)) T.list ++ ad 0 S.list).length:Int) > 400)
def grS:List (List U)→List (List U):=fun us=>match us with
 | [[c,z,s,T,Sh,M,Q],[F]]=>[[.b (grX s T Sh M Q F)]]
 | _=>[]
noncomputable def grC:Ctx:=mkC PR bM (aH 11 ye (aV 12 gQ oY aK)) aL aC aq aq
theorem Gl (R:RF) (c z s T Sh M Q F:U):(run grC Tryz.f4 [[c,z,s,T,Sh,M,Q],[F]] R)=(bif mN s T Sh M Q then R [[U.b true]] else bif decide ((↑(List.length F.list):Int) > 20000) then R [[U.b true]] else gQ [[c,z,s,T,Sh,M,Q]]∧R [[U.b (decide ((↑(List.length (ai (U.i
 (-1:Int)) T.list ++ ad 0 Sh.list)):Int) > 400))]]):=by kernel_rfl
end Go.Mat

namespace Go.Mat
open Go Go.Den Go.Proofs
set_option maxRecDepth 100000
theorem nN:∀ {S:List U},(∀ s,s ∈ S→(e2 s).list.length≤65536)→bb S=true
 | [],_=>rfl
 | x :: r,h=>by
  have:=h x (List.mem_cons_self ..)
  rw [bb,nN fun s hs=>h s (List.mem_cons_of_mem _ hs),decide_eq_true this];rfl
theorem IZ:bB PR 4 grS:=fun fn us hfn=>by
 have hf:PR.funcs[(4:Nat)]? = some Tryz.f4:=by kernel_rfl
 rw [hf] at hfn;cases hfn
 refine aM (C:=grC) (aB ao af (.cons CJ (.consP pf .nil)) .nil) hf (by kernel_rfl) (aI (by kernel_rfl)) fun hok=>?_
 have hp:Tryz.f4.params.toList=[29,30]:=by kernel_rfl
 rw [hp] at hok
 obtain ⟨u,u2,rfl,h1,h2⟩:=bR (by kernel_rfl:Cs PR 29=some (true,[.int .i64,.int .i64,.str,.sl false [.sl true EC],.sl true SC,.sl true BC,.sl false [.int .i64]])) (by kernel_rfl:Cs PR 30=some (false,[.sl false [.int .u8]])) hok.1
 obtain ⟨c,z,s,T,Sh,M,Q,rfl⟩:∃ a b c d e f g,u=[a,b,c,d,e,f,g]:=match u,h1 with | [a,b,c,d,e,f,g],_=>⟨a,b,c,d,e,f,g,rfl⟩
 obtain ⟨F,rfl⟩:=bG h2
 clear hok h1 h2
 refine .eq (Gl _ c z s T Sh M Q F) ?_
 rw [show grS [[c,z,s,T,Sh,M,Q],[F]]=[[.b (grX s T Sh M Q F)]] from rfl]
 unfold grX
 refine bi (fun h=>by rw [h];rfl) (fun h=>bi (fun h2=>by rw [h,h2];rfl) (fun h2=>⟨?_,by rw [h,h2];rfl⟩))
 obtain ⟨g1,g2,g3,_,_⟩:=m0 h
 exact ⟨show T.list.length≤65536 by omega,show Sh.list.length≤1000 by omega,nN fun s hs=>by have:=g3 s hs;omega⟩
end Go.Mat

namespace Go.Mat
open Go Go.Den Go.Proofs
noncomputable def xk (t:TypeId):Option (List IntKind):=bif Nat.beq t 67 then some [.i64,.i64] else bM t
def gS:List U→List U→Bool
 | [],[]=>true
 | x :: r,y :: s=>(x.int == y.int) && gS r s
 | _,_=>false
def Cu (x y:U):Bool:=(e0 x).int == (e0 y).int && ((e1 x).int == (e1 y).int && true)
def eK:List U→List U→Bool
 | [],[]=>true
 | x :: r,y :: s=>Cu x y && eK r s
 | _,_=>false
def Ig (x y:U):Bool:=(e0 x).int == (e0 y).int && ((e1 x).int == (e1 y).int && ((e2 x).int == (e2 y).int && ((e3 x).int == (e3 y).int && ((e4 x).int == (e4 y).int && true))))
def jM:List U→List U→Bool
 | [],[]=>true
 | x :: r,y :: s=>Ig x y && jM r s
 | _,_=>false
def fF:List U→List U→Bool
 | [],[]=>true
 | x :: r,y :: s=>jM x.list y.list && fF r s
 | _,_=>false
def E9 (x y:U):Bool:=((e0 x).str.toList == (e0 y).str.toList) && ((e1 x).bool == (e1 y).bool) && eK (e2 x).list (e2 y).list
def fH:List U→List U→Bool
 | [],[]=>true
 | x :: r,y :: s=>E9 x y && fH r s
 | _,_=>false
def gi (f:List U→List U→Bool):List (List U)→List (List U):=fun us=>[[.b (f (nth (.i 0) (nth [] us 0) 0).list (nth (.i 0) (nth [] us 1) 0).list)]]
noncomputable def mC:aS:=fun _ svs _ k=>match svs with
 | [.val (.int .i64) i,.val (.sl false [.int .i64]) a,.val (.sl false [.int .i64]) b]=>
  (a.list.length=b.list.length∧0≤i.int∧i.int≤a.list.length)∧
  (bif gS (a.list.drop i.int.toNat) (b.list.drop i.int.toNat) then k (.exit 0) ⟨[(4,.unk)],[]⟩ else k .ret ⟨[(4,vb (.b false))],[]⟩)
 | _=>False
noncomputable def zt:Ctx:=mkC PR xk aK aL (aw 0 [5,0,1] [] mC aC) (an 0 [4] [] aq) aq
theorem xq (pan:KP) (μ:Mu) (N:Nat) (k:KE) (i a b:U) {c d e} (_:c=(IntKind.wrap IntKind.i64 (i.int + 1)):=by rfl) (_:d=(St.mk [(4,SV.val Ct.bool (U.b false))] []):=by rfl) (_:e=(List.length a.list):=by rfl): (exec (zt.panics pan) (aa Tryz.f32 0) 0 ⟨[(5,vi i),(0,vl (.int .i64) a),(1,vl (.int .i64) b)],[]⟩ (again PR (some ([4],[])) none pan [5,0,1] [] mC μ N k))=(bif decide (i.int < (↑e:Int)) then bif decide ((0:Int)≤i.int∧i.int < (↑e:Int)) then bif decide ((0:Int)≤i.int∧i.int < (↑(List.length b.list):Int)) then bif U.int (nth (U.i 0) a.list (Int.toNat i.int)) != U.int (nth (U.i 0) b.list (Int.toNat i.int)) then k Ex.ret d else bif Nat.blt (μ [vi (U.i c),SV.val (Ct.sl false [.int .i64]) a,SV.val (Ct.sl false [.int .i64]) b] []) N then (List.length a.list=List.length b.list∧(0:Int)≤IntKind.wrap IntKind.i64 (i.int + 1)∧IntKind.wrap IntKind.i64 (i.int + 1)≤(↑e:Int))∧bif gS (List.drop (Int.toNat c) a.list) (List.drop (Int.toNat c) b.list) then k (Ex.exit 0) (St.mk [(4,SV.unk)] []) else k Ex.ret d else False else False else False else k (Ex.exit 0) (St.mk [(4,SV.unk)] [])):=by subst_vars;kernel_rfl
theorem BA (R:RF) (a b:U):(run zt Tryz.f32 [[a],[b]] R)=(bif (↑(List.length a.list):Int) != (↑(List.length b.list):Int) then R [[U.b false]] else (List.length a.list=List.length b.list∧(0:Int)≤0∧(0:Int)≤(↑(List.length a.list):Int))∧bif
 gS (List.drop (Int.toNat 0) a.list) (List.drop (Int.toNat 0) b.list) then R [[U.b true]] else R [[U.b false]]):=by kernel_rfl
noncomputable def oQ:aS:=fun _ svs _ k=>match svs with
 | [.val (.int .i64) i,.val (.sl true ca) a,.val (.sl true cb) b]=>
  (ca=SpC∧cb=SpC∧a.list.length=b.list.length∧0≤i.int∧i.int≤a.list.length)∧
  (bif eK (a.list.drop i.int.toNat) (b.list.drop i.int.toNat) then k (.exit 0) ⟨[(4,.unk)],[]⟩ else k .ret ⟨[(4,vb (.b false))],[]⟩)
 | _=>False
noncomputable def E8:Ctx:=mkC PR xk aK aL (aw 0 [5,0,1] [] oQ aC) (an 0 [4] [] aq) aq
theorem Bc (pan:KP) (μ:Mu) (N:Nat) (k:KE) (i a b:U) {c d e f g} (_:c=(IntKind.wrap .i64 (i.int + 1)):=by rfl) (_:d=(U.list (nth (.i 0) a.list i.int.toNat)):=by rfl) (_:e=(U.list (nth (.i 0) b.list i.int.toNat)):=by rfl) (_:f=(St.mk [(4,.val .bool (U.b false))] []):=by rfl) (_:g=(a.list.length:Int):=by rfl): (exec (E8.panics pan) (aa Tryz.f57 0) 0 ⟨[(5,vi i),(0,vt SpC a),(1,vt SpC b)],[]⟩ (again PR (some ([4],[])) none pan [5,0,1] [] oQ μ N k))=(bif decide (i.int < g) then bif decide ((0:Int)≤i.int∧i.int < g) then bif decide ((0:Int)≤i.int∧i.int < (b.list.length:Int)) then bif !(U.int (nth (.i 0) d 0) == U.int (nth (.i 0) e 0) && (U.int (nth (.i 0) (List.tail d) 0) == U.int (nth (.i 0) (List.tail e) 0) && true)) then k Ex.ret f else bif Nat.blt (μ [vi (U.i c),.val (.sl true SpC) a,.val (.sl true SpC) b] []) N then (SpC=SpC∧SpC=SpC∧a.list.length=b.list.length∧(0:Int)≤IntKind.wrap .i64 (i.int + 1)∧IntKind.wrap .i64 (i.int + 1)≤g)∧bif eK (List.drop (Int.toNat c) a.list) (List.drop (Int.toNat c) b.list) then k (Ex.exit 0) (St.mk [(4,.unk)] []) else k Ex.ret f else False else False else False else k (Ex.exit 0) (St.mk [(4,.unk)] [])):=by subst_vars;kernel_rfl
theorem Dt (R:RF) (a b:U):(run E8 Tryz.f57 [[a],[b]] R)=(bif (↑(List.length a.list):Int) != (↑(List.length b.list):Int) then R [[U.b false]] else (SpC=SpC∧SpC=SpC∧List.length a.list=List.length b.list∧(0:Int)≤0∧(0:Int)≤(↑(List.length
 a.list):Int))∧bif eK (List.drop (Int.toNat 0) a.list) (List.drop (Int.toNat 0) b.list) then R [[U.b true]] else R [[U.b false]]):=by kernel_rfl
noncomputable def oP:aS:=fun _ svs _ k=>match svs with
 | [.val (.int .i64) i,.val (.sl true ca) a,.val (.sl true cb) b]=>
  (ca=BC∧cb=BC∧a.list.length=b.list.length∧0≤i.int∧i.int≤a.list.length)∧
  (bif fH (a.list.drop i.int.toNat) (b.list.drop i.int.toNat) then k (.exit 0) ⟨[(4,.unk)],[]⟩ else k .ret ⟨[(4,vb (.b false))],[]⟩)
 | _=>False
noncomputable def FP:Ctx:=mkC PR xk (aH 57 (gi eK) aK) aL (aw 0 [5,0,1] [] oP aC) (an 0 [4] [] aq) aq
theorem zS (pan:KP) (μ:Mu) (N:Nat) (k:KE) (i a b:U) {c d e f g h} (_:c=(St.mk [(4,.val .bool (U.b false))] []):=by rfl) (_:d=(U.list (nth (.i 0) a.list i.int.toNat)):=by rfl) (_:e=(U.list (nth (.i 0) b.list i.int.toNat)):=by rfl) (_:f=(a.list.length:Int):=by rfl) (_:g=(IntKind.wrap .i64 (i.int + 1)):=by rfl) (_:h=(b.list.length:Int):=by rfl): (exec (FP.panics pan) (aa Tryz.f31 0) 0 ⟨[(5,vi i),(0,vt BC a),(1,vt BC b)],[]⟩ (again PR (some ([4],[])) none pan [5,0,1] [] oP μ N k))=(bif decide (i.int < f) then bif decide ((0:Int)≤i.int∧i.int < f) then bif decide ((0:Int)≤i.int∧i.int < h) then bif !ByteArray.toList (U.str (nth (.i 0) (List.drop (0:Nat) d) 0)) == ByteArray.toList (U.str (nth (.i 0) (List.drop (0:Nat) e) 0)) then k Ex.ret c else bif decide ((0:Int)≤i.int∧i.int < f) then bif decide ((0:Int)≤i.int∧i.int < h) then bif !U.bool (nth (.i 0) (List.drop (1:Nat) d) 0) == U.bool (nth (.i 0) (List.drop (1:Nat) e) 0) then k Ex.ret c else bif decide ((0:Int)≤i.int∧i.int < f) then bif decide ((0:Int)≤i.int∧i.int < h) then bif !eK (U.list (nth (.i 0) (List.drop (2:Nat) d) 0)) (U.list (nth (.i 0) (List.drop (2:Nat) e) 0)) then k Ex.ret c else bif Nat.blt (μ [vi (U.i g),.val (.sl true [Ct.str,Ct.bool,Ct.sl true SpC]) a,SV.val (Ct.sl true [Ct.str,Ct.bool,Ct.sl true SpC]) b] []) N then ([Ct.str,Ct.bool,Ct.sl true SpC]=[.str,Ct.bool,Ct.sl true SpC]∧[Ct.str,Ct.bool,Ct.sl true SpC]=[.str,Ct.bool,Ct.sl true SpC]∧a.list.length=b.list.length∧(0:Int)≤IntKind.wrap .i64 (i.int + 1)∧IntKind.wrap .i64 (i.int + 1)≤f)∧bif fH (List.drop (Int.toNat g) a.list) (List.drop (Int.toNat g) b.list) then k (Ex.exit 0) (St.mk [(4,.unk)] []) else k Ex.ret c else False else False else False else False else False else False else False else k (Ex.exit 0) (St.mk [(4,.unk)] [])):=by subst_vars;kernel_rfl
theorem C0 (R:RF) (a b:U):(run FP Tryz.f31 [[a],[b]] R)=(bif (↑(List.length a.list):Int) != (↑(List.length b.list):Int) then R [[U.b false]] else ([Ct.str,Ct.bool,Ct.sl true SpC]=[Ct.str,Ct.bool,Ct.sl true SpC]∧[Ct.str,Ct.bool,Ct.sl true SpC] =
 [Ct.str,Ct.bool,Ct.sl true SpC]∧List.length a.list=List.length b.list∧(0:Int)≤0∧(0:Int)≤(↑(List.length a.list):Int))∧bif fH (List.drop (Int.toNat 0) a.list) (List.drop (Int.toNat
 0) b.list) then R [[U.b true]] else R [[U.b false]]):=by kernel_rfl
noncomputable def kS:aS:=fun _ svs os k=>match svs,os with
 | [.val (.int .i64) j,.val (.int .i64) i,.ptr p o,.ptr p' o'],[.box [.val (.sl false [.sl true ca]) a],.box [.val (.sl false [.sl true cb]) b]]=>
  (p=256∧o=0∧p' = 384∧o' = 0∧ca=EC∧cb=EC∧0≤i.int∧i.int < a.list.length∧i.int < b.list.length∧(U.at a.list i.int.toNat).list.length=(U.at b.list i.int.toNat).list.length∧0≤j.int∧j.int≤(U.at a.list i.int.toNat).list.length)∧
  (bif jM ((U.at a.list i.int.toNat).list.drop j.int.toNat) ((U.at b.list i.int.toNat).list.drop j.int.toNat) then k (.exit 2) ⟨[(5,vi i),(2,.ptr 256 0),(3,.ptr 384 0)],[(256,.box [vl (.sl true EC) a]),(384,.box [vl (.sl true EC) b])]⟩ else k .ret ⟨[(4,vb (.b false))],[]⟩)
 | _,_=>False
noncomputable def kX:aS:=fun _ svs os k=>match svs,os with
 | [.val (.int .i64) i,.ptr p o,.ptr p' o'],[.box [.val (.sl false [.sl true ca]) a],.box [.val (.sl false [.sl true cb]) b]]=>
  (p=256∧o=0∧p' = 384∧o' = 0∧ca=EC∧cb=EC∧a.list.length=b.list.length∧0≤i.int∧i.int≤a.list.length)∧
  (bif fF (a.list.drop i.int.toNat) (b.list.drop i.int.toNat) then k (.exit 0) ⟨[(4,.unk)],[]⟩ else k .ret ⟨[(4,vb (.b false))],[]⟩)
 | _,_=>False
noncomputable def rA:Ctx:=mkC PR xk aK aL (aw 2 [6,5,2,3] [256,384] kS (aw 0 [5,2,3] [256,384] kX aC)) (an 2 [5,2,3] [256,384] (an 0 [4] [] (an 1048578 [4] [] aq))) aq
theorem vg (pan:KP) (μ:Mu) (N:Nat) (k:KE) (j i a b:U) {c g d e o f h l m n} (_:c=(U.list (nth (.i 0) a.list i.int.toNat)):=by rfl) (_:g=(U.list (nth (.i 0) b.list i.int.toNat)):=by rfl) (_:d=(U.list (nth (.i 0) g j.int.toNat)):=by rfl) (_:e=(St.mk [(5,vi i),(2,.ptr 256 0),(3,.ptr 384 0)] [(256,.box [.val (.sl false [.sl true EC]) a]),(384,.box [.val (.sl false [.sl true EC]) b])]):=by rfl) (_:o=(U.list (nth (.i 0) c j.int.toNat)):=by rfl) (_:f=(List.tail o):=by rfl) (_:h=(IntKind.wrap .i64 (j.int + 1)):=by rfl) (_:l=(List.tail (List.tail d)):=by rfl) (_:m=(St.mk [(4,.val .bool (U.b false))] []):=by rfl) (_:n=(a.list.length:Int):=by rfl): (exec (rA.panics pan) (aa Tryz.f30 1) 2 ⟨[(6,vi j),(5,vi i),(2,.ptr 256 0),(3,.ptr 384 0)],[(256,.box [vl (.sl true EC) a]),(384,.box [vl (.sl true EC) b])]⟩ (again PR (some ([5,2,3],[256,384])) (some ([4],[])) pan [6,5,2,3] [256,384] kS μ N k))=(bif decide ((0:Int)≤i.int∧i.int < n) then bif decide (j.int < (↑(List.length c):Int)) then bif decide ((0:Int)≤i.int∧i.int < n) then bif decide ((0:Int)≤j.int∧j.int < (↑(List.length c):Int)) then bif decide ((0:Int)≤i.int∧i.int < (b.list.length:Int)) then bif decide ((0:Int)≤j.int∧j.int < (↑(List.length g):Int)) then bif !(U.int (nth (.i 0) o 0) == U.int (nth (.i 0) d 0) && (U.int (nth (.i 0) f 0) == U.int (nth (.i 0) (List.tail d) 0) && (U.int (nth (.i 0) (List.tail f) 0) == U.int (nth (.i 0) l 0) && (U.int (nth (.i 0) (List.tail (List.tail f)) 0) == U.int (nth (.i 0) (List.tail l) 0) && (U.int (nth (.i 0) (List.tail (List.tail (List.tail f))) 0) == U.int (nth (.i 0) (List.tail (List.tail l)) 0) && true))))) then k Ex.ret m else bif Nat.blt (μ [vi (U.i h),vi i,.ptr 256 0,.ptr 384 0] [.box [.val (.sl false [.sl true EC]) a],.box [.val (.sl false [.sl true EC]) b]]) N then (256=256∧0=0∧384=384∧0=0∧EC=EC∧EC=EC∧(0:Int)≤i.int∧i.int < n∧i.int < (b.list.length:Int)∧List.length c=List.length g∧(0:Int)≤IntKind.wrap .i64 (j.int + 1)∧IntKind.wrap .i64 (j.int + 1)≤(↑(List.length c):Int))∧bif jM (List.drop (Int.toNat h) c) (List.drop (Int.toNat h) g) then k (Ex.exit 2) e else k Ex.ret m else False else False else False else False else False else k (Ex.exit 2) e else False):=by subst_vars;kernel_rfl
theorem wy (pan:KP) (μ:Mu) (N:Nat) (k:KE) (i a b:U) {c d e f g} (_:c=(U.list (nth (.i 0) a.list i.int.toNat)):=by rfl) (_:d=(U.list (nth (.i 0) b.list i.int.toNat)):=by rfl) (_:e=(St.mk [(4,.val .bool (U.b false))] []):=by rfl) (_:f=(IntKind.wrap .i64 (i.int + 1)):=by rfl) (_:g=(a.list.length:Int):=by rfl): (exec (rA.panics pan) (aa Tryz.f30 0) 0 ⟨[(5,vi i),(2,.ptr 256 0),(3,.ptr 384 0)],[(256,.box [vl (.sl true EC) a]),(384,.box [vl (.sl true EC) b])]⟩ (again PR (some ([4],[])) none pan [5,2,3] [256,384] kX μ N k))=(bif decide (i.int < g) then bif decide ((0:Int)≤i.int∧i.int < g) then bif decide ((0:Int)≤i.int∧i.int < (b.list.length:Int)) then bif (↑(List.length c):Int) != (↑(List.length d):Int) then k Ex.ret e else (256=256∧0=0∧384=384∧0=0∧EC=EC∧EC=EC∧(0:Int)≤i.int∧i.int < g∧i.int < (b.list.length:Int)∧List.length c=List.length d∧(0:Int)≤0∧(0:Int)≤(↑(List.length c):Int))∧bif jM (List.drop (Int.toNat 0) c) (List.drop (Int.toNat 0) d) then bif Nat.blt (μ [vi (U.i f),.ptr 256 0,.ptr 384 0] [.box [.val (.sl false [.sl true EC]) a],.box [.val (.sl false [.sl true EC]) b]]) N then (256=256∧0=0∧384=384∧0=0∧EC=EC∧EC=EC∧a.list.length=b.list.length∧(0:Int)≤IntKind.wrap .i64 (i.int + 1)∧IntKind.wrap .i64 (i.int + 1)≤g)∧bif fF (List.drop (Int.toNat f) a.list) (List.drop (Int.toNat f) b.list) then k (Ex.exit 0) (St.mk [(4,.unk)] []) else k Ex.ret e else False else k Ex.ret e else False else False else k (Ex.exit 0) (St.mk [(4,.unk)] [])):=by subst_vars;kernel_rfl
theorem Ba (R:RF) (a b:U):(run rA Tryz.f30 [[a],[b]] R)=(bif (↑(List.length a.list):Int) != (↑(List.length b.list):Int) then R [[U.b false]] else (256=nat_lit 256∧nat_lit 0=nat_lit 0∧nat_lit 384=nat_lit 384∧nat_lit 0=nat_lit 0∧EC=EC∧EC
 = EC∧List.length a.list=List.length b.list∧(0:Int)≤0∧(0:Int)≤(↑(List.length a.list):Int))∧bif fF (List.drop (Int.toNat 0) a.list) (List.drop (Int.toNat 0) b.list) then R [[U.b true]]
 else R [[U.b false]]):=by kernel_rfl
end Go.Mat

namespace Go.Mat
open Go Go.Den Go.Proofs
theorem mS:∀ t ks,xk t=some ks→xF PR t ks:=by
 intro t ks h
 unfold xk at h
 cases hb:Nat.beq t 67 with
 | true=>
  rw [hb] at h
  have:=Nat.eq_of_beq_eq_true hb
  subst this
  injection h with h
  subst h
  exact yO (by kernel_rfl)
 | false=>rw [hb] at h;exact ao t ks h
theorem ry:∀ {a b:List U},gS a b=true→a.length=b.length
 | [],[],_=>rfl
 | [],_ :: _,h=>by cases h
 | _ :: _,[],h=>by cases h
 | x :: r,y :: s,h=>by
  rw [gS,Bool.and_eq_true] at h
  rw [List.length_cons,List.length_cons,ry h.2]
theorem Ew {a b:List U} (h:a.length≠b.length):gS a b=false:=Bool.eq_false_iff.2 fun h'=>h (ry h')
theorem qe:∀ {a b:List U},eK a b=true→a.length=b.length
 | [],[],_=>rfl
 | [],_ :: _,h=>by cases h
 | _ :: _,[],h=>by cases h
 | x :: r,y :: s,h=>by
  rw [eK,Bool.and_eq_true] at h
  rw [List.length_cons,List.length_cons,qe h.2]
theorem Ax {a b:List U} (h:a.length≠b.length):eK a b=false:=Bool.eq_false_iff.2 fun h'=>h (qe h')
theorem rP:∀ {a b:List U},fH a b=true→a.length=b.length
 | [],[],_=>rfl
 | [],_ :: _,h=>by cases h
 | _ :: _,[],h=>by cases h
 | x :: r,y :: s,h=>by
  rw [fH,Bool.and_eq_true] at h
  rw [List.length_cons,List.length_cons,rP h.2]
theorem Ek {a b:List U} (h:a.length≠b.length):fH a b=false:=Bool.eq_false_iff.2 fun h'=>h (rP h')
theorem vh:∀ {a b:List U},fF a b=true→a.length=b.length
 | [],[],_=>rfl
 | [],_ :: _,h=>by cases h
 | _ :: _,[],h=>by cases h
 | x :: r,y :: s,h=>by
  rw [fF,Bool.and_eq_true] at h
  rw [List.length_cons,List.length_cons,vh h.2]
theorem FZ {a b:List U} (h:a.length≠b.length):fF a b=false:=Bool.eq_false_iff.2 fun h'=>h (vh h')
theorem rC:∀ {a b:List U},jM a b=true→a.length=b.length
 | [],[],_=>rfl
 | [],_ :: _,h=>by cases h
 | _ :: _,[],h=>by cases h
 | x :: r,y :: s,h=>by
  rw [jM,Bool.and_eq_true] at h
  rw [List.length_cons,List.length_cons,rC h.2]
theorem EV {a b:List U} (h:a.length≠b.length):jM a b=false:=Bool.eq_false_iff.2 fun h'=>h (rC h')
theorem Bv:aE zt 0 (aa Tryz.f32 0):=by
 refine al (F:=mC) (ts:=[5,0,1]) (os:=[]) rfl (fun svs _=>match svs with | .val _ i :: .val _ a :: _=>((a.list.length:Int) - i.int).toNat | _=>0) ?_
 intro pan svs os k ho1 ho2 h
 unfold mC at h
 split at h
 ·rename_i i a b
  obtain ⟨⟨hl,h0,hi⟩,hk⟩:=h
  have hL:a.list.length≤maxLen:=ho1.2.1.1
  unfold maxLen at hL
  refine .eq (xq pan _ _ k i a b) ?_
  refine bd (fun hlt=>dt ⟨h0,by omega⟩ (dt ⟨h0,by omega⟩ ?_)) (fun hlt=>?_)
  ·rw [aN (by omega),aN (L:=b.list) (by omega),gS] at hk
   simp only [U.at] at hk
   have hw:IntKind.wrap .i64 (i.int + 1)=i.int + 1:=i64_in (by omega) (by omega)
   have hc:(i.int + 1).toNat=i.int.toNat + 1:=by omega
   have hlt':((a.list.length:Int) - (i.int + 1)).toNat < ((a.list.length:Int) - i.int).toNat:=by omega
   simp only [aD,bW,Nat.zero_add,Nat.add_zero,Nat.reduceAdd,hw,hc]
   refine bi (fun h1=>?_) (fun h1=>?_)
   ·rw [nt h1,Bool.false_and] at hk;exact hk
   ·rw [nf h1,Bool.true_and] at hk
    exact blt hlt' ⟨⟨hl,by omega,by omega⟩,hk⟩
  ·rw [List.drop_of_length_le (by omega),List.drop_of_length_le (by omega),gS] at hk
   exact hk
 ·exact h.elim
theorem CD:aE E8 0 (aa Tryz.f57 0):=by
 refine al (F:=oQ) (ts:=[5,0,1]) (os:=[]) rfl (fun svs _=>match svs with | .val _ i :: .val _ a :: _=>((a.list.length:Int) - i.int).toNat | _=>0) ?_
 intro pan svs os k ho1 ho2 h
 unfold oQ at h
 split at h
 ·rename_i i ca a cb b
  obtain ⟨⟨rfl,rfl,hl,h0,hi⟩,hk⟩:=h
  have hL:a.list.length≤maxLen:=ho1.2.1.1
  unfold maxLen at hL
  refine .eq (Bc pan _ _ k i a b) ?_
  refine bd (fun hlt=>dt ⟨h0,by omega⟩ (dt ⟨h0,by omega⟩ ?_)) (fun hlt=>?_)
  ·rw [aN (by omega),aN (L:=b.list) (by omega),eK] at hk
   simp only [U.at,Cu,e0,e1] at hk
   have hw:IntKind.wrap .i64 (i.int + 1)=i.int + 1:=i64_in (by omega) (by omega)
   have hc:(i.int + 1).toNat=i.int.toNat + 1:=by omega
   have hlt':((a.list.length:Int) - (i.int + 1)).toNat < ((a.list.length:Int) - i.int).toNat:=by omega
   simp only [aD,bW,Nat.zero_add,Nat.add_zero,Nat.reduceAdd,hw,hc]
   refine bi (fun h1=>?_) (fun h1=>?_)
   ·rw [nt h1,Bool.false_and] at hk;exact hk
   ·rw [nf h1,Bool.true_and] at hk
    exact blt hlt' ⟨⟨by trivial,by trivial,hl,by omega,by omega⟩,hk⟩
  ·rw [List.drop_of_length_le (by omega),List.drop_of_length_le (by omega),eK] at hk
   exact hk
 ·exact h.elim
theorem CU:aE FP 0 (aa Tryz.f31 0):=by
 refine al (F:=oP) (ts:=[5,0,1]) (os:=[]) rfl (fun svs _=>match svs with | .val _ i :: .val _ a :: _=>((a.list.length:Int) - i.int).toNat | _=>0) ?_
 intro pan svs os k ho1 ho2 h
 unfold oP at h
 split at h
 ·rename_i i ca a cb b
  obtain ⟨⟨rfl,rfl,hl,h0,hi⟩,hk⟩:=h
  have hL:a.list.length≤maxLen:=ho1.2.1.1
  unfold maxLen at hL
  refine .eq (zS pan _ _ k i a b) ?_
  refine bd (fun hlt=>dt ⟨h0,by omega⟩ (dt ⟨h0,by omega⟩ ?_)) (fun hlt=>?_)
  ·rw [aN (by omega),aN (L:=b.list) (by omega),fH] at hk
   simp only [U.at,E9,e0,e1,e2] at hk
   have hw:IntKind.wrap .i64 (i.int + 1)=i.int + 1:=i64_in (by omega) (by omega)
   have hc:(i.int + 1).toNat=i.int.toNat + 1:=by omega
   have hlt':((a.list.length:Int) - (i.int + 1)).toNat < ((a.list.length:Int) - i.int).toNat:=by omega
   simp only [aD,bW,Nat.zero_add,Nat.add_zero,Nat.reduceAdd,hw,hc]
   refine bi (fun h1=>?_) (fun h1=>dt ⟨h0,by omega⟩ (dt ⟨h0,by omega⟩ (bi (fun h2=>?_) (fun h2=>dt ⟨h0,by omega⟩ (dt ⟨h0,by omega⟩ (bi (fun h3=>?_) (fun h3=>?_)))))))
   ·rw [nt h1,Bool.false_and,Bool.false_and,Bool.false_and] at hk;exact hk
   ·rw [nf h1,nt h2,Bool.true_and,Bool.false_and,Bool.false_and] at hk;exact hk
   ·rw [nf h1,nf h2,nt h3,Bool.true_and,Bool.true_and,Bool.false_and] at hk;exact hk
   ·rw [nf h1,nf h2,nf h3,Bool.true_and,Bool.true_and,Bool.true_and] at hk
    exact blt hlt' ⟨⟨by trivial,by trivial,hl,by omega,by omega⟩,hk⟩
  ·rw [List.drop_of_length_le (by omega),List.drop_of_length_le (by omega),fH] at hk
   exact hk
 ·exact h.elim
theorem Gh:bB PR 32 (gi gS):=fun fn us hfn=>by
 have hf:PR.funcs[(32:Nat)]? = some Tryz.f32:=by kernel_rfl
 rw [hf] at hfn;cases hfn
 refine aM (C:=zt) (aB mS af .nil .nil) hf (by kernel_rfl) (aW (by kernel_rfl) Bv) fun hok=>?_
 have hp:Tryz.f32.params.toList=[27,27]:=by kernel_rfl
 rw [hp] at hok
 obtain ⟨a,b,hus⟩:∃ a b,us=[[a],[b]]:=by
  obtain ⟨u,u2,rfl,h1,h2⟩:=bR (by kernel_rfl:Cs PR 27=some (false,[.sl false [.int .i64]])) (by kernel_rfl:Cs PR 27=some (false,[.sl false [.int .i64]])) hok.1
  obtain ⟨a,rfl⟩:=bG h1
  obtain ⟨b,rfl⟩:=bG h2
  exact ⟨a,b,rfl⟩
 subst hus
 refine .eq (BA _ a b) ?_
 unfold gi
 simp only [bo,aZ,Int.toNat_zero,List.drop_zero]
 refine bi (fun h=>?_) (fun h=>⟨⟨?_,by omega,by omega⟩,bi (fun h1=>by rw [h1]) (fun h1=>by rw [h1])⟩)
 ·have h:=nt h
  rw [Ew (by intro h2;rw [h2] at h;simp at h)]
 ·have h:=nf h
  simp only [beq_iff_eq] at h
  omega
theorem IP:bB PR 57 (gi eK):=fun fn us hfn=>by
 have hf:PR.funcs[(57:Nat)]? = some Tryz.f57:=by kernel_rfl
 rw [hf] at hfn;cases hfn
 refine aM (C:=E8) (aB mS af .nil .nil) hf (by kernel_rfl) (aW (by kernel_rfl) CD) fun hok=>?_
 have hp:Tryz.f57.params.toList=[62,62]:=by kernel_rfl
 rw [hp] at hok
 obtain ⟨a,b,hus⟩:∃ a b,us=[[a],[b]]:=by
  obtain ⟨u,u2,rfl,h1,h2⟩:=bR (by kernel_rfl:Cs PR 62=some (false,[.sl true [.int .i64,.int .i64]])) (by kernel_rfl:Cs PR 62=some (false,[.sl true [.int .i64,.int .i64]])) hok.1
  obtain ⟨a,rfl⟩:=bG h1
  obtain ⟨b,rfl⟩:=bG h2
  exact ⟨a,b,rfl⟩
 subst hus
 refine .eq (Dt _ a b) ?_
 unfold gi
 simp only [bo,aZ,Int.toNat_zero,List.drop_zero]
 refine bi (fun h=>?_) (fun h=>⟨⟨by trivial,by trivial,?_,by omega,by omega⟩,bi (fun h1=>by rw [h1]) (fun h1=>by rw [h1])⟩)
 ·have h:=nt h
  rw [Ax (by intro h2;rw [h2] at h;simp at h)]
 ·have h:=nf h
  simp only [beq_iff_eq] at h
  omega
theorem HB:bB PR 31 (gi fH):=fun fn us hfn=>by
 have hf:PR.funcs[(31:Nat)]? = some Tryz.f31:=by kernel_rfl
 rw [hf] at hfn;cases hfn
 refine aM (C:=FP) (aB mS af (.cons IP .nil) .nil) hf (by kernel_rfl) (aW (by kernel_rfl) CU) fun hok=>?_
 have hp:Tryz.f31.params.toList=[26,26]:=by kernel_rfl
 rw [hp] at hok
 obtain ⟨a,b,hus⟩:∃ a b,us=[[a],[b]]:=by
  obtain ⟨u,u2,rfl,h1,h2⟩:=bR (by kernel_rfl:Cs PR 26=some (false,[.sl true BC])) (by kernel_rfl:Cs PR 26=some (false,[.sl true BC])) hok.1
  obtain ⟨a,rfl⟩:=bG h1
  obtain ⟨b,rfl⟩:=bG h2
  exact ⟨a,b,rfl⟩
 subst hus
 refine .eq (C0 _ a b) ?_
 unfold gi
 simp only [bo,aZ,Int.toNat_zero,List.drop_zero]
 refine bi (fun h=>?_) (fun h=>⟨⟨by trivial,by trivial,?_,by omega,by omega⟩,bi (fun h1=>by rw [h1]) (fun h1=>by rw [h1])⟩)
 ·have h:=nt h
  rw [Ek (by intro h2;rw [h2] at h;simp at h)]
 ·have h:=nf h
  simp only [beq_iff_eq] at h
  omega
theorem xZ:aE rA 2 (aa Tryz.f30 1):=by
 refine al (F:=kS) (ts:=[6,5,2,3]) (os:=[256,384]) rfl (fun svs os=>match svs,os with | .val _ j :: .val _ i :: _,.box [.val _ a] :: _=>(((U.at a.list i.int.toNat).list.length:Int) - j.int).toNat | _,_=>0) ?_
 intro pan svs os k ho1 ho2 h
 unfold kS at h
 split at h
 ·rename_i j i p o p' o' ca a cb b
  obtain ⟨⟨rfl,rfl,rfl,rfl,rfl,rfl,hi0,hia,hib,hl,h0,hj⟩,hk⟩:=h
  have ha:okC (.sl false [.sl true EC]) a:=ho2.1.1
  have hL:(U.at a.list i.int.toNat).list.length≤maxLen:=by
   have h1:=(ha.2 i.int.toNat (by omega)).1
   exact h1.1
  unfold maxLen at hL
  refine .eq (vg pan _ _ k j i a b) ?_
  simp only [U.at] at hl hj hL hk
  refine dt ⟨hi0,hia⟩ (bd (fun hlt=>dt ⟨hi0,hia⟩ (dt ⟨h0,hlt⟩ (dt ⟨hi0,hib⟩ (dt ⟨h0,by omega⟩ ?_)))) (fun hlt=>?_))
  ·rw [aN (by omega),aN (L:=(nth (U.i 0) b.list i.int.toNat).list) (by omega),jM] at hk
   simp only [U.at,Ig,e0,e1,e2,e3,e4] at hk
   have hw:IntKind.wrap .i64 (j.int + 1)=j.int + 1:=i64_in (by omega) (by omega)
   have hc:(j.int + 1).toNat=j.int.toNat + 1:=by omega
   have hlt':(((nth (U.i 0) a.list i.int.toNat).list.length:Int) - (j.int + 1)).toNat < (((nth (U.i 0) a.list i.int.toNat).list.length:Int) - j.int).toNat:=by omega
   simp only [aD,bW,Nat.zero_add,Nat.add_zero,Nat.reduceAdd,hw,hc]
   refine bi (fun h1=>?_) (fun h1=>?_)
   ·rw [nt h1,Bool.false_and] at hk;exact hk
   ·rw [nf h1,Bool.true_and] at hk
    exact blt hlt' ⟨⟨by trivial,by trivial,by trivial,by trivial,by trivial,by trivial,hi0,hia,hib,hl,by omega,by omega⟩,hk⟩
  ·rw [List.drop_of_length_le (by omega),List.drop_of_length_le (by omega),jM] at hk
   exact hk
 ·exact h.elim
theorem xD:aE rA 0 (aa Tryz.f30 0):=by
 refine al (F:=kX) (ts:=[5,2,3]) (os:=[256,384]) rfl (fun svs os=>match svs,os with | .val _ i :: _,.box [.val _ a] :: _=>((a.list.length:Int) - i.int).toNat | _,_=>0) ?_
 intro pan svs os k ho1 ho2 h
 unfold kX at h
 split at h
 ·rename_i i p o p' o' ca a cb b
  obtain ⟨⟨rfl,rfl,rfl,rfl,rfl,rfl,hl,h0,hi⟩,hk⟩:=h
  have hL:a.list.length≤maxLen:=ho2.1.1.1
  unfold maxLen at hL
  refine .eq (wy pan _ _ k i a b) ?_
  refine bd (fun hlt=>dt ⟨h0,by omega⟩ (dt ⟨h0,by omega⟩ ?_)) (fun hlt=>?_)
  ·rw [aN (by omega),aN (L:=b.list) (by omega),fF] at hk
   simp only [U.at] at hk
   have hw:IntKind.wrap .i64 (i.int + 1)=i.int + 1:=i64_in (by omega) (by omega)
   have hc:(i.int + 1).toNat=i.int.toNat + 1:=by omega
   have hlt':((a.list.length:Int) - (i.int + 1)).toNat < ((a.list.length:Int) - i.int).toNat:=by omega
   simp only [hw,hc,Int.toNat_zero,List.drop_zero]
   refine bi (fun h1=>?_) (fun h1=>?_)
   ·have h1:=nt h1
    rw [EV (by intro h2;rw [h2] at h1;simp at h1),Bool.false_and] at hk
    exact hk
   ·have h1:=nf h1
    simp only [beq_iff_eq] at h1
    refine ⟨⟨by trivial,by trivial,by trivial,by trivial,by trivial,by trivial,h0,by omega,by omega,by omega,by omega,by omega⟩,bi (fun h2=>?_) (fun h2=>?_)⟩
    ·rw [h2,Bool.true_and] at hk
     exact blt hlt' ⟨⟨by trivial,by trivial,by trivial,by trivial,by trivial,by trivial,hl,by omega,by omega⟩,hk⟩
    ·rw [h2,Bool.false_and] at hk
     exact hk
  ·rw [List.drop_of_length_le (by omega),List.drop_of_length_le (by omega),fF] at hk
   exact hk
 ·exact h.elim
theorem Ff:bB PR 30 (gi fF):=fun fn us hfn=>by
 have hf:PR.funcs[(30:Nat)]? = some Tryz.f30:=by kernel_rfl
 rw [hf] at hfn;cases hfn
 refine aM (C:=rA) (aB mS af .nil .nil) hf (by kernel_rfl) (dS (by kernel_rfl) xD xZ) fun hok=>?_
 have hp:Tryz.f30.params.toList=[24,24]:=by kernel_rfl
 rw [hp] at hok
 obtain ⟨a,b,hus⟩:∃ a b,us=[[a],[b]]:=by
  obtain ⟨u,u2,rfl,h1,h2⟩:=bR (by kernel_rfl:Cs PR 24=some (true,[.sl false [.sl true [.int .i64,.int .i64,.int .i64,.int .i64,.int .u32]]])) (by kernel_rfl:Cs PR 24=some (true,[.sl false [.sl true [.int .i64,.int .i64,.int .i64,.int .i64,.int .u32]]])) hok.1
  obtain ⟨a,rfl⟩:=bG h1
  obtain ⟨b,rfl⟩:=bG h2
  exact ⟨a,b,rfl⟩
 subst hus
 refine .eq (Ba _ a b) ?_
 unfold gi
 simp only [bo,aZ,Int.toNat_zero,List.drop_zero]
 refine bi (fun h=>?_) (fun h=>⟨⟨by trivial,by trivial,by trivial,by trivial,by trivial,by trivial,?_,by omega,by omega⟩,bi (fun h1=>by rw [h1]) (fun h1=>by rw [h1])⟩)
 ·have h:=nt h
  rw [FZ (by intro h2;rw [h2] at h;simp at h)]
 ·have h:=nf h
  simp only [beq_iff_eq] at h
  omega
end Go.Mat

namespace Go.Mat
open Go Go.Den Go.Proofs
def Cz (x y:U):Bool:=((e0 x).str.toList == (e0 y).str.toList) && ((e1 x).int == (e1 y).int) && fF (e2 x).list (e2 y).list
def cD:List U→List U→Bool
 | [],[]=>true
 | x :: r,y :: s=>Cz x y && cD r s
 | _,_=>false
def gT (c sz bk T S M Q c' sz' bk' T' S' M' Q':U):Bool:=(c.int == c'.int) && (sz.int == sz'.int) && (bk.str.toList == bk'.str.toList) && fF T.list T'.list && fH M.list M'.list && gS Q.list Q'.list && cD S.list S'.list
def CR:List (List U)→List (List U):=fun us=>[[.b (gT (nth (.i 0) (nth [] us 0) 0) (nth (.i 0) (nth [] us 0) 1) (nth (.i 0) (nth [] us 0) 2) (nth (.i 0) (nth [] us 0) 3) (nth (.i 0) (nth [] us 0) 4) (nth (.i 0) (nth [] us 0) 5) (nth (.i 0) (nth [] us 0) 6)
 (nth (.i 0) (nth [] us 1) 0) (nth (.i 0) (nth [] us 1) 1) (nth (.i 0) (nth [] us 1) 2) (nth (.i 0) (nth [] us 1) 3) (nth (.i 0) (nth [] us 1) 4) (nth (.i 0) (nth [] us 1) 5) (nth (.i 0) (nth [] us 1) 6))]]
noncomputable def lW:aS:=fun _ svs os k=>match svs with
 | [.val (.int .i64) i,.ptr p o,.ptr p' o']=>match os with
  | [.box [.val (.int .i64) _,.val (.int .i64) _,.val .str _,.val (.sl false [.sl true x1]) _,.val (.sl true x2) S,.val (.sl true x3) _,.val (.sl false [.int .i64]) _],.box [.val (.int .i64) _,.val (.int .i64) _,.val .str _,.val (.sl false [.sl true y1]) _,.val (.sl true y2) S',.val (.sl true y3) _,.val (.sl false [.int .i64]) _]]=>
   ((p=256∧o=0∧p' = 384∧o' = 0)∧(x1=EC∧x2=SC∧x3=BC)∧(y1=EC∧y2=SC∧y3=BC)∧S.list.length=S'.list.length∧0≤i.int∧i.int≤S.list.length)∧
   (bif cD (S.list.drop i.int.toNat) (S'.list.drop i.int.toNat) then k (.exit 0) ⟨[(4,.unk)],[]⟩ else k .ret ⟨[(4,vb (.b false))],[]⟩)
  | _=>False
 | _=>False
noncomputable def zG:Ctx:=mkC PR xk (aH 30 (gi fF) (aH 31 (gi fH) (aH 32 (gi gS) aK))) aL (aw 0 [5,2,3] [256,384] lW aC) (an 0 [4] [] aq) aq
theorem xz (pan:KP) (μ:Mu) (N:Nat) (k:KE) (i c sz bk T S M Q c' sz' bk' T' S' M' Q':U) {u s a d e f g h j l m n o p q r t} (_:u=(EC=EC∧[Ct.str,.int .i64,Ct.sl false [Ct.sl true EC]]=[.str,.int .i64,Ct.sl false [.sl true EC]]∧[Ct.str,Ct.bool,Ct.sl true SpC]=[.str,Ct.bool,Ct.sl true SpC]):=by rfl) (_:s=(S.list.length:Int):=by rfl) (_:a=((256=256∧0=0∧384=384∧0=0)∧u∧u∧S.list.length=S'.list.length∧(0:Int)≤IntKind.wrap .i64 (i.int + 1)∧IntKind.wrap .i64 (i.int + 1)≤s):=by rfl) (_:d=(St.mk [(4,.val .bool (U.b false))] []):=by rfl) (_:e=(U.list (nth (.i 0) S'.list i.int.toNat)):=by rfl) (_:f=(U.list (nth (.i 0) S.list i.int.toNat)):=by rfl) (_:g=(IntKind.wrap .i64 (i.int + 1)):=by rfl) (_:h=(U.list (nth (.i 0) (List.tail (List.tail f)) 0)):=by rfl) (_:j=(U.list (nth (.i 0) (List.tail (List.tail e)) 0)):=by rfl) (_:l=(List.drop (Int.toNat g) S'.list):=by rfl) (_:m=(List.drop (Int.toNat g) S.list):=by rfl) (_:n=(nth (.i 0) (List.tail f) 0):=by rfl) (_:o=(nth (.i 0) (List.tail e) 0):=by rfl) (_:p=(U.str (nth (.i 0) f 0)):=by rfl) (_:q=(U.str (nth (.i 0) e 0)):=by rfl) (_:r=(St.mk [(4,.unk)] []):=by rfl) (_:t=(S'.list.length:Int):=by rfl): (exec (zG.panics pan) (aa Tryz.f9 0) 0 ⟨[(5,vi i),(2,.ptr 256 0),(3,.ptr 384 0)],[(256,.box (p9 c sz bk T S M Q)),(384,.box (p9 c' sz' bk' T' S' M' Q'))]⟩ (again PR (some ([4],[])) none pan [5,2,3] [256,384] lW μ N k))=(bif decide (i.int < s) then Alt (bif decide ((0:Int)≤i.int∧i.int < s) then Alt (bif decide ((0:Int)≤i.int∧i.int < t) then (fun T=>Alt T T) (bif !ByteArray.toList p == ByteArray.toList q then k Ex.ret d else bif U.int n != U.int o then k Ex.ret d else bif !fF h j then k Ex.ret d else bif Nat.blt (μ [vi (U.i g),.ptr 256 0,.ptr 384 0] [.box [vi c,vi sz,.val .str bk,.val (.sl false [.sl true EC]) T,.val (.sl true [.str,.int .i64,Ct.sl false [.sl true EC]]) S,.val (.sl true [.str,Ct.bool,Ct.sl true SpC]) M,.val (.sl false [.int .i64]) Q],.box [vi c',vi sz',.val .str bk',.val (.sl false [.sl true EC]) T',.val (.sl true [.str,.int .i64,Ct.sl false [.sl true EC]]) S',.val (.sl true [.str,Ct.bool,Ct.sl true SpC]) M',.val (.sl false [.int .i64]) Q']]) N then a∧bif cD m l then k (Ex.exit 0) r else k Ex.ret d else False) else False) ((fun T=>Alt (Alt T (Alt T T)) (Alt T (Alt T T))) (bif decide ((0:Int)≤i.int∧i.int < t) then bif !ByteArray.toList p == ByteArray.toList q then k Ex.ret d else bif U.int n != U.int o then k Ex.ret d else bif !fF h j then k Ex.ret d else bif Nat.blt (μ [vi (U.i g),.ptr 256 0,.ptr 384 0] [.box [vi c,vi sz,.val .str bk,.val (.sl false [.sl true EC]) T,.val (.sl true [.str,.int .i64,Ct.sl false [.sl true EC]]) S,.val (.sl true [.str,Ct.bool,Ct.sl true SpC]) M,.val (.sl false [.int .i64]) Q],.box [vi c',vi sz',.val .str bk',.val (.sl false [.sl true EC]) T',.val (.sl true [.str,.int .i64,Ct.sl false [.sl true EC]]) S',.val (.sl true [.str,Ct.bool,Ct.sl true SpC]) M',.val (.sl false [.int .i64]) Q']]) N then a∧bif cD m l then k (Ex.exit 0) r else k Ex.ret d else False else False)) else False) (Alt (bif decide ((0:Int)≤i.int∧i.int < t) then Alt (bif decide ((0:Int)≤i.int∧i.int < s) then (fun T=>Alt T T) (bif !ByteArray.toList p == ByteArray.toList q then k Ex.ret d else bif U.int n != U.int o then k Ex.ret d else bif !fF h j then k Ex.ret d else bif Nat.blt (μ [vi (U.i g),.ptr 256 0,.ptr 384 0] [.box [vi c,vi sz,.val .str bk,.val (.sl false [.sl true EC]) T,.val (.sl true [.str,.int .i64,Ct.sl false [.sl true EC]]) S,.val (.sl true [.str,Ct.bool,Ct.sl true SpC]) M,.val (.sl false [.int .i64]) Q],.box [vi c',vi sz',.val .str bk',.val (.sl false [.sl true EC]) T',.val (.sl true [.str,.int .i64,Ct.sl false [.sl true EC]]) S',.val (.sl true [.str,Ct.bool,Ct.sl true SpC]) M',.val (.sl false [.int .i64]) Q']]) N then a∧bif cD m l then k (Ex.exit 0) r else k Ex.ret d else False) else False) ((fun T=>Alt (Alt T T) (Alt T T)) (bif decide ((0:Int)≤i.int∧i.int < s) then bif !ByteArray.toList p == ByteArray.toList q then k Ex.ret d else bif U.int n != U.int o then k Ex.ret d else bif !fF h j then k Ex.ret d else bif Nat.blt (μ [vi (U.i g),.ptr 256 0,.ptr 384 0] [.box [vi c,vi sz,.val .str bk,.val (.sl false [.sl true EC]) T,.val (.sl true [.str,.int .i64,Ct.sl false [.sl true EC]]) S,.val (.sl true [.str,Ct.bool,Ct.sl true SpC]) M,.val (.sl false [.int .i64]) Q],.box [vi c',vi sz',.val .str bk',.val (.sl false [.sl true EC]) T',.val (.sl true [.str,.int .i64,Ct.sl false [.sl true EC]]) S',.val (.sl true [.str,Ct.bool,Ct.sl true SpC]) M',.val (.sl false [.int .i64]) Q']]) N then a∧bif cD m l then k (Ex.exit 0) r else k Ex.ret d else False else False)) else False) (Alt (Alt (bif decide ((0:Int)≤i.int∧i.int < s) then (fun T=>Alt T (Alt T T)) (bif decide ((0:Int)≤i.int∧i.int < t) then bif !ByteArray.toList p == ByteArray.toList q then k Ex.ret d else bif U.int n != U.int o then k Ex.ret d else bif !fF h j then k Ex.ret d else bif Nat.blt (μ [vi (U.i g),.ptr 256 0,.ptr 384 0] [.box [vi c,vi sz,.val .str bk,.val (.sl false [.sl true EC]) T,.val (.sl true [.str,.int .i64,Ct.sl false [.sl true EC]]) S,.val (.sl true [.str,Ct.bool,Ct.sl true SpC]) M,.val (.sl false [.int .i64]) Q],.box [vi c',vi sz',.val .str bk',.val (.sl false [.sl true EC]) T',.val (.sl true [.str,.int .i64,Ct.sl false [.sl true EC]]) S',.val (.sl true [.str,Ct.bool,Ct.sl true SpC]) M',.val (.sl false [.int .i64]) Q']]) N then a∧bif cD m l then k (Ex.exit 0) r else k Ex.ret d else False else False) else False) (Alt (bif decide ((0:Int)≤i.int∧i.int < t) then (fun T=>Alt T T) (bif decide ((0:Int)≤i.int∧i.int < s) then bif !ByteArray.toList p == ByteArray.toList q then k Ex.ret d else bif U.int n != U.int o then k Ex.ret d else bif !fF h j then k Ex.ret d else bif Nat.blt (μ [vi (U.i g),.ptr 256 0,.ptr 384 0] [.box [vi c,vi sz,.val .str bk,.val (.sl false [.sl true EC]) T,.val (.sl true [.str,.int .i64,Ct.sl false [.sl true EC]]) S,.val (.sl true [.str,Ct.bool,Ct.sl true SpC]) M,.val (.sl false [.int .i64]) Q],.box [vi c',vi sz',.val .str bk',.val (.sl false [.sl true EC]) T',.val (.sl true [.str,.int .i64,Ct.sl false [.sl true EC]]) S',.val (.sl true [.str,Ct.bool,Ct.sl true SpC]) M',.val (.sl false [.int .i64]) Q']]) N then a∧bif cD m l then k (Ex.exit 0) r else k Ex.ret d else False else False) else False) (Alt (bif decide ((0:Int)≤i.int∧i.int < s) then (fun T=>Alt T T) (bif decide ((0:Int)≤i.int∧i.int < t) then bif !ByteArray.toList p == ByteArray.toList q then k Ex.ret d else bif U.int n != U.int o then k Ex.ret d else bif !fF h j then k Ex.ret d else bif Nat.blt (μ [vi (U.i g),.ptr 256 0,.ptr 384 0] [.box [vi c,vi sz,.val .str bk,.val (.sl false [.sl true EC]) T,.val (.sl true [.str,.int .i64,Ct.sl false [.sl true EC]]) S,.val (.sl true [.str,Ct.bool,Ct.sl true SpC]) M,.val (.sl false [.int .i64]) Q],.box [vi c',vi sz',.val .str bk',.val (.sl false [.sl true EC]) T',.val (.sl true [.str,.int .i64,Ct.sl false [.sl true EC]]) S',.val (.sl true [.str,Ct.bool,Ct.sl true SpC]) M',.val (.sl false [.int .i64]) Q']]) N then a∧bif cD m l then k (Ex.exit 0) r else k Ex.ret d else False else False) else False) (bif decide ((0:Int)≤i.int∧i.int < t) then bif decide ((0:Int)≤i.int∧i.int < s) then bif !ByteArray.toList p == ByteArray.toList q then k Ex.ret d else bif U.int n != U.int o then k Ex.ret d else bif !fF h j then k Ex.ret d else bif Nat.blt (μ [vi (U.i g),.ptr 256 0,.ptr 384 0] [.box [vi c,vi sz,.val .str bk,.val (.sl false [.sl true EC]) T,.val (.sl true [.str,.int .i64,Ct.sl false [.sl true EC]]) S,.val (.sl true [.str,Ct.bool,Ct.sl true SpC]) M,.val (.sl false [.int .i64]) Q],.box [vi c',vi sz',.val .str bk',.val (.sl false [.sl true EC]) T',.val (.sl true [.str,.int .i64,Ct.sl false [.sl true EC]]) S',.val (.sl true [.str,Ct.bool,Ct.sl true SpC]) M',.val (.sl false [.int .i64]) Q']]) N then a∧bif cD m l then k (Ex.exit 0) r else k Ex.ret d else False else False else False)))) (Alt (bif decide ((0:Int)≤i.int∧i.int < s) then (fun T=>Alt T (Alt T T)) (bif decide ((0:Int)≤i.int∧i.int < t) then bif !ByteArray.toList p == ByteArray.toList q then k Ex.ret d else bif U.int n != U.int o then k Ex.ret d else bif !fF h j then k Ex.ret d else bif Nat.blt (μ [vi (U.i g),.ptr 256 0,.ptr 384 0] [.box [vi c,vi sz,.val .str bk,.val (.sl false [.sl true EC]) T,.val (.sl true [.str,.int .i64,Ct.sl false [.sl true EC]]) S,.val (.sl true [.str,Ct.bool,Ct.sl true SpC]) M,.val (.sl false [.int .i64]) Q],.box [vi c',vi sz',.val .str bk',.val (.sl false [.sl true EC]) T',.val (.sl true [.str,.int .i64,Ct.sl false [.sl true EC]]) S',.val (.sl true [.str,Ct.bool,Ct.sl true SpC]) M',.val (.sl false [.int .i64]) Q']]) N then a∧bif cD m l then k (Ex.exit 0) r else k Ex.ret d else False else False) else False) (Alt (bif decide ((0:Int)≤i.int∧i.int < t) then (fun T=>Alt T T) (bif decide ((0:Int)≤i.int∧i.int < s) then bif !ByteArray.toList p == ByteArray.toList q then k Ex.ret d else bif U.int n != U.int o then k Ex.ret d else bif !fF h j then k Ex.ret d else bif Nat.blt (μ [vi (U.i g),.ptr 256 0,.ptr 384 0] [.box [vi c,vi sz,.val .str bk,.val (.sl false [.sl true EC]) T,.val (.sl true [.str,.int .i64,Ct.sl false [.sl true EC]]) S,.val (.sl true [.str,Ct.bool,Ct.sl true SpC]) M,.val (.sl false [.int .i64]) Q],.box [vi c',vi sz',.val .str bk',.val (.sl false [.sl true EC]) T',.val (.sl true [.str,.int .i64,Ct.sl false [.sl true EC]]) S',.val (.sl true [.str,Ct.bool,Ct.sl true SpC]) M',.val (.sl false [.int .i64]) Q']]) N then a∧bif cD m l then k (Ex.exit 0) r else k Ex.ret d else False else False) else False) (Alt (bif decide ((0:Int)≤i.int∧i.int < s) then (fun T=>Alt T T) (bif decide ((0:Int)≤i.int∧i.int < t) then bif !ByteArray.toList p == ByteArray.toList q then k Ex.ret d else bif U.int n != U.int o then k Ex.ret d else bif !fF h j then k Ex.ret d else bif Nat.blt (μ [vi (U.i g),.ptr 256 0,.ptr 384 0] [.box [vi c,vi sz,.val .str bk,.val (.sl false [.sl true EC]) T,.val (.sl true [.str,.int .i64,Ct.sl false [.sl true EC]]) S,.val (.sl true [.str,Ct.bool,Ct.sl true SpC]) M,.val (.sl false [.int .i64]) Q],.box [vi c',vi sz',.val .str bk',.val (.sl false [.sl true EC]) T',.val (.sl true [.str,.int .i64,Ct.sl false [.sl true EC]]) S',.val (.sl true [.str,Ct.bool,Ct.sl true SpC]) M',.val (.sl false [.int .i64]) Q']]) N then a∧bif cD m l then k (Ex.exit 0) r else k Ex.ret d else False else False) else False) (bif decide ((0:Int)≤i.int∧i.int < t) then bif decide ((0:Int)≤i.int∧i.int < s) then bif !ByteArray.toList p == ByteArray.toList q then k Ex.ret d else bif U.int n != U.int o then k Ex.ret d else bif !fF h j then k Ex.ret d else bif Nat.blt (μ [vi (U.i g),.ptr 256 0,.ptr 384 0] [.box [vi c,vi sz,.val .str bk,.val (.sl false [.sl true EC]) T,.val (.sl true [.str,.int .i64,Ct.sl false [.sl true EC]]) S,.val (.sl true [.str,Ct.bool,Ct.sl true SpC]) M,.val (.sl false [.int .i64]) Q],.box [vi c',vi sz',.val .str bk',.val (.sl false [.sl true EC]) T',.val (.sl true [.str,.int .i64,Ct.sl false [.sl true EC]]) S',.val (.sl true [.str,Ct.bool,Ct.sl true SpC]) M',.val (.sl false [.int .i64]) Q']]) N then a∧bif cD m l then k (Ex.exit 0) r else k Ex.ret d else False else False else False)))))) else k (Ex.exit 0) r):=by subst_vars;kernel_rfl
theorem AL (R:RF) (c sz bk T S M Q c' sz' bk' T' S' M' Q':U) {a} (_:a=(EC=EC∧[Ct.str,.int .i64,Ct.sl false [Ct.sl true EC]]=[Ct.str,.int .i64,Ct.sl false [Ct.sl true EC]]∧[Ct.str,Ct.bool,Ct.sl true SpC]=[Ct.str,Ct.bool,Ct.sl true SpC]):=by rfl): (run zG Tryz.f9 [[c,sz,bk,T,S,M,Q],[c',sz',bk',T',S',M',Q']] R)=(bif c.int != U.int c' then R [[U.b false]] else bif sz.int != U.int sz' then R [[U.b false]] else bif !ByteArray.toList bk.str == ByteArray.toList (U.str bk') then R [[U.b false]] else bif (↑(List.length S.list):Int) != (↑(List.length (U.list S')):Int) then R [[U.b false]] else bif !fF T.list (U.list T') then R [[U.b false]] else bif !fH M.list (U.list M') then R [[U.b false]] else bif !gS Q.list (U.list Q') then R [[U.b false]] else ((256=nat_lit 256∧nat_lit 0=nat_lit 0∧nat_lit 384=nat_lit 384∧nat_lit 0=nat_lit 0)∧a∧a∧List.length S.list=List.length (U.list S')∧(0:Int)≤0∧(0:Int)≤(↑(List.length S.list):Int))∧bif cD (List.drop (Int.toNat 0) S.list) (List.drop (Int.toNat 0) (U.list S')) then R [[U.b true]] else R [[U.b false]]):=by subst_vars;kernel_rfl
end Go.Mat

namespace Go.Mat
open Go Go.Den Go.Proofs
theorem oZ:∀ {a b:List U},cD a b=true→a.length=b.length
 | [],[],_=>rfl
 | [],_ :: _,h=>by cases h
 | _ :: _,[],h=>by cases h
 | x :: r,y :: s,h=>by
  rw [cD,Bool.and_eq_true] at h
  rw [List.length_cons,List.length_cons,oZ h.2]
theorem BH {a b:List U} (h:a.length≠b.length):cD a b=false:=Bool.eq_false_iff.2 fun h'=>h (oZ h')
theorem Ay:aE zG 0 (aa Tryz.f9 0):=by
 refine al (F:=lW) (ts:=[5,2,3]) (os:=[256,384]) rfl (fun svs os=>match svs,os with | .val _ i :: _,.box [_,_,_,_,.val _ S,_,_] :: _=>((S.list.length:Int) - i.int).toNat | _,_=>0) ?_
 intro pan svs os k ho1 ho2 h
 unfold lW at h
 split at h
 ·rename_i i p o p' o'
  split at h
  ·rename_i c sz bk x1 T x2 S x3 M Q c' sz' bk' y1 T' y2 S' y3 M' Q'
   obtain ⟨⟨⟨rfl,rfl,rfl,rfl⟩,⟨rfl,rfl,rfl⟩,⟨rfl,rfl,rfl⟩,hl,h0,hi⟩,hk⟩:=h
   have hL:S.list.length≤maxLen:=ho2.1.2.2.2.2.1.1
   unfold maxLen at hL
   refine .eq (xz pan _ _ k i c sz bk T S M Q c' sz' bk' T' S' M' Q') ?_
   refine bd (fun hlt=>?_) (fun hlt=>?_)
   ·rw [aN (by omega),aN (L:=S'.list) (by omega),cD] at hk
    simp only [U.at,Cz,e0,e1,e2] at hk
    have hw:IntKind.wrap .i64 (i.int + 1)=i.int + 1:=i64_in (by omega) (by omega)
    have hc:(i.int + 1).toNat=i.int.toNat + 1:=by omega
    have hlt':((S.list.length:Int) - (i.int + 1)).toNat < ((S.list.length:Int) - i.int).toNat:=by omega
    have hb1:decide (0≤i.int∧i.int < (S.list.length:Int))=true:=decide_eq_true ⟨h0,hlt⟩
    have hb2:decide (0≤i.int∧i.int < (S'.list.length:Int))=true:=decide_eq_true ⟨h0,by omega⟩
    simp only [hb1,hb2,cond_true,en,aD,bW,Nat.zero_add,Nat.add_zero,Nat.reduceAdd,hw,hc]
    refine bi (fun h1=>?_) (fun h1=>bi (fun h2=>?_) (fun h2=>bi (fun h3=>?_) (fun h3=>?_)))
    ·rw [nt h1,Bool.false_and,Bool.false_and,Bool.false_and] at hk;exact hk
    ·rw [nf h1,nt h2,Bool.true_and,Bool.false_and,Bool.false_and] at hk;exact hk
    ·rw [nf h1,nf h2,nt h3,Bool.true_and,Bool.true_and,Bool.false_and] at hk;exact hk
    ·rw [nf h1,nf h2,nf h3,Bool.true_and,Bool.true_and,Bool.true_and] at hk
     exact blt hlt' ⟨⟨⟨by trivial,by trivial,by trivial,by trivial⟩,⟨by trivial,by trivial,by trivial⟩,⟨by trivial,by trivial,by trivial⟩,hl,by omega,by omega⟩,hk⟩
   ·rw [List.drop_of_length_le (by omega),List.drop_of_length_le (by omega),cD] at hk
    exact hk
  ·exact h.elim
 ·exact h.elim
theorem Fc:bB PR 9 CR:=fun fn us hfn=>by
 have hf:PR.funcs[(9:Nat)]? = some Tryz.f9:=by kernel_rfl
 rw [hf] at hfn;cases hfn
 refine aM (C:=zG) (aB mS af (.cons Ff (.cons HB (.cons Gh .nil))) .nil) hf (by kernel_rfl) (aW (by kernel_rfl) Ay) fun hok=>?_
 have hp:Tryz.f9.params.toList=[29,29]:=by kernel_rfl
 rw [hp] at hok
 obtain ⟨c,sz,bk,T,S,M,Q,c',sz',bk',T',S',M',Q',hus⟩:∃ c sz bk T S M Q c' sz' bk' T' S' M' Q',us=[[c,sz,bk,T,S,M,Q],[c',sz',bk',T',S',M',Q']]:=by
  obtain ⟨u,u2,rfl,h1,h2⟩:=bR (by kernel_rfl:Cs PR 29=some (true,[.int .i64,.int .i64,.str,.sl false [.sl true EC],.sl true SC,.sl true BC,.sl false [.int .i64]])) (by kernel_rfl:Cs PR 29=some (true,[.int .i64,.int .i64,.str,.sl false [.sl true EC],.sl true SC,.sl true BC,.sl false [.int .i64]])) hok.1
  obtain ⟨c,sz,bk,T,S,M,Q,rfl⟩:=oc h1
  obtain ⟨c',sz',bk',T',S',M',Q',rfl⟩:=oc h2
  exact ⟨c,sz,bk,T,S,M,Q,c',sz',bk',T',S',M',Q',rfl⟩
 subst hus
 refine .eq (AL _ c sz bk T S M Q c' sz' bk' T' S' M' Q') ?_
 have hS:CR [[c,sz,bk,T,S,M,Q],[c',sz',bk',T',S',M',Q']]=[[.b (gT c sz bk T S M Q c' sz' bk' T' S' M' Q')]]:=rfl
 rw [hS]
 unfold gT
 simp only [Int.toNat_zero,List.drop_zero]
 refine bi (fun h=>by rw [nt h];rfl) (fun h1=>bi (fun h=>by rw [nf h1,nt h];rfl) (fun h2=>bi (fun h=>by rw [nf h1,nf h2,nt h];rfl) (fun h3=>bi (fun h=>?_) (fun h4=>?_))))
 ·have h:=nt h
  rw [BH (by intro h2;rw [h2] at h;simp at h),Bool.and_false]
 have h4:=nf h4
 simp only [beq_iff_eq] at h4
 refine bi (fun h=>by rw [nf h1,nf h2,nf h3,nt h];rfl) (fun h5=>bi (fun h=>by rw [nf h1,nf h2,nf h3,nf h5,nt h];rfl) (fun h6=>bi (fun h=>by rw [nf h1,nf h2,nf h3,nf h5,nf h6,nt h];rfl) (fun h7=>⟨⟨⟨by trivial,by trivial,by trivial,by trivial⟩,⟨by trivial,by trivial,by trivial⟩,⟨by trivial,by trivial,by trivial⟩,by omega,by omega,by omega⟩,?_⟩)))
 rw [nf h1,nf h2,nf h3,nf h5,nf h6,nf h7]
 exact bi (fun h=>by rw [h];rfl) (fun h=>by rw [h];rfl)
end Go.Mat

namespace Go.Mat
open Go Go.Den Go.Proofs
def cmU (x:U):U:=.l [nth (.i 0) x.list 0,nth (.i 0) x.list.tail 0,.l (nth (.i 0) x.list.tail.tail 0).list]
noncomputable def sf:aS:=fun _ svs os k=>match svs,os with
 | [.val (.int .i64) i,.own o,.val (.sl true x0) L],[.arr t X]=>
  ((o=508∧x0=BC∧t=64)∧0≤i.int∧i.int≤(L.list.length:Int)∧X.length + L.list.length≤1073741823 + i.int.toNat∧∀ x,x ∈ L.list.drop i.int.toNat→(nth (.i 0) x.list.tail.tail 0).list.length≤1073741824)∧
  k (.exit 0) ⟨[(3,.own 508)],[(508,.arr 64 (X ++ (L.list.drop i.int.toNat).map cmU))]⟩
 | _,_=>False
noncomputable def cmC:Ctx:=mkC PR bM aK aL (aw 0 [4,3,0] [508] sf aC) (an 0 [3] [508] aq) aq
theorem Dn (pan:KP) (μ:Mu) (N:Nat) (k:KE) (i L:U) (X:List U) {a b c d e} (_:a=(U.list (nth (.i 0) L.list i.int.toNat)):=by rfl) (_:b=(nth (.i 0) (List.tail (List.tail a)) 0):=by rfl) (_:c=(IntKind.wrap .i64 (i.int + 1)):=by rfl) (_:d=(X ++ [U.l [nth (.i 0) a 0,nth (.i 0) (List.tail a) 0,U.l ([] ++ U.list b)]]):=by rfl) (_:e=(L.list.length:Int):=by rfl): (exec (cmC.panics pan) (aa Tryz.f16 0) 0 ⟨[(4,vi i),(3,.own 508),(0,vt BC L)],[(508,.arr 64 X)]⟩ (again PR (some ([3],[508])) none pan [4,3,0] [508] sf μ N k))=(bif decide (i.int < e) then bif decide ((0:Int)≤i.int∧i.int < e) then bif decide ((0:Nat) + List.length (U.list b)≤room) && true then bif decide (List.length X + 1≤room) && true then bif Nat.blt (μ [vi (U.i c),.own 508,.val (.sl true [.str,Ct.bool,Ct.sl true SpC]) L] [.arr 64 d]) N then ((508=508∧[Ct.str,Ct.bool,Ct.sl true SpC]=[.str,Ct.bool,Ct.sl true SpC]∧64=64)∧(0:Int)≤IntKind.wrap .i64 (i.int + 1)∧IntKind.wrap .i64 (i.int + 1)≤e∧List.length d + L.list.length≤(1073741823:Nat) + Int.toNat c∧∀ (x:U),x ∈ List.drop (Int.toNat c) L.list→List.length (U.list (nth (.i 0) (List.tail (List.tail x.list)) 0))≤(1073741824:Nat))∧k (Ex.exit 0) (St.mk [(3,.own 508)] [(508,.arr 64 (X ++ [U.l [nth (.i 0) a 0,nth (.i 0) (List.tail a) 0,U.l ([] ++ U.list b)]] ++ List.map cmU (List.drop (Int.toNat c) L.list)))]) else False else False else False else False else k (Ex.exit 0) (St.mk [(3,.own 508)] [(508,.arr 64 X)])):=by subst_vars;kernel_rfl
theorem GB (R:RF) (L:U):(run cmC Tryz.f16 [[L]] R)=(((508=nat_lit 508∧[Ct.str,Ct.bool,Ct.sl true SpC]=[Ct.str,Ct.bool,Ct.sl true SpC]∧nat_lit 64=nat_lit 64)∧(0:Int)≤0∧(0:Int)≤(↑(List.length L.list):Int)∧(0:Nat) + List.length
 L.list≤(1073741823:Nat) + Int.toNat 0∧∀ (x:U),x ∈ List.drop (Int.toNat 0) L.list→List.length (U.list (nth (U.i 0) (List.tail (List.tail x.list)) (0:Nat)))≤(1073741824:Nat))∧R [[U.l ([]
 ++ List.map cmU (List.drop (Int.toNat 0) L.list))]]):=by kernel_rfl
end Go.Mat

namespace Go.Mat
open Go Go.Den Go.Proofs
set_option maxRecDepth 100000
theorem Fy:aE cmC 0 (aa Tryz.f16 0):=by
 refine al (F:=sf) (ts:=[4,3,0]) (os:=[508]) rfl (fun svs _=>match svs with | .val _ i :: .own _ :: .val _ L :: _=>((L.list.length:Int) - i.int).toNat | _=>0) ?_
 intro pan svs os k ho1 ho2 h
 unfold sf at h
 split at h
 ·rename_i i o x0 L t X
  obtain ⟨⟨⟨rfl,rfl,rfl⟩,h0,hin,hX,hT⟩,hk⟩:=h
  refine .eq (Dn pan _ _ k i L X) ?_
  refine bd (fun hlt=>?_) (fun hlt=>?_)
  ·have hi:i.int.toNat < L.list.length:=by omega
   have hm:U.at L.list i.int.toNat ∈ L.list.drop i.int.toNat:=by rw [bc hi];exact List.mem_cons_self ..
   have hl:(nth (.i 0) (nth (.i 0) L.list i.int.toNat).list.tail.tail 0).list.length≤1073741824:=hT _ hm
   have hwi:IntKind.wrap .i64 (i.int + 1)=i.int + 1:=i64_in (by omega) (by have:L.list.length≤maxLen:=ho1.2.2.1.1;unfold maxLen at this;omega)
   have hc:(i.int + 1).toNat=i.int.toNat + 1:=by omega
   rw [bc hi,List.map_cons] at hk
   refine dt ⟨h0,hlt⟩ (cu (by unfold room;omega) rfl (cu (by unfold room;omega) rfl ?_))
   rw [hwi,hc]
   exact blt (by simp only [U.int_i];omega) ⟨⟨⟨rfl,rfl,rfl⟩,by omega,by omega,by rw [List.length_append,List.length_singleton];omega,fun x hx=>hT x (by rw [bc hi];exact List.mem_cons_of_mem _ hx)⟩,by rw [List.append_assoc];exact hk⟩
  ·have hd:L.list.drop i.int.toNat=[]:=List.drop_eq_nil_of_le (by omega)
   rw [hd,List.map_nil,List.append_nil] at hk
   exact hk
 ·exact h.elim
def cmP:List (List U)→Prop:=fun us=>(nth (.i 0) (nth [] us 0) 0).list.length≤1000000000∧∀ x,x ∈ (nth (.i 0) (nth [] us 0) 0).list→(nth (.i 0) x.list.tail.tail 0).list.length≤1073741824
def cmS:List (List U)→List (List U):=fun us=>[[.l ((nth (.i 0) (nth [] us 0) 0).list.map cmU)]]
theorem Hv:cG PR 16 cmP cmS:=fun fn us hfn hpre=>by
 have hf:PR.funcs[(16:Nat)]? = some Tryz.f16:=by kernel_rfl
 rw [hf] at hfn;cases hfn
 refine aM (C:=cmC) (aB ao af .nil .nil) hf (by kernel_rfl) (aW (by kernel_rfl) Fy) fun hok=>?_
 have hp:Tryz.f16.params.toList=[26]:=by kernel_rfl
 rw [hp] at hok
 obtain ⟨L,rfl⟩:∃ L,us=[[L]]:=by
  obtain ⟨u,rfl,h1⟩:=cT (by kernel_rfl:Cs PR 26=some (false,[.sl true BC])) hok.1
  obtain ⟨L,rfl⟩:=bG h1
  exact ⟨L,rfl⟩
 obtain ⟨h1,h2⟩:L.list.length≤1000000000∧∀ x,x ∈ L.list→(nth (.i 0) x.list.tail.tail 0).list.length≤1073741824:=hpre
 refine .eq (GB _ L) ⟨⟨⟨rfl,rfl,rfl⟩,by omega,by omega,?_,h2⟩,rfl⟩
 show 0 + L.list.length≤1073741823 + 0
 omega
end Go.Mat

namespace Go.Mat
open Go Go.Den Go.Proofs
noncomputable def sY:aS:=fun _ svs os k=>match svs,os with
 | [.val (.int .i64) i,.ptr p1 q1,.ptr p2 q2,.ptr p3 q3],[.box [.val (.int .i64) c,.val (.int .i64) z,.val .str s,.val (.sl false [.sl true x1]) T,.val (.sl true x3) Sh,.val (.sl true x2) M,.val (.sl false [.int .i64]) Q],.box [.val (.int .i64) c',.val (.int .i64) z',.val .str s',.val (.sl false [.sl true y1]) T',.own o,.val (.sl true y2) M',.val (.sl false [.int .i64]) Q'],.arr t X,
   .box [.val (.int .i64) r1,.val (.int .i64) r2,.val .str r3,.own o1,.own o2,.own o3,.own o4],.arr t4 [],.arr t3 [],.arr t2 [],.arr t1 []]=>
  ((p1=128∧q1=0∧p2=256∧q2=0∧p3=384∧q3=0∧t=55)∧(x1=EC∧x3=SC∧x2=BC∧y1=EC∧o=8437770∧y2=BC)∧(o1=264∧o2=266∧o3=268∧o4=270∧t4=3∧t3=64∧t2=55∧t1=47)∧
    0≤i.int∧i.int≤(Sh.list.length:Int)∧X.length + Sh.list.length≤1073741823 + i.int.toNat∧∀ x,x ∈ Sh.list.drop i.int.toNat→dv (nth (.i 0) x.list.tail.tail 0).list)∧
  k (.exit 0) ⟨[(1,.ptr 128 0),(2,.ptr 256 0),(3,.ptr 384 0)],[(128,.box [vi c,vi z,vs s,.val TRC T,vt SC Sh,vt BC M,vl (.int .i64) Q]),(384,.box [vi c',vi z',vs s',.val TRC T',.own 8437770,vt BC M',vl (.int .i64) Q']),(8437770,.arr 55 (X ++ (Sh.list.drop i.int.toNat).map cmU)),
   (256,.box [vi r1,vi r2,vs r3,.own 264,.own 266,.own 268,.own 270]),(270,.arr 3 []),(268,.arr 64 []),(266,.arr 55 []),(264,.arr 47 [])]⟩
 | _,_=>False
noncomputable def rcC:Ctx:=mkC PR bM (aV 15 fc nS (aV 16 cmP cmS aK)) aL
 (aw 0 [4,1,2,3] [128,384,8437770,256,270,268,266,264] sY aC) (an 0 [1,2,3] [128,384,8437770,256,270,268,266,264] aq) aq
theorem Cm (pan:KP) (μ:Mu) (N:Nat) (k:KE) (i c z s T Sh M Q c' z' s' T' M' Q' r1 r2 r3:U) (X:List U) {a b d h e f g j} (_:a=(U.list (nth (.i 0) Sh.list i.int.toNat)):=by rfl) (_:b=(128,.box [vi c,vi z,.val .str s,.val (.sl false [.sl true EC]) T,.val (.sl true [.str,.int .i64,Ct.sl false [.sl true EC]]) Sh,.val (.sl true [.str,Ct.bool,Ct.sl true SpC]) M,.val (.sl false [.int .i64]) Q]):=by rfl) (_:d=(384,.box [vi c',vi z',.val .str s',.val (.sl false [.sl true EC]) T',.own 8437770,.val (.sl true [.str,Ct.bool,Ct.sl true SpC]) M',.val (.sl false [.int .i64]) Q']):=by rfl) (_:h=(U.list (nth (.i 0) (List.tail (List.tail a)) 0)):=by rfl) (_:e=(X ++ [U.l [nth (.i 0) a 0,nth (.i 0) (List.tail a) 0,U.l h]]):=by rfl) (_:f=(IntKind.wrap .i64 (i.int + 1)):=by rfl) (_:g=(256,.box [vi r1,vi r2,.val .str r3,.own 264,.own 266,.own 268,.own 270]):=by rfl) (_:j=(Sh.list.length:Int):=by rfl): (exec (rcC.panics pan) (aa Tryz.f6 0) 0 ⟨[(4,vi i),(1,.ptr 128 0),(2,.ptr 256 0),(3,.ptr 384 0)],[(128,.box [vi c,vi z,vs s,.val TRC T,vt SC Sh,vt BC M,vl (.int .i64) Q]),(384,.box [vi c',vi z',vs s',.val TRC T',.own 8437770,vt BC M',vl (.int .i64) Q']),(8437770,.arr 55 X),(256,.box [vi r1,vi r2,vs r3,.own 264,.own 266,.own 268,.own 270]),(270,.arr 3 []),(268,.arr 64 []),(266,.arr 55 []),(264,.arr 47 [])]⟩ (again PR (some ([1,2,3],[128,384,8437770,256,270,268,266,264])) none pan [4,1,2,3] [128,384,8437770,256,270,268,266,264] sY μ N k))=(bif decide (i.int < j) then bif decide ((0:Int)≤i.int∧i.int < j) then fc [[nth (.i 0) (List.tail (List.tail a)) 0]]∧bif decide (List.length X + 1≤room) && true then bif Nat.blt (μ [vi (U.i f),.ptr 128 0,.ptr 256 0,.ptr 384 0] [.box [vi c,vi z,.val .str s,.val (.sl false [.sl true EC]) T,.val (.sl true [.str,.int .i64,Ct.sl false [.sl true EC]]) Sh,.val (.sl true [.str,Ct.bool,Ct.sl true SpC]) M,.val (.sl false [.int .i64]) Q],.box [vi c',vi z',.val .str s',.val (.sl false [.sl true EC]) T',.own 8437770,.val (.sl true [.str,Ct.bool,Ct.sl true SpC]) M',.val (.sl false [.int .i64]) Q'],.arr 55 e,.box [vi r1,vi r2,.val .str r3,.own 264,.own 266,.own 268,.own 270],.arr 3 [],.arr 64 [],.arr 55 [],.arr 47 []]) N then ((128=128∧0=0∧256=256∧0=0∧384=384∧0=0∧55=55)∧(EC=EC∧[Ct.str,.int .i64,Ct.sl false [Ct.sl true EC]]=[.str,.int .i64,Ct.sl false [.sl true EC]]∧[Ct.str,Ct.bool,Ct.sl true SpC]=[.str,Ct.bool,Ct.sl true SpC]∧EC=EC∧8437770=8437770∧[Ct.str,Ct.bool,Ct.sl true SpC]=[.str,Ct.bool,Ct.sl true SpC])∧(264=264∧266=266∧268=268∧270=270∧3=3∧64=64∧55=55∧47=47)∧(0:Int)≤IntKind.wrap .i64 (i.int + 1)∧IntKind.wrap .i64 (i.int + 1)≤j∧List.length e + Sh.list.length≤(1073741823:Nat) + Int.toNat f∧∀ (x:U),x ∈ List.drop (Int.toNat f) Sh.list→dv (U.list (nth (.i 0) (List.tail (List.tail x.list)) 0)))∧k (Ex.exit 0) (St.mk [(1,.ptr 128 0),(2,.ptr 256 0),(3,.ptr 384 0)] [b,d,(8437770,.arr 55 (X ++ [U.l [nth (.i 0) a 0,nth (.i 0) (List.tail a) 0,U.l h]] ++ List.map cmU (List.drop (Int.toNat f) Sh.list))),g,(270,.arr 3 []),(268,.arr 64 []),(266,.arr 55 []),(264,.arr 47 [])]) else False else False else False else k (Ex.exit 0) (St.mk [(1,.ptr 128 0),(2,.ptr 256 0),(3,.ptr 384 0)] [b,d,(8437770,.arr 55 X),g,(270,.arr 3 []),(268,.arr 64 []),(266,.arr 55 []),(264,.arr 47 [])])):=by subst_vars;kernel_rfl
theorem FU (R:RF) (c z s T Sh M Q:U):(run rcC Tryz.f6 [[c,z,s,T,Sh,M,Q]] R)=(fc [[T]]∧((128=nat_lit 128∧nat_lit 0=nat_lit 0∧nat_lit 256=nat_lit 256∧nat_lit 0=nat_lit 0∧nat_lit 384=nat_lit 384∧nat_lit 0=nat_lit 0∧nat_lit 55=nat_lit 55)∧(EC=EC∧[Ct.str,.int .i64,Ct.sl false [Ct.sl true EC]]=[Ct.str,.int .i64,Ct.sl false [Ct.sl true EC]]∧[Ct.str,Ct.bool,Ct.sl true SpC]=[Ct.str,Ct.bool,Ct.sl true SpC]∧EC=EC∧nat_lit 8437770=nat_lit 8437770∧[Ct.str,Ct.bool,Ct.sl true SpC]=[Ct.str,Ct.bool,Ct.sl true SpC])∧(264=nat_lit 264∧nat_lit 266=nat_lit 266∧nat_lit 268=nat_lit 268∧nat_lit 270=nat_lit 270∧nat_lit 3=nat_lit 3∧nat_lit 64=nat_lit 64∧nat_lit 55=nat_lit 55∧nat_lit 47=nat_lit 47)∧(0:Int)≤0∧(0:Int)≤(↑(List.length Sh.list):Int)∧(0:Nat) + List.length Sh.list≤(1073741823:Nat) + Int.toNat 0∧∀ (x:U),x ∈ List.drop (Int.toNat 0) Sh.list→dv (U.list (nth (U.i 0) (List.tail (List.tail x.list)) (0:Nat))))∧cmP [[M]]∧bif decide ((0:Nat) + List.length Q.list≤room) && true then R [[c,z,s,U.l T.list,U.l ([] ++ List.map cmU (List.drop (Int.toNat 0) Sh.list)),U.l (List.map cmU M.list),U.l ([] ++ Q.list)]] else False):=by kernel_rfl
theorem DL (R:RT) (c z s T Sh M Q:U):(jP rcC Tryz.f6 [.agg [vi c,vi z,vs s,.val TRC T,vt SC Sh,vt BC M,vl (.int .i64) Q]] [] R)=(fc [[T]]∧((128=128∧0=0∧256=256∧0=0∧384=384∧0=0∧55=55)∧(EC=EC∧[Ct.str,.int .i64,Ct.sl false [Ct.sl true EC]]=[.str,.int .i64,Ct.sl false [.sl true EC]]∧[Ct.str,Ct.bool,Ct.sl true SpC]=[.str,Ct.bool,Ct.sl true SpC]∧EC=EC∧8437770=8437770∧[Ct.str,Ct.bool,Ct.sl true SpC]=[.str,Ct.bool,Ct.sl true SpC])∧(264=264∧266=266∧268=268∧270=270∧3=3∧64=64∧55=55∧47=47)∧(0:Int)≤0∧(0:Int)≤(Sh.list.length:Int)∧(0:Nat) + Sh.list.length≤(1073741823:Nat) + Int.toNat 0∧∀ (x:U),x ∈ List.drop (Int.toNat 0) Sh.list→dv (U.list (nth (.i 0) (List.tail (List.tail x.list)) 0)))∧cmP [[M]]∧bif decide ((0:Nat) + Q.list.length≤room) && true then R (Out.ret [.agg [vi c,vi z,.val .str s,.val (.sl false [.sl true EC]) (U.l T.list),.own 2097152,.val (.sl true [.str,Ct.bool,Ct.sl true SpC]) (U.l (List.map cmU M.list)),.own 2097280]]) [(2097152,.arr 55 ([] ++ List.map cmU (List.drop (Int.toNat 0) Sh.list))),(2097280,.arr 3 ([] ++ Q.list))] else False):=by kernel_rfl
end Go.Mat

namespace Go.Mat
open Go Go.Den Go.Proofs
set_option maxRecDepth 100000
theorem yH:aE rcC 0 (aa Tryz.f6 0):=by
 refine al (F:=sY) (ts:=[4,1,2,3]) (os:=[128,384,8437770,256,270,268,266,264]) rfl (fun svs os=>match svs,os with | .val _ i :: _,.box [_,_,_,_,.val _ L,_,_] :: _=>((L.list.length:Int) - i.int).toNat | _,_=>0) ?_
 intro pan svs os k ho1 ho2 h
 unfold sY at h
 split at h
 ·rename_i i p1 q1 p2 q2 p3 q3 c z s x1 T x3 Sh x2 M Q c' z' s' y1 T' o y2 M' Q' t X r1 r2 r3 o1 o2 o3 o4 t4 t3 t2 t1
  obtain ⟨⟨⟨rfl,rfl,rfl,rfl,rfl,rfl,rfl⟩,⟨rfl,rfl,rfl,rfl,rfl,rfl⟩,⟨rfl,rfl,rfl,rfl,rfl,rfl,rfl,rfl⟩,h0,hin,hX,hT⟩,hk⟩:=h
  refine .eq (Cm pan _ _ k i c z s T Sh M Q c' z' s' T' M' Q' r1 r2 r3 X) ?_
  refine bd (fun hlt=>?_) (fun hlt=>?_)
  ·have hi:i.int.toNat < Sh.list.length:=by omega
   have hm:U.at Sh.list i.int.toNat ∈ Sh.list.drop i.int.toNat:=by rw [bc hi];exact List.mem_cons_self ..
   have hwi:IntKind.wrap .i64 (i.int + 1)=i.int + 1:=i64_in (by omega) (by have:Sh.list.length≤maxLen:=ho2.1.2.2.2.2.1.1;unfold maxLen at this;omega)
   have hc:(i.int + 1).toNat=i.int.toNat + 1:=by omega
   rw [bc hi,List.map_cons] at hk
   rw [hwi,hc]
   exact dt ⟨h0,hlt⟩ ⟨hT _ hm,cu (by unfold room;omega) rfl (blt (by simp only [U.int_i];omega) ⟨⟨⟨rfl,rfl,rfl,rfl,rfl,rfl,rfl⟩,⟨rfl,rfl,rfl,rfl,rfl,rfl⟩,⟨rfl,rfl,rfl,rfl,rfl,rfl,rfl,rfl⟩,by omega,by omega,by rw [List.length_append,List.length_singleton];omega,fun x hx=>hT x (by rw [bc hi];exact List.mem_cons_of_mem _ hx)⟩,by rw [List.append_assoc];exact hk⟩)⟩
  ·have hd:Sh.list.drop i.int.toNat=[]:=List.drop_eq_nil_of_le (by omega)
   rw [hd,List.map_nil,List.append_nil] at hk
   exact hk
 ·exact h.elim
def rcQ (T Sh M Q:U):Prop:=dv T.list∧(Sh.list.length≤1000000000∧∀ x,x ∈ Sh.list→dv (nth (.i 0) x.list.tail.tail 0).list)∧cmP [[M]]∧Q.list.length≤1073741824
def rcP:List (List U)→Prop:=fun us=>rcQ (nth (.i 0) (nth [] us 0) 3) (nth (.i 0) (nth [] us 0) 4) (nth (.i 0) (nth [] us 0) 5) (nth (.i 0) (nth [] us 0) 6)
def rcS:List (List U)→List (List U):=fun us=>match us with
 | [[c,z,s,T,Sh,M,Q]]=>[[c,z,s,.l T.list,.l (Sh.list.map cmU),.l (M.list.map cmU),.l Q.list]]
 | _=>[]
theorem Ju:cG PR 6 rcP rcS:=fun fn us hfn hpre=>by
 have hf:PR.funcs[(6:Nat)]? = some Tryz.f6:=by kernel_rfl
 rw [hf] at hfn;cases hfn
 refine aM (C:=rcC) (aB ao af (.consP wk (.consP Hv .nil)) .nil) hf (by kernel_rfl) (aW (by kernel_rfl) yH) fun hok=>?_
 have hp:Tryz.f6.params.toList=[29]:=by kernel_rfl
 rw [hp] at hok
 obtain ⟨u,rfl,h1⟩:=cT (by kernel_rfl:Cs PR 29=some (true,[.int .i64,.int .i64,.str,.sl false [.sl true EC],.sl true SC,.sl true BC,.sl false [.int .i64]])) hok.1
 obtain ⟨c,z,s,T,Sh,M,Q,rfl⟩:=oc h1
 obtain ⟨hT,⟨hS,hS2⟩,hM,hQ⟩:rcQ T Sh M Q:=hpre
 exact .eq (FU _ c z s T Sh M Q) ⟨hT,⟨⟨rfl,rfl,rfl,rfl,rfl,rfl,rfl⟩,⟨rfl,rfl,rfl,rfl,rfl,rfl⟩,⟨rfl,rfl,rfl,rfl,rfl,rfl,rfl,rfl⟩,by omega,by omega,by show 0 + Sh.list.length≤1073741823 + 0;omega,hS2⟩,hM,cu (by unfold room;omega) rfl rfl⟩
noncomputable def rcF:Tr:=fun args objs k=>match args,objs with
 | [.agg [.val (.int .i64) c,.val (.int .i64) z,.val .str s,.val (.sl false [.sl true x1]) T,.val (.sl true x3) Sh,.val (.sl true x2) M,.val (.sl false [.int .i64]) Q]],[]=>
  ((x1=EC∧x3=SC∧x2=BC)∧rcQ T Sh M Q)∧
  k (.ret [.agg [vi c,vi z,vs s,.val TRC (.l T.list),.own 2097152,vt BC (.l (M.list.map cmU)),.own 2097280]]) [(2097152,.arr 55 (Sh.list.map cmU)),(2097280,.arr 3 Q.list)]
 | _,_=>False
theorem IF:ee PR 6 rcF:=fun fn hfn=>by
 have hf:PR.funcs[(6:Nat)]? = some Tryz.f6:=by kernel_rfl
 rw [hf] at hfn;cases hfn
 refine dB (C:=rcC) (aB ao af (.consP wk (.consP Hv .nil)) .nil) hf (by kernel_rfl) (aW (by kernel_rfl) yH) fun vs objs R h1 h2 h=>?_
 clear h1 h2
 unfold rcF at h
 split at h
 ·rename_i c z s x1 T x3 Sh x2 M Q
  obtain ⟨⟨⟨rfl,rfl,rfl⟩,hT,⟨hS,hS2⟩,hM,hQ⟩,hk⟩:=h
  exact .eq (DL _ c z s T Sh M Q) ⟨hT,⟨⟨rfl,rfl,rfl,rfl,rfl,rfl,rfl⟩,⟨rfl,rfl,rfl,rfl,rfl,rfl⟩,⟨rfl,rfl,rfl,rfl,rfl,rfl,rfl,rfl⟩,by omega,by omega,by show 0 + Sh.list.length≤1073741823 + 0;omega,hS2⟩,hM,cu (by unfold room;omega) rfl hk⟩
 ·exact h.elim
end Go.Mat

namespace Go.Den
open Go Go.RowKit
def pA:List Nat→List Nat→Bool
 | [],[]=>true
 | x :: r,y :: s=>bif Nat.beq x y then pA r s else false
 | _,_=>false
def pN:List (List Ct)→List (List Ct)→Bool
 | [],[]=>true
 | x :: r,y :: s=>bif Ct.beq.beqs x y then pN r s else false
 | _,_=>false
theorem yT:∀ {a b:List Nat},pA a b=true→a=b
 | [],[],_=>rfl
 | [],_ :: _,h=>by cases h
 | _ :: _,[],h=>by cases h
 | x :: r,y :: s,h=>by
  rw [pA] at h
  cases e:Nat.beq x y with
  | true=>rw [e] at h;rw [Nat.eq_of_beq_eq_true e,yT h]
  | false=>rw [e] at h;cases h
theorem yX:∀ {a b:List (List Ct)},pN a b=true→a=b
 | [],[],_=>rfl
 | [],_ :: _,h=>by cases h
 | _ :: _,[],h=>by cases h
 | x :: r,y :: s,h=>by
  rw [pN] at h
  cases e:Ct.beq.beqs x y with
  | true=>rw [e] at h;rw [zb e,yX h]
  | false=>rw [e] at h;cases h
def eqL {α:Type}:List α→List α→Prop
 | [],[]=>True
 | x :: r,y :: s=>x=y∧eqL r s
 | _,_=>False
theorem sE {α:Type}:∀ {a b:List α},a=b→eqL a b
 | [],_,rfl=>trivial
 | _ :: _,_,rfl=>⟨rfl,sE rfl⟩
theorem rL {a b:List Nat} {x y:List (List Ct)} {p:Prop} (h:bif pA a b then (bif pN x y then p else False) else False):eqL a b∧eqL x y∧p:=by
 cases e:pA a b with
 | false=>rw [e] at h;exact h.elim
 | true=>
  rw [e] at h
  cases e2:pN x y with
  | false=>rw [e2] at h;exact h.elim
  | true=>rw [e2] at h;exact ⟨sE (yT e),sE (yX e2),h⟩
end Go.Den

namespace Go.Mat
open Go Go.Den Go.Proofs
def fu (l x:U):Bool:=bif decide ((lnU x 3).int < IntKind.wrap .i64 ((lnU l 3).int + (lnU l 4).int)) && decide ((lnU l 3).int < IntKind.wrap .i64 ((lnU x 3).int + (lnU x 4).int)) then ((lnU x 3).int == (lnU l 3).int) && ((lnU x 4).int == (lnU l 4).int) else true
def ln7 (l:U):U:=.l [nth (.i 0) l.list 0,nth (.i 0) l.list.tail 0,nth (.i 0) l.list.tail.tail 0,nth (.i 0) l.list.tail.tail.tail 0,nth (.i 0) l.list.tail.tail.tail.tail 0,nth (.i 0) l.list.tail.tail.tail.tail.tail 0,nth (.i 0) l.list.tail.tail.tail.tail.tail.tail 0]
def lnB (F c l:U):Int:=(gh [[nth (.i 0) (l.list.drop 2) 0,nth (.i 0) (l.list.drop 2).tail 0,nth (.i 0) (l.list.drop 2).tail.tail 0,nth (.i 0) (l.list.drop 2).tail.tail.tail 0,nth (.i 0) (l.list.drop 2).tail.tail.tail.tail 0],[F],[c]]).1
def stX (l:U):Int:=(nth (.i 0) l.list.tail.tail.tail 0).int
def ctX (l:U):Int:=(nth (.i 0) l.list.tail.tail.tail.tail 0).int
def stL (l:U):Int:=(nth (.i 0) (l.list.drop 2).tail 0).int
def ctL (l:U):Int:=(nth (.i 0) (l.list.drop 2).tail.tail 0).int
def iF (F:List U) (c:Int) (st:List U × List U) (l:U):List U × List U:=
 bif !dm F c l && st.1.all (fu l) then (st.1 ++ [ln7 l],st.2) else (st.1,st.2 ++ [ln7 l])
noncomputable def ot:aS:=fun _ svs os k=>match svs,os with
 | [.val (.int .i64) j,.own o7,.val .bool ok,.val (.sl true lc) L,.val (.int .i64) i,.own o8,.ptr p q,.val (.sl false [.int .u8]) F],[.arr t7 X,.arr t8 Y,.box [.val (.int .i64) c,.val (.int .i64) z,.val .str s,.val (.sl false [.sl true x1]) T,.val (.sl true x3) Sh,.val (.sl true x2) M,.val (.sl false [.int .i64]) Q]]=>
  bif pA [o7,o8,p,q,t7,t8] [1020,1148,256,0,72,72] then bif pN [lc,x1,x3,x2] [LNC,EC,SC,BC] then
   (ok = .b ok.bool∧0≤j.int∧j.int≤(X.length:Int)∧X.length≤1073741824∧0≤i.int∧i.int < (L.list.length:Int))∧
   k (.exit 2) ⟨[(12,vb (.b (ok.bool && (X.drop j.int.toNat).all (fu (U.at L.list i.int.toNat))))),(7,.own 1020),(6,.val (.sl true LNC) L),(9,vi i),(8,.own 1148),(2,.ptr 256 0),(1,vl (.int .u8) F)],[(1020,.arr 72 X),(1148,.arr 72 Y),(256,.box [vi c,vi z,vs s,.val TRC T,vt SC Sh,vt BC M,vl (.int .i64) Q])]⟩
  else False else False
 | _,_=>False
noncomputable def ox:aS:=fun _ svs os k=>match svs,os with
 | [.val (.int .i64) i,.val (.sl true lc) L,.own o7,.own o8,.ptr p q,.val (.sl false [.int .u8]) F],[.arr t7 X,.arr t8 Y,.box [.val (.int .i64) c,.val (.int .i64) z,.val .str s,.val (.sl false [.sl true x1]) T,.val (.sl true x3) Sh,.val (.sl true x2) M,.val (.sl false [.int .i64]) Q]]=>
  bif pA [o7,o8,p,q,t7,t8] [1020,1148,256,0,72,72] then bif pN [lc,x1,x3,x2] [LNC,EC,SC,BC] then
   (0≤i.int∧i.int≤(L.list.length:Int)∧X.length + L.list.length≤1073741823 + i.int.toNat∧Y.length + L.list.length≤1073741823 + i.int.toNat)∧
   k (.exit 0) ⟨[(7,.own 1020),(8,.own 1148)],[(1020,.arr 72 ((L.list.drop i.int.toNat).foldl (iF F.list c.int) (X,Y)).1),(1148,.arr 72 ((L.list.drop i.int.toNat).foldl (iF F.list c.int) (X,Y)).2)]⟩
  else False else False
 | _,_=>False
noncomputable def gdC:Ctx:=mkC PR bM (aH 54 m6 (aV 12 gQ oY aK)) aL
 (aw 0 [9,6,7,8,2,1] [1020,1148,256] ox (aw 2 [13,7,12,6,9,8,2,1] [1020,1148,256] ot aC)) (an 0 [7,8] [1020,1148] (an 2 [12,7,6,9,8,2,1] [1020,1148,256] aq)) aq
theorem zP (pan:KP) (μ:Mu) (N:Nat) (k:KE) (i L F c z s T Sh M Q:U) (X Y:List U) {a d e f g h} (_:a=(nth (.i 0) L.list i.int.toNat):=by rfl) (_:d=(IntKind.wrap .i64 (i.int + 1)):=by rfl) (_:e=(L.list.length:Int):=by rfl) (_:f=(List.drop (Int.toNat d) L.list):=by rfl) (_:g=(iF F.list c.int):=by rfl) (_:h=(1073741823:Nat):=by rfl): (exec (gdC.panics pan) (aa Tryz.f26 0) 0 ⟨[(9,vi i),(6,.val (.sl true LNC) L),(7,.own 1020),(8,.own 1148),(2,.ptr 256 0),(1,vl (.int .u8) F)],[(1020,.arr 72 X),(1148,.arr 72 Y),(256,.box [vi c,vi z,vs s,.val TRC T,vt SC Sh,vt BC M,vl (.int .i64) Q])]⟩ (again PR (some ([7,8],[1020,1148])) none pan [9,6,7,8,2,1] [1020,1148,256] ox μ N k))=(bif decide (i.int < e) then bif decide ((0:Int)≤i.int∧i.int < e) then (U.b (lnB F c a == 0)=U.b (lnB F c a == 0)∧(0:Int)≤0∧(0:Int)≤(X.length:Int)∧List.length X≤(1073741824:Nat)∧(0:Int)≤i.int∧i.int < e)∧bif lnB F c a == 0 && List.all (List.drop (Int.toNat 0) X) (fu a) then bif decide ((0:Int)≤i.int∧i.int < e) then bif decide (List.length X + 1≤room) && true then bif Nat.blt (μ [vi (U.i d),.val (.sl true LNC) L,.own 1020,.own 1148,.ptr 256 0,.val (.sl false [.int .u8]) F] [.arr 72 (X ++ [ln7 a]),.arr 72 Y,.box [vi c,vi z,.val .str s,.val (TRC) T,.val (.sl true SC) Sh,.val (.sl true BC) M,.val (.sl false [.int .i64]) Q]]) N then ((0:Int)≤IntKind.wrap .i64 (i.int + 1)∧IntKind.wrap .i64 (i.int + 1)≤e∧List.length (X ++ [ln7 a]) + L.list.length≤h + Int.toNat d∧List.length Y + L.list.length≤h + Int.toNat d)∧k (Ex.exit 0) (St.mk [(7,.own 1020),(8,.own 1148)] [(1020,.arr 72 (Prod.fst (List.foldl g (X ++ [ln7 a],Y) f))),(1148,.arr 72 (Prod.snd (List.foldl g (X ++ [ln7 a],Y) f)))]) else False else False else False else bif decide ((0:Int)≤i.int∧i.int < e) then bif decide (List.length Y + 1≤room) && true then bif Nat.blt (μ [vi (U.i d),.val (.sl true LNC) L,.own 1020,.own 1148,.ptr 256 0,.val (.sl false [.int .u8]) F] [.arr 72 X,.arr 72 (Y ++ [ln7 a]),.box [vi c,vi z,.val .str s,.val (TRC) T,.val (.sl true SC) Sh,.val (.sl true BC) M,.val (.sl false [.int .i64]) Q]]) N then ((0:Int)≤IntKind.wrap .i64 (i.int + 1)∧IntKind.wrap .i64 (i.int + 1)≤e∧List.length X + L.list.length≤h + Int.toNat d∧List.length (Y ++ [ln7 a]) + L.list.length≤h + Int.toNat d)∧k (Ex.exit 0) (St.mk [(7,.own 1020),(8,.own 1148)] [(1020,.arr 72 (Prod.fst (List.foldl g (X,Y ++ [ln7 a]) f))),(1148,.arr 72 (Prod.snd (List.foldl g (X,Y ++ [ln7 a]) f)))]) else False else False else False else False else k (Ex.exit 0) (St.mk [(7,.own 1020),(8,.own 1148)] [(1020,.arr 72 X),(1148,.arr 72 Y)])):=by subst_vars;kernel_rfl
theorem Av (pan:KP) (μ:Mu) (N:Nat) (k:KE) (j ok i L F c z s T Sh M Q:U) (X Y:List U) {a w v d e f g x h r l m n o p q t u} (_:a=(nth (.i 0) L.list i.int.toNat):=by rfl) (_:w=(X.length:Int):=by rfl) (_:v=(L.list.length:Int):=by rfl) (_:d=(U.b true=U.b true∧(0:Int)≤IntKind.wrap .i64 (j.int + 1)∧IntKind.wrap .i64 (j.int + 1)≤w∧List.length X≤(1073741824:Nat)∧(0:Int)≤i.int∧i.int < v):=by rfl) (_:e=(IntKind.wrap .i64 (j.int + 1)):=by rfl) (_:f=(nth (.i 0) X j.int.toNat):=by rfl) (_:g=(1,.val (.sl false [.int .u8]) F):=by rfl) (_:x=(ctX f == ctL a):=by rfl) (_:h=(U.b x=U.b x∧(0:Int)≤IntKind.wrap .i64 (j.int + 1)∧IntKind.wrap .i64 (j.int + 1)≤w∧List.length X≤(1073741824:Nat)∧(0:Int)≤i.int∧i.int < v):=by rfl) (_:r=(List.drop (Int.toNat e) X):=by rfl) (_:l=(12,.val .bool (U.b (true && List.all r (fu a)))):=by rfl) (_:m=(U.b false=U.b false∧(0:Int)≤IntKind.wrap .i64 (j.int + 1)∧IntKind.wrap .i64 (j.int + 1)≤w∧List.length X≤(1073741824:Nat)∧(0:Int)≤i.int∧i.int < v):=by rfl) (_:n=(6,.val (.sl true LNC) L):=by rfl) (_:o=(1020,.arr 72 X):=by rfl) (_:p=(1148,.arr 72 Y):=by rfl) (_:q=(2,.ptr 256 0):=by rfl) (_:t=(12,.val .bool (U.b (ctX f == ctL a && List.all r (fu a)))):=by rfl) (_:u=(12,.val .bool (U.b (false && List.all r (fu a)))):=by rfl): (exec (gdC.panics pan) (aa Tryz.f26 1) 2 ⟨[(13,vi j),(7,.own 1020),(12,vb ok),(6,.val (.sl true LNC) L),(9,vi i),(8,.own 1148),(2,.ptr 256 0),(1,vl (.int .u8) F)],[(1020,.arr 72 X),(1148,.arr 72 Y),(256,.box [vi c,vi z,vs s,.val TRC T,vt SC Sh,vt BC M,vl (.int .i64) Q])]⟩ (again PR (some ([12,7,6,9,8,2,1],[1020,1148,256])) none pan [13,7,12,6,9,8,2,1] [1020,1148,256] ot μ N k))=(bif decide (j.int < w) then bif ok.bool then bif decide ((0:Int)≤j.int∧j.int < w) then bif decide ((0:Int)≤i.int∧i.int < v) then Alt (bif Nat.blt j.int.toNat (List.length X) then (fun T=>Alt T T) (bif decide (stX f < IntKind.wrap .i64 (stL a + ctL a)) then bif !decide (stL a < IntKind.wrap .i64 (stX f + ctX f)) then bif Nat.blt (μ [vi (U.i e),.own 1020,.val .bool (U.b true),.val (.sl true LNC) L,vi i,.own 1148,.ptr 256 0,.val (.sl false [.int .u8]) F] [.arr 72 X,.arr 72 Y,.box [vi c,vi z,.val .str s,.val (TRC) T,.val (.sl true SC) Sh,.val (.sl true BC) M,.val (.sl false [.int .i64]) Q]]) N then d∧k (Ex.exit 2) (St.mk [l,(7,.own 1020),n,(9,vi i),(8,.own 1148),q,g] [o,p,(256,.box [vi c,vi z,.val .str s,.val (TRC) T,.val (.sl true SC) Sh,.val (.sl true BC) M,.val (.sl false [.int .i64]) Q])]) else False else bif stX f == stL a then bif Nat.blt (μ [vi (U.i e),.own 1020,.val .bool (U.b x),.val (.sl true LNC) L,vi i,.own 1148,.ptr 256 0,.val (.sl false [.int .u8]) F] [.arr 72 X,.arr 72 Y,.box [vi c,vi z,.val .str s,.val (TRC) T,.val (.sl true SC) Sh,.val (.sl true BC) M,.val (.sl false [.int .i64]) Q]]) N then h∧k (Ex.exit 2) (St.mk [t,(7,.own 1020),n,(9,vi i),(8,.own 1148),q,g] [o,p,(256,.box [vi c,vi z,.val .str s,.val (TRC) T,.val (.sl true SC) Sh,.val (.sl true BC) M,.val (.sl false [.int .i64]) Q])]) else False else bif Nat.blt (μ [vi (U.i e),.own 1020,.val .bool (U.b false),.val (.sl true LNC) L,vi i,.own 1148,.ptr 256 0,.val (.sl false [.int .u8]) F] [.arr 72 X,.arr 72 Y,.box [vi c,vi z,.val .str s,.val (TRC) T,.val (.sl true SC) Sh,.val (.sl true BC) M,.val (.sl false [.int .i64]) Q]]) N then m∧k (Ex.exit 2) (St.mk [u,(7,.own 1020),n,(9,vi i),(8,.own 1148),q,g] [o,p,(256,.box [vi c,vi z,.val .str s,.val (TRC) T,.val (.sl true SC) Sh,.val (.sl true BC) M,.val (.sl false [.int .i64]) Q])]) else False else bif Nat.blt (μ [vi (U.i e),.own 1020,.val .bool (U.b true),.val (.sl true LNC) L,vi i,.own 1148,.ptr 256 0,.val (.sl false [.int .u8]) F] [.arr 72 X,.arr 72 Y,.box [vi c,vi z,.val .str s,.val (TRC) T,.val (.sl true SC) Sh,.val (.sl true BC) M,.val (.sl false [.int .i64]) Q]]) N then d∧k (Ex.exit 2) (St.mk [l,(7,.own 1020),n,(9,vi i),(8,.own 1148),q,g] [o,p,(256,.box [vi c,vi z,.val .str s,.val (TRC) T,.val (.sl true SC) Sh,.val (.sl true BC) M,.val (.sl false [.int .i64]) Q])]) else False) else False) ((fun T=>Alt (Alt T T) (Alt T T)) (bif Nat.blt j.int.toNat (List.length X) then bif decide (stX f < IntKind.wrap .i64 (stL a + ctL a)) then bif !decide (stL a < IntKind.wrap .i64 (stX f + ctX f)) then bif Nat.blt (μ [vi (U.i e),.own 1020,.val .bool (U.b true),.val (.sl true LNC) L,vi i,.own 1148,.ptr 256 0,.val (.sl false [.int .u8]) F] [.arr 72 X,.arr 72 Y,.box [vi c,vi z,.val .str s,.val (TRC) T,.val (.sl true SC) Sh,.val (.sl true BC) M,.val (.sl false [.int .i64]) Q]]) N then d∧k (Ex.exit 2) (St.mk [l,(7,.own 1020),n,(9,vi i),(8,.own 1148),q,g] [o,p,(256,.box [vi c,vi z,.val .str s,.val (TRC) T,.val (.sl true SC) Sh,.val (.sl true BC) M,.val (.sl false [.int .i64]) Q])]) else False else bif stX f == stL a then bif Nat.blt (μ [vi (U.i e),.own 1020,.val .bool (U.b x),.val (.sl true LNC) L,vi i,.own 1148,.ptr 256 0,.val (.sl false [.int .u8]) F] [.arr 72 X,.arr 72 Y,.box [vi c,vi z,.val .str s,.val (TRC) T,.val (.sl true SC) Sh,.val (.sl true BC) M,.val (.sl false [.int .i64]) Q]]) N then h∧k (Ex.exit 2) (St.mk [t,(7,.own 1020),n,(9,vi i),(8,.own 1148),q,g] [o,p,(256,.box [vi c,vi z,.val .str s,.val (TRC) T,.val (.sl true SC) Sh,.val (.sl true BC) M,.val (.sl false [.int .i64]) Q])]) else False else bif Nat.blt (μ [vi (U.i e),.own 1020,.val .bool (U.b false),.val (.sl true LNC) L,vi i,.own 1148,.ptr 256 0,.val (.sl false [.int .u8]) F] [.arr 72 X,.arr 72 Y,.box [vi c,vi z,.val .str s,.val (TRC) T,.val (.sl true SC) Sh,.val (.sl true BC) M,.val (.sl false [.int .i64]) Q]]) N then m∧k (Ex.exit 2) (St.mk [u,(7,.own 1020),n,(9,vi i),(8,.own 1148),q,g] [o,p,(256,.box [vi c,vi z,.val .str s,.val (TRC) T,.val (.sl true SC) Sh,.val (.sl true BC) M,.val (.sl false [.int .i64]) Q])]) else False else bif Nat.blt (μ [vi (U.i e),.own 1020,.val .bool (U.b true),.val (.sl true LNC) L,vi i,.own 1148,.ptr 256 0,.val (.sl false [.int .u8]) F] [.arr 72 X,.arr 72 Y,.box [vi c,vi z,.val .str s,.val (TRC) T,.val (.sl true SC) Sh,.val (.sl true BC) M,.val (.sl false [.int .i64]) Q]]) N then d∧k (Ex.exit 2) (St.mk [l,(7,.own 1020),n,(9,vi i),(8,.own 1148),q,g] [o,p,(256,.box [vi c,vi z,.val .str s,.val (TRC) T,.val (.sl true SC) Sh,.val (.sl true BC) M,.val (.sl false [.int .i64]) Q])]) else False else False)) else False else False else k (Ex.exit 2) (St.mk [(12,.val .bool ok),(7,.own 1020),n,(9,vi i),(8,.own 1148),q,g] [o,p,(256,.box [vi c,vi z,.val .str s,.val (TRC) T,.val (.sl true SC) Sh,.val (.sl true BC) M,.val (.sl false [.int .i64]) Q])]) else k (Ex.exit 2) (St.mk [(12,.val .bool ok),(7,.own 1020),n,(9,vi i),(8,.own 1148),q,g] [o,p,(256,.box [vi c,vi z,.val .str s,.val (TRC) T,.val (.sl true SC) Sh,.val (.sl true BC) M,.val (.sl false [.int .i64]) Q])])):=by subst_vars;kernel_rfl
theorem Fq (R:RF) (c z s T Sh M Q F:U) {a b} (_:a=(ai (U.i (-1:Int)) T.list ++ ad 0 Sh.list):=by rfl) (_:b=(List.foldl (iF F.list c.int) ([],[]) (List.drop (Int.toNat 0) a)):=by rfl): (run gdC Tryz.f26 [[c,z,s,T,Sh,M,Q],[F]] R)=(gQ [[c,z,s,T,Sh,M,Q]]∧((0:Int)≤0∧(0:Int)≤(↑(List.length a):Int)∧(0:Nat) + List.length a≤(1073741823:Nat) + Int.toNat 0∧(0:Nat) + List.length a≤(1073741823:Nat) + Int.toNat 0)∧R [[U.l (Prod.fst b)],[U.l (Prod.snd b)]]):=by subst_vars;kernel_rfl
end Go.Mat

namespace Go.Mat
open Go Go.Den Go.Proofs
set_option maxRecDepth 100000
theorem AI (l x:U):fu l x=bif decide (stX x < IntKind.wrap .i64 (stL l + ctL l)) && decide (stL l < IntKind.wrap .i64 (stX x + ctX x)) then (stX x == stL l) && (ctX x == ctL l) else true:=by
 unfold fu stX ctX stL ctL
 simp only [aD,bW,Nat.zero_add,Nat.add_zero,Nat.reduceAdd]
theorem HY (F c l:U):(lnB F c l == 0) = !dm F.list c.int l:=by
 have h:lnB F c l=(cbX (lnU l 2).int (lnU l 3).int (lnU l 4).int (lnU l 5).int (lnU l 6).int c.int F.list).1:=by
  unfold lnB gh
  simp only [nth,aD,bW,Nat.zero_add,Nat.add_zero,Nat.reduceAdd]
 rw [h]
 unfold dm bne
 rw [Bool.not_not]
theorem Ca:aE gdC 2 (aa Tryz.f26 1):=by
 refine al (F:=ot) (ts:=[13,7,12,6,9,8,2,1]) (os:=[1020,1148,256]) rfl (fun svs os=>match svs,os with | .val _ j :: _,.arr _ X :: _=>X.length - j.int.toNat | _,_=>0) ?_
 intro pan svs os k ho1 ho2 h
 unfold ot at h
 split at h
 ·rename_i j o7 ok lc L i o8 p q F t7 X t8 Y c z s x1 T x3 Sh x2 M Q
  obtain ⟨⟨rfl,rfl,rfl,rfl,rfl,rfl,_⟩,⟨rfl,rfl,rfl,rfl,_⟩,⟨hok,h0,hj,hX,hi0,hi⟩,hk⟩:=rL h
  refine .eq (Av pan _ _ k j ok i L F c z s T Sh M Q X Y) ?_
  refine bd (fun hlt=>bi (fun hb=>?_) (fun hb=>?_)) (fun hlt=>?_)
  ·have hjl:j.int.toNat < X.length:=by omega
   have hb1:Nat.blt j.int.toNat X.length=true:=by simpa [Nat.blt_eq] using hjl
   have hwi:IntKind.wrap .i64 (j.int + 1)=j.int + 1:=i64_in (by omega) (by omega)
   have hc:(j.int + 1).toNat=j.int.toNat + 1:=by omega
   rw [bc hjl,List.all_cons,AI,hb,Bool.true_and] at hk
   refine dt ⟨h0,hlt⟩ (dt ⟨hi0,hi⟩ ?_)
   simp only [hb1,cond_true,en,hwi,hc]
   have hμ:X.length - (j.int + 1).toNat < X.length - j.int.toNat:=by omega
   refine bd (fun h1=>bi (fun h2=>?_) (fun h2=>bi (fun h3=>?_) (fun h3=>?_))) (fun h1=>?_)
   ·have h2:=nt h2
    have e:(bif decide (stX (U.at X j.int.toNat) < IntKind.wrap .i64 (stL (U.at L.list i.int.toNat) + ctL (U.at L.list i.int.toNat))) && decide (stL (U.at L.list i.int.toNat) < IntKind.wrap .i64 (stX (U.at X j.int.toNat) + ctX (U.at X j.int.toNat))) then (stX (U.at X j.int.toNat) == stL (U.at L.list i.int.toNat)) && (ctX (U.at X j.int.toNat) == ctL (U.at L.list i.int.toNat)) else true)=true:=by
     rw [show decide (stL (U.at L.list i.int.toNat) < IntKind.wrap .i64 (stX (U.at X j.int.toNat) + ctX (U.at X j.int.toNat)))=false from h2,Bool.and_false];rfl
    rw [e] at hk
    exact blt hμ ⟨⟨trivial,by omega,by omega,hX,hi0,hi⟩,hk⟩
   ·have h2:=nf h2
    have e:(bif decide (stX (U.at X j.int.toNat) < IntKind.wrap .i64 (stL (U.at L.list i.int.toNat) + ctL (U.at L.list i.int.toNat))) && decide (stL (U.at L.list i.int.toNat) < IntKind.wrap .i64 (stX (U.at X j.int.toNat) + ctX (U.at X j.int.toNat))) then (stX (U.at X j.int.toNat) == stL (U.at L.list i.int.toNat)) && (ctX (U.at X j.int.toNat) == ctL (U.at L.list i.int.toNat)) else true)=(ctX (U.at X j.int.toNat) == ctL (U.at L.list i.int.toNat)):=by
     rw [show decide (stL (U.at L.list i.int.toNat) < IntKind.wrap .i64 (stX (U.at X j.int.toNat) + ctX (U.at X j.int.toNat)))=true from h2,decide_eq_true h1,show (stX (U.at X j.int.toNat) == stL (U.at L.list i.int.toNat))=true from h3];rfl
    rw [e] at hk
    exact blt hμ ⟨⟨trivial,by omega,by omega,hX,hi0,hi⟩,hk⟩
   ·have h2:=nf h2
    have e:(bif decide (stX (U.at X j.int.toNat) < IntKind.wrap .i64 (stL (U.at L.list i.int.toNat) + ctL (U.at L.list i.int.toNat))) && decide (stL (U.at L.list i.int.toNat) < IntKind.wrap .i64 (stX (U.at X j.int.toNat) + ctX (U.at X j.int.toNat))) then (stX (U.at X j.int.toNat) == stL (U.at L.list i.int.toNat)) && (ctX (U.at X j.int.toNat) == ctL (U.at L.list i.int.toNat)) else true)=false:=by
     rw [show decide (stL (U.at L.list i.int.toNat) < IntKind.wrap .i64 (stX (U.at X j.int.toNat) + ctX (U.at X j.int.toNat)))=true from h2,decide_eq_true h1,show (stX (U.at X j.int.toNat) == stL (U.at L.list i.int.toNat))=false from h3];rfl
    rw [e] at hk
    exact blt hμ ⟨⟨trivial,by omega,by omega,hX,hi0,hi⟩,hk⟩
   ·have e:(bif decide (stX (U.at X j.int.toNat) < IntKind.wrap .i64 (stL (U.at L.list i.int.toNat) + ctL (U.at L.list i.int.toNat))) && decide (stL (U.at L.list i.int.toNat) < IntKind.wrap .i64 (stX (U.at X j.int.toNat) + ctX (U.at X j.int.toNat))) then (stX (U.at X j.int.toNat) == stL (U.at L.list i.int.toNat)) && (ctX (U.at X j.int.toNat) == ctL (U.at L.list i.int.toNat)) else true)=true:=by
     rw [decide_eq_false h1,Bool.false_and];rfl
    rw [e] at hk
    exact blt hμ ⟨⟨trivial,by omega,by omega,hX,hi0,hi⟩,hk⟩
  ·rw [hb,Bool.false_and] at hk
   rw [hok,hb]
   exact hk
  ·rw [List.drop_eq_nil_of_le (by omega:X.length≤j.int.toNat),List.all_nil,Bool.and_true] at hk
   rw [hok]
   exact hk
 ·exact h.elim
theorem Bl (F c l:U) (X Y:List U):iF F.list c.int (X,Y) l=bif (lnB F c l == 0) && X.all (fu l) then (X ++ [ln7 l],Y) else (X,Y ++ [ln7 l]):=by rw [HY];rfl
theorem DH:aE gdC 0 (aa Tryz.f26 0):=by
 refine al (F:=ox) (ts:=[9,6,7,8,2,1]) (os:=[1020,1148,256]) rfl (fun svs _=>match svs with | .val _ i :: .val _ L :: _=>L.list.length - i.int.toNat | _=>0) ?_
 intro pan svs os k ho1 ho2 h
 unfold ox at h
 split at h
 ·rename_i i lc L o7 o8 p q F t7 X t8 Y c z s x1 T x3 Sh x2 M Q
  obtain ⟨⟨rfl,rfl,rfl,rfl,rfl,rfl,_⟩,⟨rfl,rfl,rfl,rfl,_⟩,⟨h0,hi,hX,hY⟩,hk⟩:=rL h
  refine .eq (zP pan _ _ k i L F c z s T Sh M Q X Y) ?_
  refine bd (fun hlt=>?_) (fun hlt=>?_)
  ·have hil:i.int.toNat < L.list.length:=by omega
   have hwi:IntKind.wrap .i64 (i.int + 1)=i.int + 1:=i64_in (by omega) (by have:L.list.length≤maxLen:=ho1.2.1.1;unfold maxLen at this;omega)
   have hc:(i.int + 1).toNat=i.int.toNat + 1:=by omega
   have hμ:L.list.length - (i.int + 1).toNat < L.list.length - i.int.toNat:=by omega
   rw [bc hil,List.foldl_cons,Bl] at hk
   simp only [hwi,hc,Int.toNat_zero,List.drop_zero]
   refine dt ⟨h0,hlt⟩ ⟨⟨trivial,by omega,by omega,by omega,h0,hlt⟩,bi (fun hg=>?_) (fun hg=>?_)⟩
   ·rw [show ((lnB F c (U.at L.list i.int.toNat) == 0) && X.all (fu (U.at L.list i.int.toNat)))=true from hg,cond_true] at hk
    exact dt ⟨h0,hlt⟩ (cu (by unfold room;omega) rfl (blt hμ ⟨⟨by omega,by omega,by rw [List.length_append,List.length_singleton];omega,by omega⟩,hk⟩))
   ·rw [show ((lnB F c (U.at L.list i.int.toNat) == 0) && X.all (fu (U.at L.list i.int.toNat)))=false from hg,cond_false] at hk
    exact dt ⟨h0,hlt⟩ (cu (by unfold room;omega) rfl (blt hμ ⟨⟨by omega,by omega,by omega,by rw [List.length_append,List.length_singleton];omega⟩,hk⟩))
  ·rw [List.drop_eq_nil_of_le (by omega:L.list.length≤i.int.toNat)] at hk
   exact hk
 ·exact h.elim
def gdU (us:List (List U)):List U × List U:=(tJ us).foldl (iF (nth (.i 0) (nth [] us 1) 0).list (nth (.i 0) (nth [] us 0) 0).int) ([],[])
def gdS:List (List U)→List (List U):=fun us=>[[.l (gdU us).1],[.l (gdU us).2]]
theorem I4:cG PR 26 ta gdS:=fun fn us hfn hpre=>by
 have hf:PR.funcs[(26:Nat)]? = some Tryz.f26:=by kernel_rfl
 rw [hf] at hfn;cases hfn
 refine aM (C:=gdC) (aB ao af (.cons BY (.consP pf .nil)) .nil) hf (by kernel_rfl) (dS (by kernel_rfl) DH Ca) fun hok=>?_
 have hp:Tryz.f26.params.toList=[29,30]:=by kernel_rfl
 rw [hp] at hok
 obtain ⟨u,u2,rfl,h1,h2⟩:=bR (by kernel_rfl:Cs PR 29=some (true,[.int .i64,.int .i64,.str,.sl false [.sl true EC],.sl true SC,.sl true BC,.sl false [.int .i64]])) (by kernel_rfl:Cs PR 30=some (false,[.sl false [.int .u8]])) hok.1
 obtain ⟨c,z,s,T,Sh,M,Q,rfl⟩:=oc h1
 obtain ⟨F,rfl⟩:=bG h2
 obtain ⟨hE,hl⟩:=hpre
 have hl:(ai (.i (-1)) T.list ++ ad 0 Sh.list).length≤536870912:=hl
 exact .eq (Fq _ c z s T Sh M Q F) ⟨hE,⟨by omega,by omega,by omega,by omega⟩,rfl⟩
end Go.Mat

namespace Go.Mat
open Go Go.Den Go.Proofs
def mx0 (x:Int):Int:=bif decide (x < 0) then (0:Int) else x
noncomputable def oJ:aS:=fun _ svs os k=>match svs,os with
 | [.val (.int .i64) i,.val (.int .i64) n,.own o,.val (.sl true lc) L],[.arr t xs]=>
  bif pA [o,t] [2302,3] then bif pN [lc] [LNC] then
   (n.int=(xs.length:Int)∧0≤i.int∧xs.length≤65536∧eg xs∧ej 0 (xs.drop i.int.toNat)=true)∧
   k (.exit 0) ⟨[(5,.own 2302),(0,.val (.sl true LNC) L),(1,vi n)],[(2302,.arr 3 (bD (inI i.int 2) 0 xs))]⟩
  else False else False
 | _,_=>False
noncomputable def oq:aS:=fun _ svs os k=>match svs,os with
 | [.val (.int .i64) i,.val (.sl true lc) L,.own o,.val (.int .i64) n],[.arr t xs]=>
  bif pA [o,t] [2302,3] then bif pN [lc] [LNC] then
   (n.int=(xs.length:Int)∧0≤i.int∧i.int≤(L.list.length:Int)∧L.list.length≤1073741824∧xs.length≤65536∧eg xs∧gZ (L.list.drop i.int.toNat)=true∧ej (1 + i.int) xs=true)∧
   k (.exit 2) ⟨[(5,.own 2302)],[(2302,.arr 3 (bD (cH (L.list.drop i.int.toNat)) 0 xs))]⟩
  else False else False
 | _,_=>False
noncomputable def oL:aS:=fun _ svs os k=>match svs,os with
 | [.val (.int .i64) j,.val (.int .i64) n,.ptr p q,.own o,.val (.int .i64) i,.val (.sl true lc) L],[.arr t xs,.box [.val (.int .i64) a,.val (.int .i64) st,.val (.int .i64) ct,.val (.int .i64) e,.val (.int .u32) g]]=>
  bif pA [o,t,p,q] [2302,3,1024,0] then bif pN [lc] [LNC] then
   (n.int=(xs.length:Int)∧0≤st.int∧st.int≤65536∧0≤ct.int∧ct.int≤65536∧st.int≤j.int∧xs.length≤65536∧eg xs∧ej 4611686018427387904 (xs.drop j.int.toNat)=true)∧
   k (.exit 4) ⟨[(5,.own 2302),(7,vi i),(0,.val (.sl true LNC) L),(1,vi n)],[(2302,.arr 3 (bD (inI j.int (st.int + ct.int)) 0 xs))]⟩
  else False else False
 | _,_=>False
noncomputable def cnC:Ctx:=mkC PR bM aK aL (aw 0 [6,1,5,0] [2302] oJ (aw 2 [7,0,5,1] [2302] oq (aw 4 [9,1,8,5,7,0] [2302,1024] oL aC)))
 (an 0 [5,0,1] [2302] (an 2 [5] [2302] (an 4 [5,7,0,1] [2302] aq))) aq
theorem Bn (pan:KP) (μ:Mu) (N:Nat) (k:KE) (i n L:U) (xs:List U) {a b c} (_:a=(List.set xs i.int.toNat (U.i 1)):=by rfl) (_:b=(St.mk [(5,.own 2302),(0,.val (.sl true LNC) L),(1,vi n)] [(2302,.arr 3 xs)]):=by rfl) (_:c=(IntKind.wrap .i64 (i.int + 1)):=by rfl): (exec (cnC.panics pan) (aa Tryz.f56 0) 0 ⟨[(6,vi i),(1,vi n),(5,.own 2302),(0,.val (.sl true LNC) L)],[(2302,.arr 3 xs)]⟩ (again PR (some ([5,0,1],[2302])) none pan [6,1,5,0] [2302] oJ μ N k))=(bif decide (i.int < 2) then bif decide (i.int < n.int) then bif decide ((0:Int)≤i.int∧i.int < (xs.length:Int)) then bif Nat.blt i.int.toNat (List.length xs) then bif Nat.blt (μ [vi (U.i c),vi n,.own 2302,.val (.sl true LNC) L] [.arr 3 a]) N then (n.int=(↑(List.length a):Int)∧(0:Int)≤IntKind.wrap .i64 (i.int + 1)∧List.length a≤(65536:Nat)∧eg a∧ej 0 (List.drop (Int.toNat c) a)=true)∧k (Ex.exit 0) (St.mk [(5,.own 2302),(0,.val (.sl true LNC) L),(1,vi n)] [(2302,.arr 3 (bD (inI c 2) (0:Nat) a))]) else False else False else False else k (Ex.exit 0) b else k (Ex.exit 0) b):=by subst_vars;kernel_rfl
theorem Af (pan:KP) (μ:Mu) (N:Nat) (k:KE) (i n L:U) (xs:List U) {b a c d} (_:b=(nth (.i 0) L.list i.int.toNat):=by rfl) (_:a=(bD (inI (mx0 (stL b)) (stL b + ctL b)) (0:Nat) xs):=by rfl) (_:c=(List.drop (Int.toNat (IntKind.wrap .i64 (i.int + 1))) L.list):=by rfl) (_:d=(L.list.length:Int):=by rfl): (exec (cnC.panics pan) (aa Tryz.f56 1) 2 ⟨[(7,vi i),(0,.val (.sl true LNC) L),(5,.own 2302),(1,vi n)],[(2302,.arr 3 xs)]⟩ (again PR (some ([5],[2302])) none pan [7,0,5,1] [2302] oq μ N k))=(bif decide (i.int < d) then bif decide ((0:Int)≤i.int∧i.int < d) then (n.int=(xs.length:Int)∧(0:Int)≤stL b∧stL b≤65536∧(0:Int)≤ctL b∧ctL b≤65536∧(stL b≤mx0 (stL b))∧List.length xs≤(65536:Nat)∧eg xs∧ej 4611686018427387904 (List.drop (Int.toNat (mx0 (stL b))) xs)=true)∧bif Nat.blt (μ [vi (U.i (IntKind.wrap .i64 (i.int + 1))),.val (.sl true LNC) L,.own 2302,vi n] [.arr 3 a]) N then (n.int=(↑(List.length a):Int)∧(0:Int)≤IntKind.wrap .i64 (i.int + 1)∧IntKind.wrap .i64 (i.int + 1)≤d∧L.list.length≤(1073741824:Nat)∧List.length a≤(65536:Nat)∧eg a∧gZ c=true∧ej ((1:Int) + IntKind.wrap .i64 (i.int + 1)) a=true)∧k (Ex.exit 2) (St.mk [(5,.own 2302)] [(2302,.arr 3 (bD (cH c) (0:Nat) a))]) else False else False else k (Ex.exit 2) (St.mk [(5,.own 2302)] [(2302,.arr 3 xs)])):=by subst_vars;kernel_rfl
theorem Az (pan:KP) (μ:Mu) (N:Nat) (k:KE) (j n i L a st ct e g:U) (xs:List U) {b c d} (_:b=(List.set xs j.int.toNat (U.i (IntKind.wrap .i64 (U.int (nth (.i 0) xs j.int.toNat) + 1)))):=by rfl) (_:c=(St.mk [(5,.own 2302),(7,vi i),(0,.val (.sl true LNC) L),(1,vi n)] [(2302,.arr 3 xs)]):=by rfl) (_:d=(IntKind.wrap .i64 (j.int + 1)):=by rfl): (exec (cnC.panics pan) (aa Tryz.f56 2) 4 ⟨[(9,vi j),(1,vi n),(8,.ptr 1024 0),(5,.own 2302),(7,vi i),(0,.val (.sl true LNC) L)],[(2302,.arr 3 xs),(1024,.box [vi a,vi st,vi ct,vi e,.val (.int .u32) g])]⟩ (again PR (some ([5,7,0,1],[2302])) none pan [9,1,8,5,7,0] [2302,1024] oL μ N k))=(bif decide (j.int < n.int) then bif decide (IntKind.wrap .i64 (j.int - st.int) < ct.int) then bif decide ((0:Int)≤j.int∧j.int < (xs.length:Int)) then bif Nat.blt j.int.toNat (List.length xs) then bif decide ((0:Int)≤j.int∧j.int < (xs.length:Int)) then bif Nat.blt j.int.toNat (List.length xs) then bif Nat.blt (μ [vi (U.i d),vi n,.ptr 1024 0,.own 2302,vi i,.val (.sl true LNC) L] [.arr 3 b,.box [vi a,vi st,vi ct,vi e,.val (.int .u32) g]]) N then (n.int=(↑(List.length b):Int)∧(0:Int)≤st.int∧st.int≤65536∧(0:Int)≤ct.int∧ct.int≤65536∧st.int≤IntKind.wrap .i64 (j.int + 1)∧List.length b≤(65536:Nat)∧eg b∧ej 4611686018427387904 (List.drop (Int.toNat d) b)=true)∧k (Ex.exit 4) (St.mk [(5,.own 2302),(7,vi i),(0,.val (.sl true LNC) L),(1,vi n)] [(2302,.arr 3 (bD (inI d (st.int + ct.int)) (0:Nat) b))]) else False else False else False else False else False else k (Ex.exit 4) c else k (Ex.exit 4) c):=by subst_vars;kernel_rfl
theorem G5 (R:RF) (L n:U) {a b} (_:a=(List.replicate (Int.toNat n.int) (U.i 0)):=by rfl) (_:b=(bD (inI 0 2) (0:Nat) a):=by rfl): (run cnC Tryz.f56 [[L],[n]] R)=(bif decide (n.int < 0) then R [[U.l []]] else bif decide (n.int > 65536) then R [[U.l []]] else bif decide ((0:Int)≤n.int∧n.int≤n.int∧n.int≤(↑room:Int)) then (n.int=(↑(List.length a):Int)∧(0:Int)≤0∧List.length a≤(65536:Nat)∧eg a∧ej 0 (List.drop (Int.toNat 0) a)=true)∧(n.int=(↑(List.length b):Int)∧(0:Int)≤0∧(0:Int)≤(↑(List.length L.list):Int)∧List.length L.list≤(1073741824:Nat)∧List.length b≤(65536:Nat)∧eg b∧gZ (List.drop (Int.toNat 0) L.list)=true∧ej ((1:Int) + 0) b=true)∧R [[U.l (bD (cH (List.drop (Int.toNat 0) L.list)) (0:Nat) b)]] else False):=by subst_vars;kernel_rfl
def cnP:List (List U)→Prop:=fun us=>(nth (.i 0) (nth [] us 0) 0).list.length≤1073741824∧gZ (nth (.i 0) (nth [] us 0) 0).list=true
def cnS:List (List U)→List (List U):=fun us=>[[.l (bif decide ((nth (.i 0) (nth [] us 1) 0).int < 0) then [] else bif decide (65536 < (nth (.i 0) (nth [] us 1) 0).int) then [] else ofV (nth (.i 0) (nth [] us 0) 0).list (nth (.i 0) (nth [] us 1) 0).int.toNat)]]
noncomputable def roC:Ctx:=mkC PR bM (aV 12 gQ oY (aV 56 cnP cnS aK)) aL aC aq aq
theorem GC (R:RF) (c z s T Sh M Q n:U):(run roC Tryz.f28 [[c,z,s,T,Sh,M,Q],[n]] R)=(gQ [[c,z,s,T,Sh,M,Q]]∧cnP [[U.l (ai (U.i (-1:Int)) T.list ++ ad 0 Sh.list)],[n]]∧R [[U.l (bif decide (n.int < 0) then [] else bif decide ((65536:Int) < n.int) then [] else
 ofV (ai (U.i (-1:Int)) T.list ++ ad 0 Sh.list) (Int.toNat n.int))]]):=by kernel_rfl
end Go.Mat

namespace Go.Mat
open Go Go.Den Go.Proofs
set_option maxRecDepth 100000
theorem D5:aE cnC 0 (aa Tryz.f56 0):=by
 refine al (F:=oJ) (ts:=[6,1,5,0]) (os:=[2302]) rfl (fun svs _=>match svs with | .val _ i :: .val _ n :: _=>(n.int - i.int).toNat | _=>0) ?_
 intro pan svs os k ho1 ho2 h
 unfold oJ at h
 split at h
 ·rename_i i n o lc L t xs
  obtain ⟨⟨rfl,rfl,_⟩,⟨rfl,_⟩,⟨hn,h0,hx,hr,hb⟩,hk⟩:=rL h
  refine .eq (Bn pan _ _ k i n L xs) ?_
  refine bd (fun h2=>bd (fun hlt=>?_) (fun hlt=>?_)) (fun h2=>?_)
  ·have hi:i.int.toNat < xs.length:=by omega
   obtain ⟨b1,b2⟩:=mF hb hi
   have hwi:IntKind.wrap .i64 (i.int + 1)=i.int + 1:=i64_in (by omega) (by omega)
   have hc:(i.int + 1).toNat=i.int.toNat + 1:=by omega
   have he:U.i 1 = .i ((U.at xs i.int.toNat).int + 1):=by rw [show (U.at xs i.int.toNat).int=0 by omega];rfl
   refine dt ⟨h0,by omega⟩ (blt hi ?_)
   rw [he,hwi,hc]
   refine blt (by simp only [U.int_i];omega) ⟨⟨by rw [List.length_set];exact hn,by omega,by rw [List.length_set];exact hx,oO hr _ _,gr hb⟩,?_⟩
   rw [lY h0 h2 hi]
   exact hk
  ·rw [fb hr fun j hj=>?_] at hk
   ·exact hk
   ·unfold inI
    rw [decide_eq_false (by omega:¬ i.int≤(j:Int))];rfl
  ·rw [fb hr fun j hj=>?_] at hk
   ·exact hk
   ·unfold inI
    by_cases h1:i.int≤(j:Int)
    ·rw [decide_eq_false (by omega:¬ (j:Int) < 2),Bool.and_false];rfl
    ·rw [decide_eq_false h1];rfl
 ·exact h.elim
theorem DS:aE cnC 4 (aa Tryz.f56 2):=by
 refine al (F:=oL) (ts:=[9,1,8,5,7,0]) (os:=[2302,1024]) rfl (fun svs _=>match svs with | .val _ j :: .val _ n :: _=>(n.int - j.int).toNat | _=>0) ?_
 intro pan svs os k ho1 ho2 h
 unfold oL at h
 split at h
 ·rename_i j n p q o i lc L t xs a st ct e g
  obtain ⟨⟨rfl,rfl,rfl,rfl,_⟩,⟨rfl,_⟩,⟨hn,s0,s1,c0,c1,hsj,hx,hr,hb⟩,hk⟩:=rL h
  refine .eq (Az pan _ _ k j n i L a st ct e g xs) ?_
  refine bd (fun hlt=>?_) (fun hlt=>?_)
  ·have hws:IntKind.wrap .i64 (j.int - st.int)=j.int - st.int:=i64_in (by omega) (by omega)
   rw [hws]
   refine bd (fun h2=>?_) (fun h2=>?_)
   ·have hi:j.int.toNat < xs.length:=by omega
    obtain ⟨b1,b2⟩:=mF hb hi
    have hwi:IntKind.wrap .i64 (j.int + 1)=j.int + 1:=i64_in (by omega) (by omega)
    have hc:(j.int + 1).toNat=j.int.toNat + 1:=by omega
    have hwx:IntKind.wrap .i64 ((U.at xs j.int.toNat).int + 1)=(U.at xs j.int.toNat).int + 1:=i64_in (by omega) (by omega)
    have h0:0≤j.int:=by omega
    refine dt ⟨h0,by omega⟩ (blt hi (dt ⟨h0,by omega⟩ (blt hi ?_)))
    rw [hwi,hc,hwx]
    refine blt (by simp only [U.int_i];omega) ⟨⟨by rw [List.length_set];exact hn,s0,s1,c0,c1,by omega,by rw [List.length_set];exact hx,oO hr _ _,gr hb⟩,?_⟩
    rw [lY h0 (by omega) hi]
    exact hk
   ·rw [fb hr fun k hk=>?_] at hk
    ·exact hk
    ·unfold inI
     by_cases h1:j.int≤(k:Int)
     ·rw [decide_eq_false (by omega:¬ (k:Int) < st.int + ct.int),Bool.and_false];rfl
     ·rw [decide_eq_false h1];rfl
  ·rw [fb hr fun k hk=>?_] at hk
   ·exact hk
   ·unfold inI
    rw [decide_eq_false (by omega:¬ j.int≤(k:Int))];rfl
 ·exact h.elim
theorem IL (x:U):stL x=(pS x).int∧ctL x=(uG x).int:=by
 unfold stL ctL
 simp only [pS,uG,aD,bW,Nat.zero_add,Nat.add_zero,Nat.reduceAdd,and_self]
theorem Ck:aE cnC 2 (aa Tryz.f56 1):=by
 refine al (F:=oq) (ts:=[7,0,5,1]) (os:=[2302]) rfl (fun svs _=>match svs with | .val _ i :: .val _ L :: _=>L.list.length - i.int.toNat | _=>0) ?_
 intro pan svs os k ho1 ho2 h
 unfold oq at h
 split at h
 ·rename_i i lc L o n t xs
  obtain ⟨⟨rfl,rfl,_⟩,⟨rfl,_⟩,⟨hn,h0,hi,hL,hx,hr,hf,hb⟩,hk⟩:=rL h
  refine .eq (Af pan _ _ k i n L xs) ?_
  refine bd (fun hlt=>?_) (fun hlt=>?_)
  ·have hil:i.int.toNat < L.list.length:=by omega
   have hwi:IntKind.wrap .i64 (i.int + 1)=i.int + 1:=i64_in (by omega) (by omega)
   have hc:(i.int + 1).toNat=i.int.toNat + 1:=by omega
   have hμ:L.list.length - (i.int + 1).toNat < L.list.length - i.int.toNat:=by omega
   rw [bc hil] at hf hk
   rw [gZ] at hf
   simp only [Bool.and_eq_true,decide_eq_true_eq] at hf
   obtain ⟨⟨⟨⟨s0,s1⟩,c0⟩,c1⟩,f2⟩:=hf
   obtain ⟨e1,e2⟩:=IL (U.at L.list i.int.toNat)
   have hm:mx0 (stL (U.at L.list i.int.toNat))=(pS (U.at L.list i.int.toNat)).int:=by unfold mx0;rw [e1,decide_eq_false (by omega)];rfl
   refine dt ⟨h0,hlt⟩ ?_
   rw [hwi,hc,show nth (U.i 0) L.list i.int.toNat=U.at L.list i.int.toNat from rfl,hm,e1,e2]
   refine ⟨⟨hn,s0,s1,c0,c1,Int.le_refl _,hx,hr,List.all_eq_true.2 fun x hm=>?_⟩,blt hμ ⟨⟨by rw [ck];exact hn,by omega,by omega,hL,by rw [ck];exact hx,fU _ _,f2,?_⟩,?_⟩⟩
   ·have:=List.all_eq_true.1 hb x (List.mem_of_mem_drop hm)
    simp only [Bool.and_eq_true,decide_eq_true_eq] at this ⊢
    omega
   ·rw [show (1:Int) + (i.int + 1)=1 + i.int + 1 by omega]
    exact fq 0 xs hb fun j=>iH _ _ j
   ·rw [dI]
    exact hk
  ·rw [List.drop_of_length_le (by omega)] at hk
   rw [fb (f:=cH []) hr fun j _=>rfl] at hk
   exact hk
 ·exact h.elim
theorem E5 (L:List U) (m:Nat):bD (cH L) 0 (bD (inI 0 2) 0 (List.replicate m (.i 0)))=ofV L m:=by
 rw [← Eh L m]
 congr 1
 refine bZ 0 _ fun j _ hj=>(jg (n:=(m:Int)) ?_ ?_ ?_).symm
 ·rw [List.length_replicate] at hj;omega
 ·by_cases h:(2:Int) < m
  ·rw [decide_eq_true h];exact Int.le_refl _
  ·rw [decide_eq_false h];simp only [cond_false];omega
 ·by_cases h:(2:Int) < m
  ·rw [decide_eq_true h];simp only [cond_true];omega
  ·rw [decide_eq_false h];simp only [cond_false];omega
theorem IQ:cG PR 56 cnP cnS:=fun fn us hfn hpre=>by
 have hf:PR.funcs[(56:Nat)]? = some Tryz.f56:=by kernel_rfl
 rw [hf] at hfn;cases hfn
 refine aM (C:=cnC) (aB ao af .nil .nil) hf (by kernel_rfl) (dP (by kernel_rfl) D5 Ck DS) fun hok=>?_
 have hp:Tryz.f56.params.toList=[42,3]:=by kernel_rfl
 rw [hp] at hok
 obtain ⟨u,u2,rfl,h1,h2⟩:=bR (by kernel_rfl:Cs PR 42=some (false,[.sl true LNC])) (by kernel_rfl:Cs PR 3=some (false,[.int .i64])) hok.1
 obtain ⟨L,rfl⟩:=bG h1
 obtain ⟨n,rfl⟩:=bG h2
 obtain ⟨hl,hfit⟩:L.list.length≤1073741824∧gZ L.list=true:=hpre
 refine .eq (G5 _ L n) ?_
 rw [show cnS [[L],[n]]=[[.l (bif decide (n.int < 0) then [] else bif decide (65536 < n.int) then [] else ofV L.list n.int.toNat)]] from rfl]
 refine bd (fun h1=>by rw [decide_eq_true h1];rfl) (fun h1=>bd (fun h2=>by rw [decide_eq_false h1,decide_eq_true (by omega:65536 < n.int)];rfl) (fun h2=>?_))
 rw [decide_eq_false h1,decide_eq_false (by omega:¬ 65536 < n.int)]
 obtain ⟨m,hm⟩:∃ m:Nat,n.int=(m:Int):=⟨n.int.toNat,by omega⟩
 simp only [cond_false,Int.toNat_zero,List.drop_zero,hm,Int.toNat_natCast,List.length_replicate,ck]
 refine dt ⟨by omega,by omega,by unfold room;omega⟩ ⟨⟨by trivial,by omega,by omega,?_,?_⟩,⟨by trivial,by omega,by omega,hl,by omega,fU _ _,hfit,?_⟩,?_⟩
 ·unfold eg
  rw [iM,List.map_const',List.length_range']
 ·refine List.all_eq_true.2 fun x hx=>?_
  rw [(List.mem_replicate.1 hx).2]
  rfl
 ·rw [Int.add_zero,show (1:Int)=0 + 1 from rfl]
  refine fq 0 _ (List.all_eq_true.2 fun x hx=>?_) fun j=>iH _ _ j
  rw [(List.mem_replicate.1 hx).2]
  rfl
 ·rw [E5]
theorem I6:cG PR 28 ofP ofS:=fun fn us hfn hpre=>by
 have hf:PR.funcs[(28:Nat)]? = some Tryz.f28:=by kernel_rfl
 rw [hf] at hfn;cases hfn
 refine aM (C:=roC) (aB ao af (.consP pf (.consP IQ .nil)) .nil) hf (by kernel_rfl) (aI (by kernel_rfl)) fun hok=>?_
 have hp:Tryz.f28.params.toList=[29,3]:=by kernel_rfl
 rw [hp] at hok
 obtain ⟨u,u2,rfl,h1,h2⟩:=bR (by kernel_rfl:Cs PR 29=some (true,[.int .i64,.int .i64,.str,.sl false [.sl true EC],.sl true SC,.sl true BC,.sl false [.int .i64]])) (by kernel_rfl:Cs PR 3=some (false,[.int .i64])) hok.1
 obtain ⟨c,z,s,T,Sh,M,Q,rfl⟩:=oc h1
 obtain ⟨n,rfl⟩:=bG h2
 obtain ⟨hE,hfit⟩:=hpre
 obtain ⟨e1,e2,e3⟩:T.list.length≤65536∧Sh.list.length≤1000∧bb Sh.list=true:=hE
 have hfit:gZ (ai (.i (-1)) T.list ++ ad 0 Sh.list)=true:=hfit
 have hlen:(ai (.i (-1)) T.list ++ ad 0 Sh.list).length≤1073741824:=by
  have h1:=de (.i (-1)) T.list
  have h2:=fY 0 Sh.list e3
  rw [List.length_append]
  omega
 exact .eq (GC _ c z s T Sh M Q n) ⟨⟨e1,e2,e3⟩,⟨hlen,hfit⟩,rfl⟩
end Go.Mat

namespace Go.Mat
open Go Go.Den Go.Proofs
def gI (a b d e g:U) (st:List U × List U) (p:U):List U × List U:=
 bif decide ((U.at p.list 0).int < 0) then (jQ st.1 (nth (.i 0) p.list.tail 0).int a b d e g,st.2)
 else (st.1,st.2.set (U.at p.list 0).int.toNat (cA (U.at st.2 (U.at p.list 0).int.toNat) (jQ (shT (U.at st.2 (U.at p.list 0).int.toNat)).list (nth (.i 0) p.list.tail 0).int a b d e g)))
def plA (l:U):Int:=(nth (.i 0) (l.list.drop 0) 0).int
def ixA (l:U):U:=nth (.i 0) (l.list.drop 1) 0
def ryT (T l:U):List U:=jQ T.list (ixA l).int (.i 1) (.i 0) (.i 0) (.i 0) (.i 0)
def ryX (X:List U) (l:U):U:=cA (nth (.i 0) X (plA l).toNat) (jQ (shT (nth (.i 0) X (plA l).toNat)).list (ixA l).int (.i 1) (.i 0) (.i 0) (.i 0) (.i 0))
def ryR (X:List U) (l:U):List U:=X.set (plA l).toNat (ryX X l)
def atL (L i:U):U:=nth (.i 0) L.list i.int.toNat
def dw (T X ps:List U):List U × List U:=ps.foldl (gI (.i 1) (.i 0) (.i 0) (.i 0) (.i 0)) (T,X)
noncomputable def sU:aS:=fun _ svs os k=>match svs,os with
 | [.val (.int .i64) i,.val (.sl true lc) L,.ptr p8 q8,.val (.sl false [.int .u8]) F,.ptr p4 q4],[.box [.val (.int .i64) c,.val (.int .i64) z,.val .str s,.val (.sl false [.sl true x1]) T,.own o,.val (.sl true x2) M,.own o6],.arr t X,.arr t6 Q,
   .box [.val (.int .i64) r1,.val (.int .i64) r2,.val .str r3,.own o1,.own o2,.own o3,.own o4],.arr t4 [],.arr t3 [],.arr t2 [],.arr t1 []]=>
  bif pA [p8,q8,p4,q4,o,t,o6,t6,o1,o2,o3,o4,t4,t3,t2,t1] [1024,0,512,0,2832,55,2834,3,520,522,524,526,3,64,55,47] then bif pN [lc,x1,x2] [LNC,EC,BC] then
   (T = .l T.list∧0≤i.int∧i.int≤(L.list.length:Int)∧fT T.list X (L.list.drop i.int.toNat))∧
   k (.exit 0) ⟨[(8,.ptr 1024 0),(1,.val (.sl false [.int .u8]) F),(4,.ptr 512 0)],[(1024,.box [vi c,vi z,vs s,.val TRC (.l (dw T.list X (L.list.drop i.int.toNat)).1),.own 2832,vt BC M,.own 2834]),(2832,.arr 55 (dw T.list X (L.list.drop i.int.toNat)).2),(2834,.arr 3 Q),
    (512,.box [vi r1,vi r2,vs r3,.own 520,.own 522,.own 524,.own 526]),(526,.arr 3 []),(524,.arr 64 []),(522,.arr 55 []),(520,.arr 47 [])]⟩
  else False else False
 | _,_=>False
noncomputable def ryC:Ctx:=mkC PR bM (aH 25 xh (aV 26 ta gdS (aH 29 mW (aV 28 ofP ofS (aV 27 fc Dq aK)))))
 (cw 6 [] rcF aL)
 (aw 0 [9,7,8,1,4] [1024,2832,2834,512,526,524,522,520] sU aC) (an 0 [8,1,4] [1024,2832,2834,512,526,524,522,520] aq) aq
theorem DI (pan:KP) (μ:Mu) (N:Nat) (k:KE) (i L F c z s T M r1 r2 r3:U) (X Q:List U) {a b d e f g h j m n o p q r t u v} (_:a=(List.drop (Int.toNat (IntKind.wrap .i64 (i.int + 1))) L.list):=by rfl) (_:b=(512,.box [vi r1,vi r2,.val .str r3,.own 520,.own 522,.own 524,.own 526]):=by rfl) (_:d=(Int.toNat (plA (atL L i))):=by rfl) (_:e=(ryR X (atL L i)):=by rfl) (_:f=(List.tail (List.tail (U.list (nth (.i 0) X d)))):=by rfl) (_:g=(U.i (IntKind.wrap .i64 (i.int + 1))):=by rfl) (_:h=(1,.val (.sl false [.int .u8]) F):=by rfl) (_:j=(L.list.length:Int):=by rfl) (_:m=(List.length X):=by rfl) (_:n=(X.length:Int):=by rfl) (_:o=(524,.arr 64 []):=by rfl) (_:p=(522,.arr 55 []):=by rfl) (_:q=(520,.arr 47 []):=by rfl) (_:r=(8,.ptr 1024 0):=by rfl) (_:t=(2834,.arr 3 Q):=by rfl) (_:u=(526,.arr 3 []):=by rfl) (_:v=(4,.ptr 512 0):=by rfl): (exec (ryC.panics pan) (aa Tryz.f8 0) 0 ⟨[(9,vi i),(7,.val (.sl true LNC) L),(8,.ptr 1024 0),(1,.val (.sl false [.int .u8]) F),(4,.ptr 512 0)],[(1024,.box [vi c,vi z,vs s,.val TRC T,.own 2832,vt BC M,.own 2834]),(2832,.arr 55 X),(2834,.arr 3 Q),(512,.box [vi r1,vi r2,vs r3,.own 520,.own 522,.own 524,.own 526]),(526,.arr 3 []),(524,.arr 64 []),(522,.arr 55 []),(520,.arr 47 [])]⟩ (again PR (some ([8,1,4],[1024,2832,2834,512,526,524,522,520])) none pan [9,7,8,1,4] [1024,2832,2834,512,526,524,522,520] sU μ N k))=(bif decide (i.int < j) then bif decide ((0:Int)≤i.int∧i.int < j) then bif decide (plA (atL L i) < 0) then bif decide ((0:Int)≤i.int∧i.int < j) then (fun T=>Alt T T) (fc [[T],[ixA (atL L i)],[U.i 1,U.i 0,U.i 0,U.i 0,U.i 0]]∧bif Nat.blt (μ [vi g,.val (.sl true LNC) L,.ptr 1024 0,.val (.sl false [.int .u8]) F,.ptr 512 0] [.box [vi c,vi z,.val .str s,.val (TRC) (U.l (ryT T (atL L i))),.own 2832,.val (.sl true BC) M,.own 2834],.arr 55 X,.arr 3 Q,.box [vi r1,vi r2,.val .str r3,.own 520,.own 522,.own 524,.own 526],.arr 3 [],.arr 64 [],.arr 55 [],.arr 47 []]) N then (U.l (ryT T (atL L i))=U.l (ryT T (atL L i))∧(0:Int)≤IntKind.wrap .i64 (i.int + 1)∧IntKind.wrap .i64 (i.int + 1)≤j∧fT (ryT T (atL L i)) X a)∧k (Ex.exit 0) (St.mk [r,h,v] [(1024,.box [vi c,vi z,.val .str s,.val (TRC) (U.l (Prod.fst (dw (ryT T (atL L i)) X a))),.own 2832,.val (.sl true BC) M,.own 2834]),(2832,.arr 55 (Prod.snd (dw (ryT T (atL L i)) X a))),t,b,u,o,p,q]) else False) else False else bif decide ((0:Int)≤i.int∧i.int < j) then bif decide ((0:Int)≤i.int∧i.int < j) then bif decide ((0:Int)≤i.int∧i.int < j) then Alt (Alt (bif decide ((0:Int)≤plA (atL L i)∧plA (atL L i) < n) then (fun T=>Alt T T) (bif Nat.blt d m then fc [[nth (.i 0) f 0],[ixA (atL L i)],[U.i 1,U.i 0,U.i 0,U.i 0,U.i 0]]∧bif decide ((0:Int)≤plA (atL L i)∧plA (atL L i) < n) then bif Nat.blt d m then bif Nat.blt (μ [vi g,.val (.sl true LNC) L,.ptr 1024 0,.val (.sl false [.int .u8]) F,.ptr 512 0] [.box [vi c,vi z,.val .str s,.val (TRC) T,.own 2832,.val (.sl true BC) M,.own 2834],.arr 55 e,.arr 3 Q,.box [vi r1,vi r2,.val .str r3,.own 520,.own 522,.own 524,.own 526],.arr 3 [],.arr 64 [],.arr 55 [],.arr 47 []]) N then (T=U.l T.list∧(0:Int)≤IntKind.wrap .i64 (i.int + 1)∧IntKind.wrap .i64 (i.int + 1)≤j∧fT T.list e a)∧k (Ex.exit 0) (St.mk [r,h,v] [(1024,.box [vi c,vi z,.val .str s,.val (TRC) (U.l (Prod.fst (dw T.list e a))),.own 2832,.val (.sl true BC) M,.own 2834]),(2832,.arr 55 (Prod.snd (dw T.list e a))),t,b,u,o,p,q]) else False else False else False else False) else False) (bif decide ((0:Int)≤plA (atL L i)∧plA (atL L i) < n) then bif Nat.blt d m then fc [[nth (.i 0) f 0],[ixA (atL L i)],[U.i 1,U.i 0,U.i 0,U.i 0,U.i 0]]∧bif decide ((0:Int)≤plA (atL L i)∧plA (atL L i) < n) then bif Nat.blt d m then bif Nat.blt (μ [vi g,.val (.sl true LNC) L,.ptr 1024 0,.val (.sl false [.int .u8]) F,.ptr 512 0] [.box [vi c,vi z,.val .str s,.val (TRC) T,.own 2832,.val (.sl true BC) M,.own 2834],.arr 55 e,.arr 3 Q,.box [vi r1,vi r2,.val .str r3,.own 520,.own 522,.own 524,.own 526],.arr 3 [],.arr 64 [],.arr 55 [],.arr 47 []]) N then (T=U.l T.list∧(0:Int)≤IntKind.wrap .i64 (i.int + 1)∧IntKind.wrap .i64 (i.int + 1)≤j∧fT T.list e a)∧k (Ex.exit 0) (St.mk [r,h,v] [(1024,.box [vi c,vi z,.val .str s,.val (TRC) (U.l (Prod.fst (dw T.list e a))),.own 2832,.val (.sl true BC) M,.own 2834]),(2832,.arr 55 (Prod.snd (dw T.list e a))),t,b,u,o,p,q]) else False else False else False else False else False)) (Alt (bif decide ((0:Int)≤plA (atL L i)∧plA (atL L i) < n) then Alt ((fun T=>Alt T T) (bif Nat.blt d m then fc [[nth (.i 0) f 0],[ixA (atL L i)],[U.i 1,U.i 0,U.i 0,U.i 0,U.i 0]]∧bif decide ((0:Int)≤plA (atL L i)∧plA (atL L i) < n) then bif Nat.blt d m then bif Nat.blt (μ [vi g,.val (.sl true LNC) L,.ptr 1024 0,.val (.sl false [.int .u8]) F,.ptr 512 0] [.box [vi c,vi z,.val .str s,.val (TRC) T,.own 2832,.val (.sl true BC) M,.own 2834],.arr 55 e,.arr 3 Q,.box [vi r1,vi r2,.val .str r3,.own 520,.own 522,.own 524,.own 526],.arr 3 [],.arr 64 [],.arr 55 [],.arr 47 []]) N then (T=U.l T.list∧(0:Int)≤IntKind.wrap .i64 (i.int + 1)∧IntKind.wrap .i64 (i.int + 1)≤j∧fT T.list e a)∧k (Ex.exit 0) (St.mk [r,h,v] [(1024,.box [vi c,vi z,.val .str s,.val (TRC) (U.l (Prod.fst (dw T.list e a))),.own 2832,.val (.sl true BC) M,.own 2834]),(2832,.arr 55 (Prod.snd (dw T.list e a))),t,b,u,o,p,q]) else False else False else False else False)) (Alt (bif Nat.blt d m then (fun T=>Alt T (Alt T T)) (fc [[nth (.i 0) f 0],[ixA (atL L i)],[U.i 1,U.i 0,U.i 0,U.i 0,U.i 0]]∧bif decide ((0:Int)≤plA (atL L i)∧plA (atL L i) < n) then bif Nat.blt d m then bif Nat.blt (μ [vi g,.val (.sl true LNC) L,.ptr 1024 0,.val (.sl false [.int .u8]) F,.ptr 512 0] [.box [vi c,vi z,.val .str s,.val (TRC) T,.own 2832,.val (.sl true BC) M,.own 2834],.arr 55 e,.arr 3 Q,.box [vi r1,vi r2,.val .str r3,.own 520,.own 522,.own 524,.own 526],.arr 3 [],.arr 64 [],.arr 55 [],.arr 47 []]) N then (T=U.l T.list∧(0:Int)≤IntKind.wrap .i64 (i.int + 1)∧IntKind.wrap .i64 (i.int + 1)≤j∧fT T.list e a)∧k (Ex.exit 0) (St.mk [r,h,v] [(1024,.box [vi c,vi z,.val .str s,.val (TRC) (U.l (Prod.fst (dw T.list e a))),.own 2832,.val (.sl true BC) M,.own 2834]),(2832,.arr 55 (Prod.snd (dw T.list e a))),t,b,u,o,p,q]) else False else False else False) else False) (Alt (bif Nat.blt d m then fc [[nth (.i 0) f 0],[ixA (atL L i)],[U.i 1,U.i 0,U.i 0,U.i 0,U.i 0]]∧bif decide ((0:Int)≤plA (atL L i)∧plA (atL L i) < n) then bif Nat.blt d m then bif Nat.blt (μ [vi g,.val (.sl true LNC) L,.ptr 1024 0,.val (.sl false [.int .u8]) F,.ptr 512 0] [.box [vi c,vi z,.val .str s,.val (TRC) T,.own 2832,.val (.sl true BC) M,.own 2834],.arr 55 e,.arr 3 Q,.box [vi r1,vi r2,.val .str r3,.own 520,.own 522,.own 524,.own 526],.arr 3 [],.arr 64 [],.arr 55 [],.arr 47 []]) N then (T=U.l T.list∧(0:Int)≤IntKind.wrap .i64 (i.int + 1)∧IntKind.wrap .i64 (i.int + 1)≤j∧fT T.list e a)∧k (Ex.exit 0) (St.mk [r,h,v] [(1024,.box [vi c,vi z,.val .str s,.val (TRC) (U.l (Prod.fst (dw T.list e a))),.own 2832,.val (.sl true BC) M,.own 2834]),(2832,.arr 55 (Prod.snd (dw T.list e a))),t,b,u,o,p,q]) else False else False else False else False) (bif Nat.blt d m then (fun T=>Alt T T) (fc [[nth (.i 0) f 0],[ixA (atL L i)],[U.i 1,U.i 0,U.i 0,U.i 0,U.i 0]]∧bif decide ((0:Int)≤plA (atL L i)∧plA (atL L i) < n) then bif Nat.blt d m then bif Nat.blt (μ [vi g,.val (.sl true LNC) L,.ptr 1024 0,.val (.sl false [.int .u8]) F,.ptr 512 0] [.box [vi c,vi z,.val .str s,.val (TRC) T,.own 2832,.val (.sl true BC) M,.own 2834],.arr 55 e,.arr 3 Q,.box [vi r1,vi r2,.val .str r3,.own 520,.own 522,.own 524,.own 526],.arr 3 [],.arr 64 [],.arr 55 [],.arr 47 []]) N then (T=U.l T.list∧(0:Int)≤IntKind.wrap .i64 (i.int + 1)∧IntKind.wrap .i64 (i.int + 1)≤j∧fT T.list e a)∧k (Ex.exit 0) (St.mk [r,h,v] [(1024,.box [vi c,vi z,.val .str s,.val (TRC) (U.l (Prod.fst (dw T.list e a))),.own 2832,.val (.sl true BC) M,.own 2834]),(2832,.arr 55 (Prod.snd (dw T.list e a))),t,b,u,o,p,q]) else False else False else False) else False))) else False) (Alt (bif decide ((0:Int)≤plA (atL L i)∧plA (atL L i) < n) then bif Nat.blt d m then fc [[nth (.i 0) f 0],[ixA (atL L i)],[U.i 1,U.i 0,U.i 0,U.i 0,U.i 0]]∧bif decide ((0:Int)≤plA (atL L i)∧plA (atL L i) < n) then bif Nat.blt d m then bif Nat.blt (μ [vi g,.val (.sl true LNC) L,.ptr 1024 0,.val (.sl false [.int .u8]) F,.ptr 512 0] [.box [vi c,vi z,.val .str s,.val (TRC) T,.own 2832,.val (.sl true BC) M,.own 2834],.arr 55 e,.arr 3 Q,.box [vi r1,vi r2,.val .str r3,.own 520,.own 522,.own 524,.own 526],.arr 3 [],.arr 64 [],.arr 55 [],.arr 47 []]) N then (T=U.l T.list∧(0:Int)≤IntKind.wrap .i64 (i.int + 1)∧IntKind.wrap .i64 (i.int + 1)≤j∧fT T.list e a)∧k (Ex.exit 0) (St.mk [r,h,v] [(1024,.box [vi c,vi z,.val .str s,.val (TRC) (U.l (Prod.fst (dw T.list e a))),.own 2832,.val (.sl true BC) M,.own 2834]),(2832,.arr 55 (Prod.snd (dw T.list e a))),t,b,u,o,p,q]) else False else False else False else False else False) (bif decide ((0:Int)≤plA (atL L i)∧plA (atL L i) < n) then Alt (bif Nat.blt d m then fc [[nth (.i 0) f 0],[ixA (atL L i)],[U.i 1,U.i 0,U.i 0,U.i 0,U.i 0]]∧bif decide ((0:Int)≤plA (atL L i)∧plA (atL L i) < n) then bif Nat.blt d m then bif Nat.blt (μ [vi g,.val (.sl true LNC) L,.ptr 1024 0,.val (.sl false [.int .u8]) F,.ptr 512 0] [.box [vi c,vi z,.val .str s,.val (TRC) T,.own 2832,.val (.sl true BC) M,.own 2834],.arr 55 e,.arr 3 Q,.box [vi r1,vi r2,.val .str r3,.own 520,.own 522,.own 524,.own 526],.arr 3 [],.arr 64 [],.arr 55 [],.arr 47 []]) N then (T=U.l T.list∧(0:Int)≤IntKind.wrap .i64 (i.int + 1)∧IntKind.wrap .i64 (i.int + 1)≤j∧fT T.list e a)∧k (Ex.exit 0) (St.mk [r,h,v] [(1024,.box [vi c,vi z,.val .str s,.val (TRC) (U.l (Prod.fst (dw T.list e a))),.own 2832,.val (.sl true BC) M,.own 2834]),(2832,.arr 55 (Prod.snd (dw T.list e a))),t,b,u,o,p,q]) else False else False else False else False) (bif Nat.blt d m then (fun T=>Alt T T) (fc [[nth (.i 0) f 0],[ixA (atL L i)],[U.i 1,U.i 0,U.i 0,U.i 0,U.i 0]]∧bif decide ((0:Int)≤plA (atL L i)∧plA (atL L i) < n) then bif Nat.blt d m then bif Nat.blt (μ [vi g,.val (.sl true LNC) L,.ptr 1024 0,.val (.sl false [.int .u8]) F,.ptr 512 0] [.box [vi c,vi z,.val .str s,.val (TRC) T,.own 2832,.val (.sl true BC) M,.own 2834],.arr 55 e,.arr 3 Q,.box [vi r1,vi r2,.val .str r3,.own 520,.own 522,.own 524,.own 526],.arr 3 [],.arr 64 [],.arr 55 [],.arr 47 []]) N then (T=U.l T.list∧(0:Int)≤IntKind.wrap .i64 (i.int + 1)∧IntKind.wrap .i64 (i.int + 1)≤j∧fT T.list e a)∧k (Ex.exit 0) (St.mk [r,h,v] [(1024,.box [vi c,vi z,.val .str s,.val (TRC) (U.l (Prod.fst (dw T.list e a))),.own 2832,.val (.sl true BC) M,.own 2834]),(2832,.arr 55 (Prod.snd (dw T.list e a))),t,b,u,o,p,q]) else False else False else False) else False) else False))) else False else False else False else False else k (Ex.exit 0) (St.mk [r,h,v] [(1024,.box [vi c,vi z,.val .str s,.val (TRC) T,.own 2832,.val (.sl true BC) M,.own 2834]),(2832,.arr 55 X),t,b,u,o,p,q])):=by subst_vars;kernel_rfl
theorem GS (R:RF) (c z s T Sh M Q F:U) {a b} (_:a=(List.map cmU Sh.list):=by rfl) (_:b=(List.map cmU M.list):=by rfl): (run ryC Tryz.f8 [[c,z,s,T,Sh,M,Q],[F]] R)=(bif !cq c z s T Sh M Q then R [[U.i 0,U.i 0,U.s ⟨#[]⟩,U.l [],U.l [],U.l [],U.l []],[U.i 1]] else ta [[c,z,s,T,Sh,M,Q],[F]]∧((EC=EC∧SC=SC∧BC=BC)∧rcQ T Sh M Q)∧(U.l T.list=U.l T.list∧(0:Int)≤0∧(0:Int)≤(↑(List.length (Prod.snd (gdU [[c,z,s,T,Sh,M,Q],[F]]))):Int)∧fT T.list a (List.drop (Int.toNat 0) (Prod.snd (gdU [[c,z,s,T,Sh,M,Q],[F]]))))∧(fun T=>Alt T T) (ofP [[c,z,s,U.l (Prod.fst (dw T.list a (List.drop (Int.toNat 0) (Prod.snd (gdU [[c,z,s,T,Sh,M,Q],[F]]))))),U.l (Prod.snd (dw T.list a (List.drop (Int.toNat 0) (Prod.snd (gdU [[c,z,s,T,Sh,M,Q],[F]]))))),U.l b,U.l Q.list],[U.i (szU F)]]∧R [[c,z,s,U.l (Prod.fst (dw T.list a (List.drop (Int.toNat 0) (Prod.snd (gdU [[c,z,s,T,Sh,M,Q],[F]]))))),U.l (Prod.snd (dw T.list a (List.drop (Int.toNat 0) (Prod.snd (gdU [[c,z,s,T,Sh,M,Q],[F]]))))),U.l b,U.l (bif decide (szU F < 0) then [] else bif decide ((65536:Int) < szU F) then [] else ofV (iC [[c,z,s,U.l (Prod.fst (dw T.list a (List.drop (Int.toNat 0) (Prod.snd (gdU [[c,z,s,T,Sh,M,Q],[F]]))))),U.l (Prod.snd (dw T.list a (List.drop (Int.toNat 0) (Prod.snd (gdU [[c,z,s,T,Sh,M,Q],[F]]))))),U.l b,U.l Q.list],[U.i (szU F)]]) (Int.toNat (szU F)))],[U.i 0]])):=by subst_vars;kernel_rfl
end Go.Mat

namespace Go.Mat
open Go Go.Den Go.Proofs
set_option maxRecDepth 100000
theorem qG {T:List U} {i:Int} {a b d e g:U} (h:dv T):dv (jQ T i a b d e g):=by
 unfold jQ
 cases hc:decide (i < 0) || (decide (i ≥ 4096) || !bl T a.int b.int d.int e.int g.int 7 0) with
 | true=>rw [cond_true];exact h
 | false=>
  rw [cond_false]
  simp only [Bool.or_eq_false_iff,decide_eq_false_iff_not] at hc
  cases (a.int == 0) && decide (((i.toNat / 8:Nat):Int) ≥ (T.length:Int)) with
  | true=>rw [cond_true];exact h
  | false=>
   rw [cond_false]
   have hm:i.toNat < 4096:=by omega
   unfold xU
   simp only
   generalize i.toNat=m at hm
   obtain ⟨k,hk⟩:=i9 ((bm T (m / 8 + 1 - T.length)).set (m / 8) (.l (iY (bj (rowOf (U.at (bm T (m / 8 + 1 - T.length)) (m / 8))) (m % 8) [a,b,d,e,g])))).length ((bm T (m / 8 + 1 - T.length)).set (m / 8) (.l (iY (bj (rowOf (U.at (bm T (m / 8 + 1 - T.length)) (m / 8))) (m % 8) [a,b,d,e,g]))))
   rw [hk]
   have hp:dv (bm T (m / 8 + 1 - T.length)):=vR h (by have:=h.1;omega)
   refine rr (uo hp ?_) k
   unfold iY
   cases !di (bj (rowOf (U.at (bm T (m / 8 + 1 - T.length)) (m / 8))) (m % 8) [a,b,d,e,g]) 8 with
   | true=>rw [cond_true];exact Nat.zero_le _
   | false=>
    rw [cond_false]
    unfold bj
    rw [List.length_set]
    exact wK (yJ hp _)
theorem HE (l:U):ixA l=nth (.i 0) l.list.tail 0:=by unfold ixA;rw [bW,aD]
theorem BZ (T l:U) (X:List U):gI (.i 1) (.i 0) (.i 0) (.i 0) (.i 0) (T.list,X) l=bif decide (plA l < 0) then (ryT T l,X) else (T.list,ryR X l):=by
 unfold gI ryT ryR ryX
 rw [HE]
 rfl
theorem AN {T l:U} {X ps:List U} (h:fT T.list X (l :: ps)):(plA l < 0→fT (ryT T l) X ps)∧(¬ plA l < 0→fT T.list (ryR X l) ps∧(plA l).toNat < X.length):=by
 obtain ⟨⟨h1,h2⟩,h3,h4⟩:=h
 have hp:plA l < (X.length:Int):=h4 l (List.mem_cons_self ..)
 refine ⟨fun _=>⟨⟨qG h1,h2⟩,h3,fun q hq=>h4 q (List.mem_cons_of_mem _ hq)⟩,fun hn=>?_⟩
 have hk:(plA l).toNat < X.length:=by omega
 refine ⟨⟨⟨h1,fun x hx=>?_⟩,by unfold ryR;rw [List.length_set];exact h3,fun q hq=>by unfold ryR;rw [List.length_set];exact h4 q (List.mem_cons_of_mem _ hq)⟩,hk⟩
 unfold ryR at hx
 rcases List.mem_or_eq_of_mem_set hx with hx | rfl
 ·exact h2 x hx
 ·unfold ryX
  rw [fJ]
  refine qG (h2 _ ?_)
  rw [show nth (U.i 0) X (plA l).toNat=U.at X (plA l).toNat from rfl,eG hk]
  exact List.getElem_mem hk
theorem Gr:aE ryC 0 (aa Tryz.f8 0):=by
 refine al (F:=sU) (ts:=[9,7,8,1,4]) (os:=[1024,2832,2834,512,526,524,522,520]) rfl (fun svs _=>match svs with | .val _ i :: .val _ L :: _=>L.list.length - i.int.toNat | _=>0) ?_
 intro pan svs os k ho1 ho2 h
 unfold sU at h
 split at h
 ·rename_i i lc L p8 q8 F p4 q4 c z s x1 T o x2 M o6 t X t6 Q r1 r2 r3 o1 o2 o3 o4 t4 t3 t2 t1
  obtain ⟨⟨rfl,rfl,rfl,rfl,rfl,rfl,rfl,rfl,rfl,rfl,rfl,rfl,rfl,rfl,rfl,rfl,_⟩,⟨rfl,rfl,rfl,_⟩,⟨hT,h0,hin,hok⟩,hk⟩:=rL h
  refine .eq (DI pan _ _ k i L F c z s T M r1 r2 r3 X Q) ?_
  refine bd (fun hlt=>?_) (fun hlt=>?_)
  ·have hi:i.int.toNat < L.list.length:=by omega
   have hwi:IntKind.wrap .i64 (i.int + 1)=i.int + 1:=i64_in (by omega) (by have:L.list.length≤maxLen:=ho1.2.1.1;unfold maxLen at this;omega)
   have hc:(i.int + 1).toNat=i.int.toNat + 1:=by omega
   have hμ:L.list.length - (i.int + 1).toNat < L.list.length - i.int.toNat:=by omega
   have hd1:decide ((0:Int)≤i.int∧i.int < (L.list.length:Int))=true:=decide_eq_true ⟨h0,hlt⟩
   rw [bc hi] at hk hok
   obtain ⟨k1,k2⟩:=AN hok
   have hof:dw T.list X (U.at L.list i.int.toNat :: L.list.drop (i.int.toNat + 1))=(bif decide (plA (atL L i) < 0) then dw (ryT T (atL L i)) X (L.list.drop (i.int.toNat + 1)) else dw T.list (ryR X (atL L i)) (L.list.drop (i.int.toNat + 1))):=by
    show (L.list.drop (i.int.toNat + 1)).foldl _ (gI _ _ _ _ _ (T.list,X) (atL L i))=_
    rw [BZ]
    cases decide (plA (atL L i) < 0)<;>rfl
   rw [hof] at hk
   have hsp:fc [[T],[ixA (atL L i)],[U.i 1,U.i 0,U.i 0,U.i 0,U.i 0]]:=hok.1.1
   refine dt ⟨h0,hlt⟩ (bd (fun hneg=>?_) (fun hneg=>?_))
   ·rw [decide_eq_true hneg,cond_true] at hk
    simp only [hd1,cond_true,en,hwi,hc]
    exact ⟨hsp,blt hμ ⟨⟨trivial,by omega,by omega,k1 hneg⟩,hk⟩⟩
   ·rw [decide_eq_false hneg,cond_false] at hk
    obtain ⟨k3,k4⟩:=k2 hneg
    have k4:(plA (atL L i)).toNat < X.length:=k4
    have hd2:decide ((0:Int)≤plA (atL L i)∧plA (atL L i) < (X.length:Int))=true:=decide_eq_true (by omega)
    have hd3:Nat.blt (Int.toNat (plA (atL L i))) X.length=true:=by simpa [Nat.blt_eq] using k4
    have hsp2:fc [[nth (U.i 0) (List.tail (List.tail (U.list (nth (U.i 0) X (Int.toNat (plA (atL L i))))))) (0:Nat)],[ixA (atL L i)],[U.i 1,U.i 0,U.i 0,U.i 0,U.i 0]]:=by
     show dv (shT (U.at X (plA (atL L i)).toNat)).list
     refine hok.1.2 _ ?_
     rw [eG k4]
     exact List.getElem_mem k4
    simp only [hd1,hd2,hd3,cond_true,en,hwi,hc]
    exact ⟨hsp2,blt hμ ⟨⟨hT,by omega,by omega,k3⟩,hk⟩⟩
  ·have hd:L.list.drop i.int.toNat=[]:=List.drop_eq_nil_of_le (by omega)
   rw [hd] at hk
   have h1:dw T.list X []=(T.list,X):=rfl
   rw [h1,← hT] at hk
   exact hk
 ·exact h.elim
def ryU (c z s T Sh M Q F:U):List U × List U:=dw T.list (Sh.list.map cmU) (gdU [[c,z,s,T,Sh,M,Q],[F]]).2
def ryS:List (List U)→List (List U):=fun us=>match us with
 | [[c,z,s,T,Sh,M,Q],[F]]=>[[bif cq c z s T Sh M Q then c else .i 0,bif cq c z s T Sh M Q then z else .i 0,bif cq c z s T Sh M Q then s else .s (ByteArray.mk #[]),.l (bif cq c z s T Sh M Q then (ryU c z s T Sh M Q F).1 else []),
   .l (bif cq c z s T Sh M Q then (ryU c z s T Sh M Q F).2 else []),.l (bif cq c z s T Sh M Q then M.list.map cmU else []),.l (bif cq c z s T Sh M Q then ofV (fN (ryU c z s T Sh M Q F)) (szU F).toNat else [])],[.i (bif cq c z s T Sh M Q then 0 else 1)]]
 | _=>[]
def ryQ (c z s T Sh M Q F:U):Prop:=cq c z s T Sh M Q=true→ta [[c,z,s,T,Sh,M,Q],[F]]∧rcQ T Sh M Q∧fT T.list (Sh.list.map cmU) (gdU [[c,z,s,T,Sh,M,Q],[F]]).2∧
 ofP [[c,z,s,.l (ryU c z s T Sh M Q F).1,.l (ryU c z s T Sh M Q F).2,.l (M.list.map cmU),.l Q.list],[.i (szU F)]]
def ryP:List (List U)→Prop:=fun us=>match us with
 | [[c,z,s,T,Sh,M,Q],[F]]=>ryQ c z s T Sh M Q F
 | _=>True
theorem IV:cG PR 8 ryP ryS:=fun fn us hfn hpre=>by
 have hf:PR.funcs[(8:Nat)]? = some Tryz.f8:=by kernel_rfl
 rw [hf] at hfn;cases hfn
 refine aM (C:=ryC) (aB ao af (.cons CW (.consP I4 (.cons ri (.consP I6 (.consP GG .nil))))) (.cons IF .nil)) hf (by kernel_rfl) (aW (by kernel_rfl) Gr) fun hok=>?_
 have hp:Tryz.f8.params.toList=[29,30]:=by kernel_rfl
 rw [hp] at hok
 obtain ⟨u,u2,rfl,h1,h2⟩:=bR (by kernel_rfl:Cs PR 29=some (true,[.int .i64,.int .i64,.str,.sl false [.sl true EC],.sl true SC,.sl true BC,.sl false [.int .i64]])) (by kernel_rfl:Cs PR 30=some (false,[.sl false [.int .u8]])) hok.1
 obtain ⟨c,z,s,T,Sh,M,Q,rfl⟩:=oc h1
 obtain ⟨F,rfl⟩:=bG h2
 clear hok h1 h2
 have hpre:ryQ c z s T Sh M Q F:=hpre
 refine .eq (GS _ c z s T Sh M Q F) ?_
 refine bi (fun hr=>by simp only [ryS,nt hr,cond_false]) (fun hr=>?_)
 obtain ⟨hb,hq,hw,ho⟩:=hpre (nf hr)
 obtain ⟨n0,n1⟩:=xW F
 simp only [ryS,nf hr,cond_true,Int.toNat_zero,List.drop_zero,en]
 refine ⟨hb,⟨⟨trivial,trivial,trivial⟩,hq⟩,⟨trivial,by omega,by omega,hw⟩,ho,?_⟩
 rw [decide_eq_false (by omega:¬ szU F < 0),decide_eq_false (by omega:¬ 65536 < szU F)]
 rfl
end Go.Mat

namespace Go.Mat
open Go Go.Den Go.Proofs
noncomputable def mmC:Ctx:=mkC PR bM (aH 5 Iy (aH 10 HW (aH 4 grS (aV 6 rcP rcS
 (aV 7 mdP mdS (aV 8 ryP ryS (aH 9 CR aK))))))) aL aC aq aq
theorem Gy (R:RF) (c z s T Sh M Q F:U) {a} (_:a=(ryU c z s T Sh M Q F):=by rfl): (run mmC Tryz.f3 [[c,z,s,T,Sh,M,Q],[F]] R)=(bif grX s T Sh M Q F then R [[U.b true]] else rcP [[c,z,s,T,Sh,M,Q]]∧mdP [[c,z,s,T,Sh,M,Q],[F]]∧ryP [[c,z,s,T,Sh,M,Q],[F]]∧bif gT (bif cj c z s T Sh M Q then c else U.i 0) (bif cj c z s T Sh M Q then z else U.i 0) (bif cj c z s T Sh M Q then s else U.s ⟨#[]⟩) (U.l (bif cj c z s T Sh M Q then Prod.fst (woU c z s T Sh M Q F) else [])) (U.l (bif cj c z s T Sh M Q then List.map iO (Prod.snd (woU c z s T Sh M Q F)) else [])) (U.l (bif cj c z s T Sh M Q then List.map jL M.list else [])) (U.l (bif cj c z s T Sh M Q then ofV (okM c z s T Sh M Q F) (Int.toNat (szU F)) else [])) (bif cq c z s T Sh M Q then c else U.i 0) (bif cq c z s T Sh M Q then z else U.i 0) (bif cq c z s T Sh M Q then s else U.s ⟨#[]⟩) (U.l (bif cq c z s T Sh M Q then Prod.fst a else [])) (U.l (bif cq c z s T Sh M Q then Prod.snd a else [])) (U.l (bif cq c z s T Sh M Q then List.map cmU M.list else [])) (U.l (bif cq c z s T Sh M Q then ofV (fN a) (Int.toNat (szU F)) else [])) then bif (bif cj c z s T Sh M Q then (0:Int) else (1:Int)) == bif cq c z s T Sh M Q then (0:Int) else (1:Int) then bif gT c z s T Sh M Q c z s (U.l T.list) (U.l (List.map cmU Sh.list)) (U.l (List.map cmU M.list)) (U.l Q.list) then R [[U.b true]] else R [[U.b false]] else R [[U.b false]] else R [[U.b false]]):=by subst_vars;kernel_rfl
end Go.Mat

namespace Go.Mat
open Go Go.Den Go.Proofs
theorem nR:∀ (L:List U) (n:Int),n≤eV n L
 | [],n=>Int.le_refl _
 | l :: r,n=>by
  rw [eV]
  by_cases h:n≤6000
  ·rw [decide_eq_true h,cond_true]
   have:=nR r (n + 1 + (bif decide (6000 < (l.list.length:Int)) then (6000:Int) else (l.list.length:Int)))
   by_cases h2:6000 < (l.list.length:Int)
   ·rw [decide_eq_true h2,cond_true] at this ⊢;omega
   ·rw [decide_eq_false h2,cond_false] at this ⊢;omega
  ·rw [decide_eq_false h,cond_false];omega
theorem qn:∀ (L:List U) (n:Int),0≤n→eV n L≤6000→∀ l,l ∈ L→l.list.length≤6000
 | [],_,_,_,l,h=>by cases h
 | x :: r,n,h0,h,l,hl=>by
  rw [eV] at h
  by_cases h1:n≤6000
  ·rw [decide_eq_true h1,cond_true] at h
   have hm:=nR r (n + 1 + (bif decide (6000 < (x.list.length:Int)) then (6000:Int) else (x.list.length:Int)))
   by_cases h2:6000 < (x.list.length:Int)
   ·rw [decide_eq_true h2,cond_true] at h hm;omega
   ·rcases List.mem_cons.1 hl with rfl | hl
    ·omega
    ·exact qn r _ (by rw [decide_eq_false h2,cond_false];omega) h l hl
  ·rw [decide_eq_false h1,cond_false] at h;omega
theorem pk {L:List U} (h:iz L=false):dv L:=by
 have h1:=lq h
 unfold iz at h
 have h2:=of_decide_eq_false h
 refine ⟨by omega,fun j hj=>?_⟩
 have:=qn L 0 (Int.le_refl _) (by omega) (U.at L j) (by rw [eG hj];exact List.getElem_mem hj)
 omega
theorem qa:∀ {S:List U},gK S=false→∀ x,x ∈ S→dv (e2 x).list
 | [],_,x,hx=>by cases hx
 | y :: r,h,x,hx=>by
  rw [gK] at h
  simp only [Bool.or_eq_false_iff] at h
  rcases List.mem_cons.1 hx with rfl | hx
  ·exact pk h.1.1
  ·exact qa h.2 x hx
theorem vI (x:U):nth (.i 0) x.list.tail.tail 0=e2 x:=by rw [aD,aD]
theorem HI {bk T S M Q:U} (h:mN bk T S M Q=false):rcQ T S M Q:=by
 obtain ⟨g1,g2,g3,g4,g5⟩:=m0 h
 unfold mN at h
 simp only [Bool.or_eq_false_iff,decide_eq_false_iff_not] at h
 refine ⟨pk h.1.1.1.1.1.1,⟨by omega,fun x hx=>by rw [vI];exact qa h.1.2 x hx⟩,⟨?_,fun x hx=>?_⟩,by omega⟩
 ·show M.list.length≤1000000000
  omega
 ·have:=g5 x hx
  rw [vI];omega
theorem IC {k s c z m g:Int} {f:List U} (h:f.length≤1048576):cbX k s c z m g (f.take (min (f.length / 16) 65536 * 16))=cbX k s c z m g f:=by
 have hl:(f.take (min (f.length / 16) 65536 * 16)).length / 16=f.length / 16:=by rw [List.length_take];omega
 unfold cbX
 rw [hl]
 cases dR k s c z m g with
 | false=>rfl
 | true=>
  cases (k == 0) || (k == 1) with
  | true=>rfl
  | false=>
   simp only [cond_true,cond_false]
   by_cases h2:((f.length / 16:Nat):Int) < s + c
   ·rw [decide_eq_true h2];rfl
   ·have ht:(f.take (min (f.length / 16) 65536 * 16)).take ((s + c) * 16).toNat=f.take ((s + c) * 16).toNat:=by
     rw [List.take_take]
     congr 1
     omega
    rw [decide_eq_false h2,ht]
theorem EF {F:U} (h:F.list.length≤1048576) (c:Int) (l:U):dm (whU F) c l=dm F.list c l:=by
 unfold dm whU
 rw [IC h]
theorem lD {F G:List U} {c:Int} (h:∀ l,dm F c l=dm G c l):∀ (ls:List U) (all:List PK),iR F c all ls=iR G c all ls
 | [],_=>rfl
 | l :: r,all=>by
  rw [iR,iR,lD h r,lD h r]
  unfold sS
  rw [h l]
theorem sb (l:U):lnU (ln7 l) 0=lnU l 0∧(nth (.i 0) (ln7 l).list.tail 0)=lnU l 1∧bT (ln7 l)=bT l:=by
 refine ⟨rfl,?_,?_⟩
 ·show nth (.i 0) l.list.tail 0=nth (.i 0) l.list 1
  rw [aD]
 ·show ((nth (.i 0) l.list.tail.tail.tail 0).int,(nth (.i 0) l.list.tail.tail.tail.tail 0).int)=((nth (.i 0) l.list 3).int,(nth (.i 0) l.list 4).int)
  simp only [aD,Nat.zero_add,Nat.reduceAdd]
theorem nV (l x:U):fu l x = !fh (bT l) (bT x):=by
 unfold fu fh bT rK
 simp only
 generalize (lnU x 3).int=xs
 generalize (lnU x 4).int=xc
 generalize (lnU l 3).int=ls
 generalize (lnU l 4).int=lc
 have e1:(ls == xs)=(xs == ls):=by
  by_cases h:ls=xs
  ·rw [h]
  ·rw [beq_eq_false_iff_ne.2 h,beq_eq_false_iff_ne.2 fun e=>h e.symm]
 have e2:(lc == xc)=(xc == lc):=by
  by_cases h:lc=xc
  ·rw [h]
  ·rw [beq_eq_false_iff_ne.2 h,beq_eq_false_iff_ne.2 fun e=>h e.symm]
 rw [e1,e2]
 cases (xs == ls)<;>cases (xc == lc)<;>cases decide (xs < IntKind.wrap .i64 (ls + lc))<;>cases decide (ls < IntKind.wrap .i64 (xs + xc))<;>rfl
theorem Ii {l:U} {X:List U} {all:List PK} (h:∀ v,v ∈ all↔∃ x,x ∈ X∧bT x=v):X.all (fu l) = !all.any (fh (bT l)):=by
 cases ha:all.any (fh (bT l)) with
 | true=>
  obtain ⟨v,hv,hm⟩:=List.any_eq_true.1 ha
  obtain ⟨x,hx,rfl⟩:=(h v).1 hv
  rw [Bool.not_true,List.all_eq_false]
  exact ⟨x,hx,by rw [nV,hm];decide⟩
 | false=>
  rw [Bool.not_false,List.all_eq_true]
  intro x hx
  have:=List.any_eq_false.1 ha (bT x) ((h _).2 ⟨x,hx,rfl⟩)
  rw [nV]
  simpa using this
theorem tF {F:List U} {c:Int}:∀ (ls X Y:List U) (all:List PK),(∀ v,v ∈ all↔∃ x,x ∈ X∧bT x=v)→(ls.foldl (iF F c) (X,Y)).2=Y ++ (iR F c all ls).map ln7
 | [],X,Y,all,_=>(List.append_nil Y).symm
 | l :: r,X,Y,all,h=>by
  have e:iF F c (X,Y) l=bif sS F c all l then (X,Y ++ [ln7 l]) else (X ++ [ln7 l],Y):=by
   unfold iF sS
   rw [Ii h]
   cases dm F c l<;>cases all.any (fh (bT l))<;>rfl
  rw [List.foldl_cons,e,iR]
  cases sS F c all l with
  | true=>rw [cond_true,cond_true,tF r X _ all h,List.map_cons,List.append_assoc];rfl
  | false=>
   rw [cond_false,cond_false]
   refine tF r _ Y (Di all l) fun v=>?_
   have ha:v ∈ Di all l↔v ∈ all∨v=bT l:=by
    unfold Di
    by_cases hm:bT l ∈ all
    ·rw [decide_eq_true hm,cond_true]
     exact ⟨.inl,fun h=>h.elim id fun e=>e ▸ hm⟩
    ·rw [decide_eq_false hm,cond_false,List.mem_append,List.mem_singleton]
   rw [ha,h]
   constructor
   ·rintro (⟨x,hx,rfl⟩ | rfl)
    ·exact ⟨x,List.mem_append_left _ hx,rfl⟩
    ·exact ⟨ln7 l,List.mem_append_right _ (List.mem_singleton.2 rfl),(sb l).2.2⟩
   ·rintro ⟨x,hx,rfl⟩
    rcases List.mem_append.1 hx with hx | hx
    ·exact .inl ⟨x,hx,rfl⟩
    ·rw [List.mem_singleton.1 hx];exact .inr (sb l).2.2
theorem Cb {c z s T Sh M Q F:U} (h:F.list.length≤1048576):(gdU [[c,z,s,T,Sh,M,Q],[F]]).2=(iR (whU F) c.int [] (fN (T.list,Sh.list))).map ln7:=by
 refine Eq.trans (show _=((fN (T.list,Sh.list)).foldl (iF F.list c.int) ([],[])).2 from rfl) ?_
 rw [tF _ [] [] [] fun v=>⟨fun h=>(by cases h),fun ⟨x,hx,_⟩=>(by cases hx)⟩,List.nil_append,lD fun l=>(EF h c.int l).symm]
theorem qP {R:List U} {j:Nat} (h:(U.at (U.at R j).list 0).int≠0):∀ n,j < n→di R n=true
 | 0,hn=>by omega
 | n + 1,hn=>by
  rw [di]
  by_cases e:j=n
  ·subst e
   cases di R j with
   | true=>rfl
   | false=>rw [cond_false];simpa using h
  ·rw [qP h n (by omega)];rfl
theorem wA {T:List U} {n c:Int} {k:Nat} (g:TR T n c) (h:gl T k=true) (hT:T.length≤512):jQ T k (.i 1) (.i 0) (.i 0) (.i 0) (.i 0)=dG T k:=by
 obtain ⟨h1,h2,h3,h4⟩:=g.hit h
 rw [Fs (a:=.i 1) (b:=.i 0) (d:=.i 0) (e:=.i 0) (g:=.i 0) (c:=c) (by omega) (by omega) g.c0 g.c1 (by rw [← lp (by omega)];exact TR.iff.2 g.mono) (sZ g.c0 g.c1) rfl,Int.toNat_natCast]
 unfold xU
 simp only
 have hp:bm T (k / 8 + 1 - T.length)=T:=by
  rw [show k / 8 + 1 - T.length=0 by omega]
  unfold bm
  rw [List.replicate_zero,List.append_nil]
 have hr:rowOf (U.at T (k / 8))=(U.at T (k / 8)).list:=by unfold rowOf;rw [h2];rfl
 rw [hp,hr]
 have hk:iY (bj (U.at T (k / 8)).list (k % 8) lH)=bj (U.at T (k / 8)).list (k % 8) lH:=by
  unfold iY
  rw [qP (j:=k % 8) ?_ 8 (by omega)]
  ·rfl
  ·unfold bj
   rw [fA (by omega),if_pos rfl]
   show (1:Int)≠0
   decide
 have hz:T.set (k / 8) (.l (iY (bj (U.at T (k / 8)).list (k % 8) [.i 1,.i 0,.i 0,.i 0,.i 0])))=dG T k:=by unfold dG;rw [← hk];rfl
 rw [hz]
 exact rG (g.zap h).last
def dC:List U→List U→Prop
 | [],[]=>True
 | x :: r,y :: s=>(e0 x=e0 y∧e1 x=e1 y∧(shT x).list=(shT y).list)∧dC r s
 | _,_=>False
theorem dC.map:∀ (S:List U),dC S (S.map cmU)
 | []=>trivial
 | x :: r=>⟨⟨rfl,by show nth (.i 0) x.list 1=nth (.i 0) x.list.tail 0;rw [aD],rfl⟩,dC.map r⟩
theorem dC.len:∀ {S S':List U},dC S S'→S.length=S'.length
 | [],[],_=>rfl
 | [],_ :: _,h=>h.elim
 | _ :: _,[],h=>h.elim
 | _ :: _,_ :: _,h=>by rw [List.length_cons,List.length_cons,dC.len h.2]
theorem dC.at:∀ {S S':List U} (j:Nat),dC S S'→(shT (U.at S j)).list=(shT (U.at S' j)).list
 | [],[],_,_=>rfl
 | [],_ :: _,_,h=>h.elim
 | _ :: _,[],_,h=>h.elim
 | _ :: _,_ :: _,0,h=>h.1.2.2
 | _ :: _,_ :: _,j + 1,h=>dC.at j h.2
theorem dC.set (T:List U):∀ {S S':List U} (j:Nat),dC S S'→dC (S.set j (cA (U.at S j) T)) (S'.set j (cA (U.at S' j) T))
 | [],[],_,_=>trivial
 | [],_ :: _,_,h=>h.elim
 | _ :: _,[],_,h=>h.elim
 | x :: r,y :: s,0,h=>by
  rw [List.set_cons_zero,List.set_cons_zero]
  refine ⟨⟨h.1.1,?_,rfl⟩,h.2⟩
  rw [mc,mc]
  exact h.1.2.1
 | x :: r,y :: s,j + 1,h=>by
  rw [List.set_cons_succ,List.set_cons_succ]
  exact ⟨h.1,dC.set T j h.2⟩
theorem dC.lines:∀ {S S':List U} (i:Int),dC S S'→ad i S=ad i S'
 | [],[],_,_=>rfl
 | [],_ :: _,_,h=>h.elim
 | _ :: _,[],_,h=>h.elim
 | x :: r,y :: s,i,h=>by
  rw [ad,ad,dC.lines (i + 1) h.2]
  have e:∀ w:U,nth (.i 0) w.list 2=shT w:=fun w=>(ni w).symm
  rw [e,e,h.1.2.2]
theorem dC.fit:∀ {S S':List U},dC S S'→bb S=bb S'
 | [],[],_=>rfl
 | [],_ :: _,h=>h.elim
 | _ :: _,[],h=>h.elim
 | x :: r,y :: s,h=>by
  rw [bb,bb,dC.fit h.2]
  have e:∀ w:U,nth (.i 0) w.list 2=shT w:=fun w=>(ni w).symm
  rw [e,e,h.1.2.2]
theorem Hp {n c:Int}:∀ (B T S S':List U),MR n c T S→(∀ l,l ∈ B→l ∈ fN (T,S))→(B.map plI).Nodup→dC S S'→
  (dw T S' (B.map ln7)).1=(ff (.i 1) (.i 0) (.i 0) (.i 0) (.i 0) T S (B.map plU)).1∧dC (ff (.i 1) (.i 0) (.i 0) (.i 0) (.i 0) T S (B.map plU)).2 (dw T S' (B.map ln7)).2
 | [],T,S,S',_,_,_,h=>⟨rfl,h⟩
 | l :: r,T,S,S',g,hB,hN,hS=>by
  obtain ⟨n1,n2⟩:=List.nodup_cons.1 hN
  have hl:=hB l (List.mem_cons_self ..)
  obtain ⟨s1,s2,s3⟩:=g.step hl
  have e:ff (.i 1) (.i 0) (.i 0) (.i 0) (.i 0) T S ((l :: r).map plU)=ff (.i 1) (.i 0) (.i 0) (.i 0) (.i 0) (bY (.i 1) (.i 0) (.i 0) (.i 0) (.i 0) (T,S) (plU l)).1 (bY (.i 1) (.i 0) (.i 0) (.i 0) (.i 0) (T,S) (plU l)).2 (r.map plU):=rfl
  have e':dw T S' ((l :: r).map ln7)=dw (gI (.i 1) (.i 0) (.i 0) (.i 0) (.i 0) (T,S') (ln7 l)).1 (gI (.i 1) (.i 0) (.i 0) (.i 0) (.i 0) (T,S') (ln7 l)).2 (r.map ln7):=rfl
  have hi:(nth (.i 0) (ln7 l).list.tail 0)=lnU l 1:=(sb l).2.1
  have hst:(gI (.i 1) (.i 0) (.i 0) (.i 0) (.i 0) (T,S') (ln7 l)).1=(bY (.i 1) (.i 0) (.i 0) (.i 0) (.i 0) (T,S) (plU l)).1∧dC (bY (.i 1) (.i 0) (.i 0) (.i 0) (.i 0) (T,S) (plU l)).2 (gI (.i 1) (.i 0) (.i 0) (.i 0) (.i 0) (T,S') (ln7 l)).2:=by
   unfold fN at hl
   rcases List.mem_append.1 hl with hl | hl
   ·obtain ⟨k,hk,rfl⟩:=fx hl
    have e1:bY (.i 1) (.i 0) (.i 0) (.i 0) (.i 0) (T,S) (plU (.l (dK (.i (-1)) T k)))=(setX T k (.i 1) (.i 0) (.i 0) (.i 0) (.i 0),S):=rfl
    have e2:gI (.i 1) (.i 0) (.i 0) (.i 0) (.i 0) (T,S') (ln7 (.l (dK (.i (-1)) T k)))=(jQ T k (.i 1) (.i 0) (.i 0) (.i 0) (.i 0),S'):=rfl
    rw [e1,e2,oy g.t hk g.tl,wA g.t hk g.tl]
    exact ⟨rfl,hS⟩
   ·obtain ⟨j,hj,hm⟩:=gM hl
    obtain ⟨k,hk,rfl⟩:=fx hm
    have hs:=(kf S).1 g.s j hj
    have hin:U.at S j ∈ S:=by rw [eG hj];exact List.getElem_mem hj
    have gt:=TR.iff.1 hs.2
    have hz:(0:Int) + (j:Int)=j:=Int.zero_add _
    have e1:bY (.i 1) (.i 0) (.i 0) (.i 0) (.i 0) (T,S) (plU (.l (dK (.i (0 + (j:Int))) (shT (U.at S j)).list k)))=(T,S.set j (cA (U.at S j) (setX (shT (U.at S j)).list k (.i 1) (.i 0) (.i 0) (.i 0) (.i 0)))):=by
     rw [hz]
     unfold bY
     show (bif decide ((j:Int) < 0) then _ else (T,S.set (j:Int).toNat (cA (U.at S (j:Int).toNat) (setX (shT (U.at S (j:Int).toNat)).list k _ _ _ _ _))))=_
     rw [decide_eq_false (by omega),cond_false,Int.toNat_natCast]
    have e2:gI (.i 1) (.i 0) (.i 0) (.i 0) (.i 0) (T,S') (ln7 (.l (dK (.i (0 + (j:Int))) (shT (U.at S j)).list k)))=(T,S'.set j (cA (U.at S' j) (jQ (shT (U.at S' j)).list k (.i 1) (.i 0) (.i 0) (.i 0) (.i 0)))):=by
     rw [hz]
     unfold gI
     show (bif decide ((j:Int) < 0) then _ else (T,S'.set (j:Int).toNat (cA (U.at S' (j:Int).toNat) (jQ (shT (U.at S' (j:Int).toNat)).list k _ _ _ _ _))))=_
     rw [decide_eq_false (by omega),cond_false,Int.toNat_natCast]
    rw [e1,e2,← dC.at j hS,oy gt hk (g.sl _ hin),wA gt hk (g.sl _ hin)]
    exact ⟨rfl,dC.set _ j hS⟩
  rw [e,e',hst.1]
  exact Hp r _ _ _ s1 (fun x hx=>by
   show x ∈ fN (bY (.i 1) (.i 0) (.i 0) (.i 0) (.i 0) (T,S) (plU l))
   rw [s2]
   refine List.mem_filter.2 ⟨hB x (List.mem_cons_of_mem _ hx),?_⟩
   rw [decide_eq_false fun e=>n1 (List.mem_map.2 ⟨x,hx,e⟩)];rfl) n2 hst.2
theorem kW:∀ L:List U,gS L L=true
 | []=>rfl
 | x :: r=>by rw [gS,kW r,beq_self_eq_true];rfl
theorem pX:∀ L:List U,eK L L=true
 | []=>rfl
 | x :: r=>by rw [eK,pX r];unfold Cu;simp
theorem qF:∀ L:List U,jM L L=true
 | []=>rfl
 | x :: r=>by rw [jM,qF r];unfold Ig;simp
theorem j9:∀ L:List U,fF L L=true
 | []=>rfl
 | x :: r=>by rw [fF,j9 r,qF];rfl
theorem zJ {x y:U} (h0:e0 x=e0 y) (h1:e1 x=e1 y) (h2:(e2 x).list=(e2 y).list):E9 x y=true:=by
 unfold E9
 rw [h0,h1,h2,pX]
 simp
theorem Hj (x:U):e0 (cmU x)=e0 x∧e1 (cmU x)=e1 x∧(e2 (cmU x)).list=(e2 x).list:=
 ⟨rfl,by show nth (.i 0) x.list.tail 0=nth (.i 0) x.list 1;rw [aD],by show (nth (.i 0) x.list.tail.tail 0).list=_;rw [vI]⟩
theorem F8 (x:U):e0 (jL x)=e0 x∧e1 (jL x)=e1 x∧(e2 (jL x)).list=(e2 x).list:=
 ⟨rfl,by show nth (.i 0) x.list.tail 0=nth (.i 0) x.list 1;rw [aD],by show (nth (.i 0) x.list.tail.tail 0).list=_;rw [vI]⟩
theorem wM:∀ M:List U,fH M (M.map cmU)=true
 | []=>rfl
 | x :: r=>by
  obtain ⟨h0,h1,h2⟩:=Hj x
  rw [List.map_cons,fH,wM r,zJ h0.symm h1.symm h2.symm];rfl
theorem uP:∀ M:List U,fH (M.map jL) (M.map cmU)=true
 | []=>rfl
 | x :: r=>by
  obtain ⟨h0,h1,h2⟩:=Hj x
  obtain ⟨g0,g1,g2⟩:=F8 x
  rw [List.map_cons,List.map_cons,fH,uP r,zJ (g0.trans h0.symm) (g1.trans h1.symm) (g2.trans h2.symm)];rfl
theorem lF:∀ {S S':List U},dC S S'→cD S S' = true
 | [],[],_=>rfl
 | [],_ :: _,h=>h.elim
 | _ :: _,[],h=>h.elim
 | x :: r,y :: s,h=>by
  rw [cD,lF h.2]
  unfold Cz
  have e3:=h.1.2.2
  rw [ni,ni] at e3
  rw [h.1.1,h.1.2.1,e3,j9]
  simp
theorem dC.cut:∀ {S S':List U},dC S S'→dC (S.map iO) S'
 | [],[],_=>trivial
 | [],_ :: _,h=>h.elim
 | _ :: _,[],h=>h.elim
 | x :: r,y :: s,h=>by
  rw [List.map_cons]
  refine ⟨⟨h.1.1,?_,h.1.2.2⟩,dC.cut h.2⟩
  rw [mc]
  exact h.1.2.1
end Go.Mat

namespace Go.Mat
open Go Go.Den Go.Proofs
set_option maxRecDepth 100000
theorem mm_ok:bB PR 3 Iy:=fun fn us hfn=>by
 have hf:PR.funcs[(3:Nat)]? = some Tryz.f3:=by kernel_rfl
 rw [hf] at hfn;cases hfn
 refine aM (C:=mmC) (aB ao af (.cons Jz (.cons yM (.cons IZ (.consP Ju (.consP Hr (.consP IV (.cons Fc .nil))))))) .nil) hf (by kernel_rfl) (aI (by kernel_rfl)) fun hok=>?_
 have hp:Tryz.f3.params.toList=[29,30]:=by kernel_rfl
 rw [hp] at hok
 obtain ⟨u,u2,rfl,h1,h2⟩:=bR (by kernel_rfl:Cs PR 29=some (true,[.int .i64,.int .i64,.str,.sl false [.sl true EC],.sl true SC,.sl true BC,.sl false [.int .i64]])) (by kernel_rfl:Cs PR 30=some (false,[.sl false [.int .u8]])) hok.1
 obtain ⟨c,z,s,T,Sh,M,Q,rfl⟩:=oc h1
 obtain ⟨F,rfl⟩:=bG h2
 clear hok h1 h2
 refine .eq (Gy _ c z s T Sh M Q F) ?_
 refine bi (fun _=>rfl) (fun hg=>?_)
 unfold grX at hg
 simp only [Bool.or_eq_false_iff] at hg
 have hF:F.list.length≤1048576:=by have:=of_decide_eq_false hg.1.2;omega
 obtain ⟨g1,g2,g3,g4,g5⟩:=m0 hg.1.1
 have hq:=HI hg.1.1
 clear hg
 have mg:mgP T Sh:=⟨by omega,fun x hx=>by have:=g3 x hx;rw [ni];omega⟩
 have mp:∀ x,x ∈ M.list→(mpL x).length≤1073741824:=fun x hx=>by
  have:=g5 x hx
  unfold mpL
  rw [vI];omega
 have hRR:cq c z s T Sh M Q=cj c z s T Sh M Q:=AB (by omega) (fun x hx=>by have:=g3 x hx;omega)
 have hsim:cj c z s T Sh M Q=true→(ryU c z s T Sh M Q F).1=(woU c z s T Sh M Q F).1∧dC (woU c z s T Sh M Q F).2 (ryU c z s T Sh M Q F).2:=fun hM=>by
  unfold ryU woU
  rw [Cb hF,IK]
  exact Hp (iR (whU F) c.int [] (fN (T.list,Sh.list))) _ _ _ (MR.of_right hM mg) (fun l hl=>mJ hl) (na _ _ (BI _)) (dC.map _)
 have hln:cj c z s T Sh M Q=true→fN (ryU c z s T Sh M Q F)=fN (woU c z s T Sh M Q F):=fun hM=>by
  obtain ⟨e1,e2⟩:=hsim hM
  unfold fN
  rw [e1,dC.lines 0 e2]
 have hry:ryQ c z s T Sh M Q F:=fun hr=>by
  rw [hRR] at hr
  obtain ⟨hG,_,hW,_,_,_⟩:=vN (F:=F) hr mg
  have hall:(fN (T.list,Sh.list)).length≤36864:=hG.each.2
  refine ⟨⟨hG.each.1,?_⟩,hq,⟨⟨hq.1,fun x hx=>?_⟩,?_,fun p hp=>?_⟩,?_,?_⟩
  ·show (fN (T.list,Sh.list)).length≤536870912
   omega
  ·obtain ⟨y,hy,rfl⟩:=List.mem_map.1 hx
   exact hq.2.1.2 y hy
  ·rw [List.length_map];omega
  ·rw [Cb hF] at hp
   obtain ⟨l,hl,rfl⟩:=List.mem_map.1 hp
   rw [List.length_map]
   exact hG.places l (mJ hl)
  ·obtain ⟨e1,e2⟩:=hsim hr
   obtain ⟨w1,w2,w3⟩:(woU c z s T Sh M Q F).1.length≤65536∧(woU c z s T Sh M Q F).2.length≤1000∧bb (woU c z s T Sh M Q F).2=true:=hW.each.1
   show (ryU c z s T Sh M Q F).1.length≤65536∧(ryU c z s T Sh M Q F).2.length≤1000∧bb (ryU c z s T Sh M Q F).2=true
   rw [e1,← dC.len e2,← dC.fit e2]
   exact ⟨w1,w2,w3⟩
  ·show gZ (fN (ryU c z s T Sh M Q F))=true
   rw [hln hr]
   exact hW.fit
 refine ⟨hq,⟨mg,mp⟩,hry,?_⟩
 have hwas:gT c z s T Sh M Q c z s (.l T.list) (.l (Sh.list.map cmU)) (.l (M.list.map cmU)) (.l Q.list)=true:=by
  unfold gT
  simp only [U.list_l,j9,wM,kW,lF (dC.map Sh.list),beq_self_eq_true,Bool.and_self]
 rw [hwas,hRR]
 cases hM:cj c z s T Sh M Q with
 | false=>
  have h0:gT (.i 0) (.i 0) (.s (ByteArray.mk #[])) (.l []) (.l []) (.l []) (.l []) (.i 0) (.i 0) (.s (ByteArray.mk #[])) (.l []) (.l []) (.l []) (.l [])=true:=by
   unfold gT
   simp only [U.list_l,j9,kW,show fH [] []=true from rfl,show cD [] []=true from rfl,beq_self_eq_true,Bool.and_self]
  simp only [cond_false]
  rw [h0]
  rfl
 | true=>
  obtain ⟨e1,e2⟩:=hsim hM
  have hqs:okM c z s T Sh M Q F=fN (ryU c z s T Sh M Q F):=(hln hM).symm
  simp only [cond_true]
  rw [hqs,e1]
  have hab:gT c z s (.l (woU c z s T Sh M Q F).1) (.l ((woU c z s T Sh M Q F).2.map iO)) (.l (M.list.map jL)) (.l (ofV (fN (ryU c z s T Sh M Q F)) (szU F).toNat)) c z s (.l (woU c z s T Sh M Q F).1) (.l (ryU c z s T Sh M Q F).2) (.l (M.list.map cmU)) (.l (ofV (fN (ryU c z s T Sh M Q F)) (szU F).toNat))=true:=by
   unfold gT
   simp only [U.list_l,j9,uP,kW,lF e2.cut,beq_self_eq_true,Bool.and_self]
  rw [hab]
  rfl
end Go.Mat
