/- A part of the proof of this: behind a mending there are no faults; what was not bad shows the same; a meta without bad entries keeps them all. Conditions: none. Joined of F100, B101, F101, F102, B103, F103, F104, F105, F106, F107, B108, F108, B109, F109, F110, B110, F111, B86T, F86T, B112. -/
import Derived.Test.YtjleagfibbbjnaaC4
import Derived.KernelRfl
import Derived.LoopN
import Derived.Scope
namespace Go.Mat
open Go Go.Den Go.Proofs Go.RowKit
set_option maxRecDepth 100000
theorem ev_skip {a:Act} {d t:Nat} {v:Value} (h:d≠t):(a.put (some d) v).eval (.tmp t)=a.eval (.tmp t):=by
 simp [Act.put,Act.eval,Array.getD_eq_getD_getElem?,Array.getElem?_setIfInBounds_ne h]
theorem ev_hit {a:Act} {t:Nat} {v:Value} (h:t < a.tmps.size):(a.put (some t) v).eval (.tmp t)=v:=put_same h
theorem ev_const {a:Act} {v:Value}:a.eval (.const v)=v:=rfl
theorem inBlock_exit {id:Nat} {Q:Exit→Act→World→Prop} {a:Act} {w:World} (h:Q .normal a w):Exit.inBlock id Q (.exit id) a w:=by
 show if id=id then Q .normal a w else Q (.exit id) a w
 rw [if_pos rfl]
 exact h
theorem put_none {a:Act} {v:Value}:a.put none v=a:=rfl
structure St0 (w0 w3:World) (Z:Nat→Prop) (v:Value) (T:U) (e:List U):Prop where
 size:w3.heap.size=w0.heap.size + 3
 fut:Fut (fun _=>False) w0 w3
 zlt:∀ b,Z b→b < w0.heap.size
 tab:RepC w3 Z TRC v T
 box3:w3.heap[w0.heap.size]? = some (.cells #[v] 36 (0,0))
 box5:RepCs w3 Z EC (w0.heap.size + 1) 0 e
 box6:w3.heap[w0.heap.size + 2]? = some (.cells #[.slice none 0 0] 36 (0,0))
structure StJ (n:Nat) (w0 w3:World) (B7:Nat) (i:Int) (vo:Value) (rows:List Value) (xs:List U) (a:Act) (w:World):Prop where
 size:a.tmps.size=n
 calm:a.defers=[]
 e1:a.eval (.tmp 1) = .int .i64 i
 e3:a.eval (.tmp 3) = .pointer (some ⟨w0.heap.size,0,none⟩)
 e5:a.eval (.tmp 5) = .pointer (some ⟨w0.heap.size + 1,0,none⟩)
 e6:a.eval (.tmp 6) = .pointer (some ⟨w0.heap.size + 2,0,none⟩)
 e7:a.eval (.tmp 7) = .pointer (some ⟨B7,0,none⟩)
 old:∀ b,b < w0.heap.size + 3→w.heap[b]? = w3.heap[b]?
 fut:Fut (fun _=>False) w0 w
 b7:w.heap[B7]? = some (.cells #[vo] 36 (0,0))
 deep:DeepE (fun b=>w0.heap.size + 3≤b∧b≠B7) w vo rows xs
 lo:w0.heap.size + 3≤B7
section
variable {n:Nat} {w0 w3:World} {B7:Nat} {i:Int} {vo:Value} {rows:List Value} {xs:List U} {a a':Act} {w w':World} {Z:Nat→Prop} {v:Value} {T:U} {e:List U}
theorem StJ.b7lt (H:StJ n w0 w3 B7 i vo rows xs a w):B7 < w.heap.size:=(Array.getElem?_eq_some_iff.1 H.b7).1
theorem StJ.next (H:StJ n w0 w3 B7 i vo rows xs a w) (hs:a'.tmps.size=n) (hd:a'.defers=a.defers) (h1:a'.eval (.tmp 1)=a.eval (.tmp 1)) (h3:a'.eval (.tmp 3)=a.eval (.tmp 3)) (h5:a'.eval (.tmp 5)=a.eval (.tmp 5)) (h6:a'.eval (.tmp 6)=a.eval (.tmp 6)) (h7:a'.eval (.tmp 7)=a.eval (.tmp 7))
  (F:Fut (fun _=>False) w w'):StJ n w0 w3 B7 i vo rows xs a' w' where
 size:=hs
 calm:=hd.trans H.calm
 e1:=h1.trans H.e1
 e3:=h3.trans H.e3
 e5:=h5.trans H.e5
 e6:=h6.trans H.e6
 e7:=h7.trans H.e7
 old:=fun b hb=>(F.block b (by have:=H.b7lt;have:=H.lo;omega) id).trans (H.old b hb)
 fut:=H.fut.trans F (fun _ h=>h) (fun _ _ h=>h)
 b7:=(F.block B7 H.b7lt id).trans H.b7
 deep:=H.deep.same fun b _ hb=>F.block b hb id
 lo:=H.lo
theorem StJ.put (H:StJ n w0 w3 B7 i vo rows xs a w) {d:Nat} {u:Value} (hd:8≤d):StJ n w0 w3 B7 i vo rows xs (a.put (some d) u) w:=
 H.next (by rw [size_put];exact H.size) (by rw [defers_put]) (ev_skip (by omega)) (ev_skip (by omega)) (ev_skip (by omega)) (ev_skip (by omega)) (ev_skip (by omega)) (Fut.refl _ w)
def envS (i:Int) (T:U) (e xs:List U) (ex:List (Nat × SV)):List (Nat × SV):=ex ++ [(1,vi (.i i)),(3,.rptr [TRC] [T]),(5,.rptr EC e),(7,.rptr [TRC] [.l xs])]
theorem StJ.slots (H:StJ n w0 w3 B7 i vo rows xs a w) (S:St0 w0 w3 Z v T e) (hi:IntKind.i64.min≤i∧i≤IntKind.i64.max) {G:Nat→Value} {ex:List (Nat × SV)} {Z8:Nat→Prop} (h8:∀ p ∈ ex,RepSV w Z8 G p.2 (a.tmps.getD p.1 undef)) (hz8:∀ b,Z8 b→b < w.heap.size) (t:Nat):RepSV w (fun b=>b < w.heap.size) G (get (envS i T e xs ex) t) (a.tmps.getD t undef):=by
 have hlo:=H.lo
 have hlt:=H.b7lt
 have S3:Stays w3 w Z (fun b=>b < w.heap.size):=⟨fun b hb=>by have:=S.zlt b hb;omega,fun b hb=>H.old b (by have:=S.zlt b hb;omega)⟩
 unfold envS
 induction ex with
 | cons p r ih=>
  rw [List.cons_append,get_cons]
  split
  ·rename_i h;subst h
   exact RepSV.mono ⟨hz8,fun _ _=>rfl⟩ _ _ (h8 p (List.mem_cons_self ..))
  ·exact ih fun q hq=>h8 q (List.mem_cons_of_mem _ hq)
 | nil=>
 rw [List.nil_append,get_cons]
 split
 ·rename_i h;subst h;exact ⟨H.e1,hi⟩
 rw [get_cons]
 split
 ·rename_i h;subst h
  exact ⟨_,0,H.e3,by omega,⟨v,cell_one ((H.old _ (by omega)).trans S.box3),RepC.mono S3 _ _ _ S.tab⟩,trivial⟩
 rw [get_cons]
 split
 ·rename_i h;subst h
  exact ⟨_,0,H.e5,by omega,RepCs.mono S3 EC _ _ _ (H.old _ (by omega)) S.box5⟩
 rw [get_cons]
 split
 ·rename_i h;subst h
  exact ⟨_,0,H.e7,hlt,⟨vo,cell_one H.b7,own_rep (Z:=fun b=>b < w.heap.size) (fun _ h=>h) (fun b hb=>(H.deep.own.lt b (by rw [← blk_own H.deep.own];exact hb)).2) (by rw [← H.deep.len];exact H.deep.own) (H.deep.reps fun j r b hr hb=>(H.deep.row j r hr).lt hb)⟩,trivial⟩
 ·trivial
def freeOf (ops:Array Oper) (l:List Nat):Bool:=ops.toList.all fun o=>match o.dst with | some d=>!memB d l | none=>true
theorem freeOf_ev {ops:Array Oper} {l:List Nat} (hf:freeOf ops l=true) (kp:∀ t,(∀ o ∈ ops.toList,o.dst≠some t)→a'.tmps.getD t undef=a.tmps.getD t undef) {t:Nat} (ht:memB t l=true):a'.eval (.tmp t)=a.eval (.tmp t):=
 kp t fun o ho e=>by
  have:=List.all_eq_true.1 hf o ho
  rw [e] at this
  simp [ht] at this
theorem st_read {C:Ctx} (hP:C.P=PR) (hC:C.Ok) (hpan:∀ s σ,¬ C.pan s σ) {id:Nat} {ops:Array Oper} (hdef:ops.toList.all (fun o=>!isDefer o)=true) (hok:opersOk n ops.toList=true) (hfr:freeOf ops [1,3,5,6,7]=true)
  (H:StJ n w0 w3 B7 i vo rows xs a w) (S:St0 w0 w3 Z v T e) (hi:IntKind.i64.min≤i∧i≤IntKind.i64.max) {ex:List (Nat × SV)} {Z8:Nat→Prop} (h8:∀ p ∈ ex,RepSV w Z8 (fun _=>.pointer none) p.2 (a.tmps.getD p.1 undef)) (hz8:∀ b,Z8 b→b < w.heap.size) {k:St→Prop} (h:execOps C ops.toList ops.toList ⟨envS i T e xs ex,[]⟩ k) :
  (Code.region id ops false).wp PR (fun ex a' w'=>ex = .normal∧StJ n w0 w3 B7 i vo rows xs a' w'∧Fut (fun _=>False) w w'∧(∀ t,(∀ o ∈ ops.toList,o.dst≠some t)→a'.tmps.getD t undef=a.tmps.getD t undef)∧
    ∃ σ' Z' G',k σ'∧Sim PR ⟨w,fun _=>False,fun _=>False,fun b=>b < w.heap.size,false,false,fun _=>.pointer none,a.defers⟩ n σ' a' w' Z' G') a w:=by
 rw [← hP]
 refine it_regionS hC hpan hdef hok (G:=fun _=>.pointer none) (Z:=fun b=>b < w.heap.size) H.size (H.slots S hi h8 hz8) (fun _ h=>h) (fun _=>rfl) h ?_
 intro σ' a' w' Z' G' hk S' kp
 exact ⟨rfl,H.next S'.size S'.calm (freeOf_ev hfr kp rfl) (freeOf_ev hfr kp rfl) (freeOf_ev hfr kp rfl) (freeOf_ev hfr kp rfl) (freeOf_ev hfr kp rfl) S'.fut,S'.fut,kp,σ',Z',G',hk,S'⟩
theorem st_r0 {c:Code} (hc:RegIs c [(some 3,.box 36 (.tmp 0)),(some 5,.box 24 (.tmp 2)),(some 6,.alloc 36)]) {vs:Array Value} (hn:6 < n) (hs:a.tmps.size=n) (hd0:a.defers=[]) (h0:a.eval (.tmp 0) = .agg #[v]) (h1:a.eval (.tmp 1) = .int .i64 i) (h2:a.eval (.tmp 2) = .agg vs)
  (hv:RepC w0 Z TRC v T) (hZ:∀ b,Z b→b < w0.heap.size) (hvs:RepL w0 Z EC vs.toList e) :
  c.wp PR (fun ex a' w3=>ex = .normal∧a'.tmps.size=n∧a'.defers=[]∧a'.eval (.tmp 1) = .int .i64 i∧a'.eval (.tmp 3) = .pointer (some ⟨w0.heap.size,0,none⟩)∧a'.eval (.tmp 5) = .pointer (some ⟨w0.heap.size + 1,0,none⟩)∧a'.eval (.tmp 6) = .pointer (some ⟨w0.heap.size + 2,0,none⟩)∧St0 w0 w3 Z v T e) a w0:=by
 obtain ⟨iT,z,hi,hz,hzc⟩:=zT
 have hv1:v.oneCell' = true:=hv.one
 refine wp_regIs hc ?_
 simp only [wpL]
 intro o hd ho
 refine op_box ho ?_
 rw [hd]
 clear hd ho o
 intro o hd ho
 refine op_box ho ?_
 rw [hd]
 clear hd ho o
 intro o hd ho
 refine op_alloc ho hi hz ?_
 rw [hd,hzc]
 clear hd ho o
 have hc1:(a.eval (.tmp 0)).cells = #[v]:=by rw [h0];simp [Value.cells,cells_one hv1]
 have hc2:((a.put (some 3) (.pointer (some ⟨w0.heap.size,0,none⟩))).eval (.tmp 2)).cells=vs:=by
  rw [ev_skip (by decide),h2]
  rfl
 rw [hc1,hc2]
 generalize hw1:w0.alloc (.cells #[v] 36)=w1
 generalize hw2:w1.alloc (.cells vs 24)=w2
 generalize hw3:w2.alloc (.cells #[.slice none 0 0] 36)=w3
 have s1:w1.heap.size=w0.heap.size + 1:=by rw [← hw1];simp
 have s2:w2.heap.size=w0.heap.size + 2:=by rw [← hw2];simp [s1]
 have s3:w3.heap.size=w0.heap.size + 3:=by rw [← hw3];simp [s2]
 have p1:w1.heap[w0.heap.size]? = some (.cells #[v] 36 (0,0)):=by rw [← hw1];exact heap_alloc_new w0 _
 have p2:w2.heap[w0.heap.size + 1]? = some (.cells vs 24 (0,0)):=by rw [← hw2,← s1];exact heap_alloc_new w1 _
 have p3:w3.heap[w0.heap.size + 2]? = some (.cells #[.slice none 0 0] 36 (0,0)):=by rw [← hw3,← s2];exact heap_alloc_new w2 _
 have o1:∀ b,b < w0.heap.size→w1.heap[b]? = w0.heap[b]?:=fun b hb=>by rw [← hw1];exact heap_alloc_old _ _ hb
 have o2:∀ b,b < w0.heap.size + 1→w2.heap[b]? = w1.heap[b]?:=fun b hb=>by rw [← hw2];exact heap_alloc_old _ _ (by omega)
 have o3:∀ b,b < w0.heap.size + 2→w3.heap[b]? = w2.heap[b]?:=fun b hb=>by rw [← hw3];exact heap_alloc_old _ _ (by omega)
 have F3:Fut (fun _=>False) w0 w3:=by
  refine ⟨by rw [← hw3,← hw2,← hw1];rfl,by rw [← hw3,← hw2,← hw1];rfl,by rw [← hw3,← hw2,← hw1];rfl,by omega,fun k hk _=>?_⟩
  rw [o3 k (by omega),o2 k (by omega),o1 k hk]
 rw [s1,s2]
 have S3:Stays w0 w3 Z Z:=⟨fun _ h=>h,fun b hb=>F3.block b (hZ b hb) id⟩
 refine ⟨by trivial,by simp only [size_put];exact hs,by simp only [defers_put];exact hd0,by rw [ev_skip (by decide),ev_skip (by decide),ev_skip (by decide)];exact h1,?_,?_,?_,s3,F3,hZ,RepC.mono S3 _ _ _ hv,(o3 _ (by omega)).trans ((o2 _ (by omega)).trans p1),?_,p3⟩
 ·rw [ev_skip (by decide),ev_skip (by decide),ev_hit (by omega)]
 ·rw [ev_skip (by decide),ev_hit (by rw [size_put];omega)]
 ·rw [ev_hit (by rw [size_put,size_put];omega)]
 ·refine RepL.cells (RepL.mono S3 hvs) fun j u hj=>?_
  rw [cell_of_row w3 _ _ vs 24 (0,0) ((o3 _ (by omega)).trans p2),Nat.zero_add,← hj,Array.getElem?_toList]
theorem st_r1 {c:Code} {d:Nat} {f:FuncId} {fn:Func} (hf:PR.funcs[f]? = some fn) (hbody:fn.body.isNone=false) (hname:(fn.name == "runtime.NumGoroutine")=false) (hcp:CopyOk f)
  (hc:RegIs c [(some d,.load 36 (.tmp 3)),(some (d + 1),.call { callee:=.value (.func f),args:=#[.tmp d],argTypes:=#[36] }),(some 7,.alloc 36),(none,.store 36 (.tmp 7) (.tmp (d + 1)))]) (hd:8 < d∧d + 1 < n)
  (hs:a.tmps.size=n) (hd0:a.defers=[]) (h1:a.eval (.tmp 1) = .int .i64 i) (h3:a.eval (.tmp 3) = .pointer (some ⟨w0.heap.size,0,none⟩)) (h5:a.eval (.tmp 5) = .pointer (some ⟨w0.heap.size + 1,0,none⟩)) (h6:a.eval (.tmp 6) = .pointer (some ⟨w0.heap.size + 2,0,none⟩))
  (S:St0 w0 w Z v T e) (hT:T.list.length≤1048576) (hrows:∀ j,j < T.list.length→(U.at T.list j).list.length≤1048576) :
  c.wp PR (fun ex a' w'=>ex = .normal∧∃ B7 vo rows,StJ n w0 w B7 i vo rows T.list a' w') a w:=by
 obtain ⟨iT,z,hi,hz,hzc⟩:=zT
 obtain ⟨dA,hdA,hagg⟩:=uTb
 have hsz:=S.size
 refine wp_regIs hc ?_
 simp only [wpL]
 intro o hd' ho
 refine loadA_op hdA hagg szA ho h3 S.box3 ?_
 rw [hd']
 clear hd' ho o
 intro o hd' ho
 refine call_op ho hf hbody hname ?_
 have hargs:(List.map (a.put (some d) (.agg #[v])).eval #[Operand.tmp d].toList).toArray = #[.agg #[v]]:=by
  simp [ev_hit (a:=a) (v:=.agg #[v]) (show d < a.tmps.size by omega)]
 rw [hargs]
 refine (hcp w Z v T S.tab (fun b hb=>by have:=S.zlt b hb;omega) hT hrows).mono ?_
 rintro ex w1 ⟨vo,rows,rfl,F1,D1⟩
 refine ⟨_,rfl,?_⟩
 rw [hd']
 clear hd' ho o
 intro o hd' ho
 refine op_alloc ho hi hz ?_
 rw [hd',hzc]
 clear hd' ho o
 intro o hd' ho
 have hsz1:=F1.size
 refine store1_op (v:=.agg #[vo]) (b:=w1.heap.size) szA ho (ev_hit (by simp only [size_put];omega)) (by rw [ev_skip (by omega),ev_hit (by simp only [size_put];omega)]) (by simp [Value.cells,cells_one (own_one D1.own)]) (own_one D1.own) (c:=#[.slice none 0 0]) rfl (heap_alloc_new w1 _) ?_
 intro w2 hB g2 hsz2
 rw [hd',put_none]
 clear hd' ho o
 have hob:∀ b,b < w1.heap.size→w2.heap[b]? = w1.heap[b]?:=fun b hb=>(g2.block b (by simp;omega) (by simp;omega)).trans (heap_alloc_old _ _ hb)
 have hsz2':w2.heap.size=w1.heap.size + 1:=by rw [hsz2];simp
 have F2:Fut (fun _=>False) w1 w2:=⟨g2.os,g2.tape,g2.output,by omega,fun k hk _=>hob k hk⟩
 refine ⟨by trivial,w1.heap.size,vo,rows,?_⟩
 refine { size:=by simp only [size_put];exact hs,calm:=by simp only [defers_put];exact hd0,e1:=?_,e3:=?_,e5:=?_,e6:=?_,e7:=ev_hit (by simp only [size_put];omega),old:=fun b hb=>(hob b (by omega)).trans (F1.block b (by omega) id),fut:=S.fut.trans (F1.trans F2 (N:=fun _=>False) (fun _ h=>h) (fun _ _ h=>h)) (fun _ h=>h) (fun _ _ h=>h),b7:=hB,deep:=?_,lo:=by omega }
 ·rw [ev_skip (by omega),ev_skip (by omega),ev_skip (by omega)];exact h1
 ·rw [ev_skip (by omega),ev_skip (by omega),ev_skip (by omega)];exact h3
 ·rw [ev_skip (by omega),ev_skip (by omega),ev_skip (by omega)];exact h5
 ·rw [ev_skip (by omega),ev_skip (by omega),ev_skip (by omega)];exact h6
 ·have D2:=D1.same (w':=w2) fun b _ hb=>hob b hb
  refine ⟨D2.own,D2.len,fun b hb=>?_,D2.row,fun j r b hr hb=>?_,D2.apart⟩
  ·have h1:w.heap.size≤b:=D1.home b hb
   have h2:=(D1.own.lt b hb).2
   exact ⟨by omega,by omega⟩
  ·have h1:w.heap.size≤b:=(D1.rowF j r b hr hb).1
   have h2:=(D1.row j r hr).lt hb
   exact ⟨⟨by omega,by omega⟩,(D1.rowF j r b hr hb).2⟩
theorem st_push {c:Code} {d:Nat} (hc:RegIs c [(some (d),.fieldAddr 36 (.tmp 7) 0),(some (d + 1),.load 34 (.tmp d)),(some (d + 2),.buildSlice 34 1 #[(0,.const (.slice none 0 0))]),(some (d + 3),.call { callee:=.builtin .append,args:=#[.tmp (d + 1),.tmp (d + 2)],argTypes:=#[34,34] }),(some (d + 4),.fieldAddr 36 (.tmp 7) 0),(none,.store 34 (.tmp (d + 4)) (.tmp (d + 3)))]) (hd0:8 < d∧d + 4 < n)
  (H:StJ n w0 w3 B7 i vo rows xs a w) (hx:xs.length < 1048576):c.wp PR (fun ex a' w'=>ex = .normal∧∃ vo' rows',StJ n w0 w3 B7 i vo' rows' (xs ++ [.l []]) a' w') a w:=by
 obtain ⟨fd,f1,f2,f3⟩:=fdT
 have hs:=H.size
 have hlo:=H.lo
 have hlt:=H.b7lt
 refine wp_regIs hc ?_
 simp only [wpL]
 intro o hd ho
 refine op_fieldAddr (k:=0) (b:=B7) (off:=0) ho f1 f3 (by simp (disch:=first | omega | (simp only [size_put];omega)) only [ev_skip,ev_hit,ev_const,H.e1,H.e3,H.e5,H.e6,H.e7]) ?_
 rw [hd]
 clear hd ho o
 rw [f2,Nat.zero_add]
 intro o hd ho
 refine load1_op (b:=B7) (off:=0) uT rfl ho (by simp (disch:=first | omega | (simp only [size_put];omega)) only [ev_skip,ev_hit,ev_const,H.e1,H.e3,H.e5,H.e6,H.e7]) (cell_one H.b7) ?_
 rw [hd]
 clear hd ho o
 intro o hd ho
 refine lit1_op uT cR smR ho rfl rfl ?_
 rw [hd]
 clear hd ho o
 have D1:=H.deep.same (w':=w.alloc (.cells #[.slice none 0 0] 64)) fun b _ hb=>heap_alloc_old _ _ hb
 have hne:∀ b,vo.ownBlock=some b→b < w.heap.size:=fun b hb=>(H.deep.own.lt b hb).2
 intro o hd ho
 refine push_op (vo:=vo) (bs:=w.heap.size) (cap:=1) (r:=.slice none 0 0) (row:=.l []) uT cR smR ho (by simp (disch:=first | omega | (simp only [size_put];omega)) only [ev_skip,ev_hit,ev_const,H.e1,H.e3,H.e5,H.e6,H.e7]) (by simp (disch:=first | omega | (simp only [size_put];omega)) only [ev_skip,ev_hit,ev_const,H.e1,H.e3,H.e5,H.e6,H.e7]) (cell_one (heap_alloc_new w _)) D1 (DRow.nil _ _ _) (fun b hb=>by cases hb) (by simp;omega) (by unfold room;omega) ?_
 intro vo' w2 D2 g2
 rw [hd]
 clear hd ho o
 have hob:∀ b,b < w.heap.size→vo.ownBlock≠some b→w2.heap[b]? = w.heap[b]?:=fun b hb hn=>(g2.block b (by simp;omega) (fun e=>hn e.symm)).trans (heap_alloc_old _ _ hb)
 have hsz2:=g2.size
 have hsz2:w.heap.size + 1≤w2.heap.size:=by simpa using hsz2
 have hB2:w2.heap[B7]? = some (.cells #[vo] 36 (0,0)):=(hob B7 hlt (fun e=>(H.deep.home B7 e).2 rfl)).trans H.b7
 intro o hd ho
 refine op_fieldAddr (k:=0) (b:=B7) (off:=0) ho f1 f3 (by simp (disch:=first | omega | (simp only [size_put];omega)) only [ev_skip,ev_hit,ev_const,H.e1,H.e3,H.e5,H.e6,H.e7]) ?_
 rw [hd]
 clear hd ho o
 rw [f2,Nat.zero_add]
 intro o hd ho
 refine store1_op (b:=B7) (v:=vo') (c:=#[vo]) szT ho (by simp (disch:=first | omega | (simp only [size_put];omega)) only [ev_skip,ev_hit,ev_const,H.e1,H.e3,H.e5,H.e6,H.e7]) (by simp (disch:=first | omega | (simp only [size_put];omega)) only [ev_skip,ev_hit,ev_const,H.e1,H.e3,H.e5,H.e6,H.e7]) (cells_one (own_one D2.own)) (own_one D2.own) rfl hB2 ?_
 intro w3' hB3 g3 hsz3
 rw [hd,put_none]
 clear hd ho o
 have hob3:∀ b,b < w2.heap.size→b≠B7→w3'.heap[b]? = w2.heap[b]?:=fun b hb hn=>g3.block b hb fun e=>hn (by injection e)
 refine ⟨by trivial,vo',rows ++ [.slice none 0 0],?_⟩
 refine { size:=by simp only [size_put];exact hs,calm:=by simp only [defers_put];exact H.calm,e1:=(by simp (disch:=first | omega | (simp only [size_put];omega)) only [ev_skip,ev_hit,ev_const,H.e1,H.e3,H.e5,H.e6,H.e7]),e3:=(by simp (disch:=first | omega | (simp only [size_put];omega)) only [ev_skip,ev_hit,ev_const,H.e1,H.e3,H.e5,H.e6,H.e7]),e5:=(by simp (disch:=first | omega | (simp only [size_put];omega)) only [ev_skip,ev_hit,ev_const,H.e1,H.e3,H.e5,H.e6,H.e7]),e6:=(by simp (disch:=first | omega | (simp only [size_put];omega)) only [ev_skip,ev_hit,ev_const,H.e1,H.e3,H.e5,H.e6,H.e7]),e7:=(by simp (disch:=first | omega | (simp only [size_put];omega)) only [ev_skip,ev_hit,ev_const,H.e1,H.e3,H.e5,H.e6,H.e7]),old:=fun b hb=>?_,fut:=?_,b7:=hB3,deep:=D2.same fun b hb hl=>hob3 b hl hb.2,lo:=hlo }
 ·refine (hob3 b (by omega) (by omega)).trans ((hob b (by omega) fun e=>?_).trans (H.old b hb))
  have:=(H.deep.home b e).1
  omega
 ·have hbw:∀ k,k < w0.heap.size→w3'.heap[k]? = w0.heap[k]?:=fun k hk=>(hob3 k (by omega) (by omega)).trans ((hob k (by omega) fun e=>by have:=(H.deep.home k e).1;omega).trans (H.fut.block k hk id))
  exact ⟨(g3.os.trans g2.os).trans H.fut.os,(g3.tape.trans g2.tape).trans H.fut.tape,(g3.output.trans g2.output).trans H.fut.output,by have:=H.fut.size;omega,fun k hk _=>hbw k hk⟩
theorem quo8 (m:Nat) (hm:m < 4096) {w:World}:(binOp .quo 3 (.int .i64 (m:Int)) (.int .i64 8)).run KW.P w = .ok (.int .i64 ((m / 8:Nat):Int)) w:=by
 have h4:IntKind.i64.wrap ((m:Int) / 8)=(m:Int) / 8:=i64_in (by omega) (by omega)
 simp [binOp,Op.intArith,Op.intDiv,h4]
theorem st_load {c:Code} {d m:Nat} (hm:m < 4096) (hc:RegIs c [(some (d),.fieldAddr 36 (.tmp 7) 0),(some (d + 1),.load 34 (.tmp d)),(some (d + 2),.move (.tmp 1)),(some (d + 3),.binOp .quo 3 (.tmp (d + 2)) (.const (.int .i64 8)) 3),(some (d + 4),.indexAddr 34 (.tmp (d + 1)) (.tmp (d + 3))),(some (d + 5),.load 64 (.tmp (d + 4))),(some (8),.assign (.tmp (d + 5)))]) (hd0:8 < d∧d + 5 < n)
  (H:StJ n w0 w3 B7 (m:Int) vo rows xs a w) (hx:m / 8 < xs.length):c.wp PR (fun ex a' w'=>ex = .normal∧StJ n w0 w3 B7 (m:Int) vo rows xs a' w'∧∃ r,rows[m / 8]? = some r∧a'.eval (.tmp 8)=r) a w:=by
 obtain ⟨fd,f1,f2,f3⟩:=fdT
 have hs:=H.size
 have hlen:=H.deep.len
 obtain ⟨r,hr⟩:∃ r,rows[m / 8]? = some r:=⟨_,List.getElem?_eq_getElem (by omega)⟩
 obtain ⟨g,cap,hvo⟩:∃ g cap,vo = .slice (some ⟨g,0,none⟩) rows.length cap:=by
  rcases H.deep.own.2 with ⟨_,h0⟩ | ⟨g,cap,_,h,_⟩
  ·omega
  ·exact ⟨g,cap,h⟩
 have hcell:w.cell? ⟨g,m / 8,none⟩=some r:=by
  have:=H.deep.own.cells (g:=g) (by rw [hvo];rfl) (m / 8) r hr
  rw [addr_add,Nat.zero_add] at this
  exact this
 refine wp_regIs hc ?_
 simp only [wpL]
 intro o hd ho
 refine op_fieldAddr (k:=0) (b:=B7) (off:=0) ho f1 f3 (by simp (disch:=first | omega | (simp only [size_put];omega)) only [ev_skip,ev_hit,ev_const,H.e1,H.e3,H.e5,H.e6,H.e7]) ?_
 rw [hd]
 clear hd ho o
 rw [f2,Nat.zero_add]
 intro o hd ho
 refine load1_op (b:=B7) (off:=0) uT rfl ho (by simp (disch:=first | omega | (simp only [size_put];omega)) only [ev_skip,ev_hit,ev_const,H.e1,H.e3,H.e5,H.e6,H.e7]) (cell_one H.b7) ?_
 rw [hd]
 clear hd ho o
 intro o hd ho
 refine op_move ho ?_
 rw [hd]
 clear hd ho o
 intro o hd ho
 refine bin_int (C:=KW) (i:=.i64) (j:=.i64) (m:=(m:Int)) (n:=8) (v:=.int .i64 ((m / 8:Nat):Int)) ho (by simp (disch:=first | omega | (simp only [size_put];omega)) only [ev_skip,ev_hit,ev_const,H.e1,H.e3,H.e5,H.e6,H.e7]) rfl (quo8 m hm) ?_
 rw [hd]
 clear hd ho o
 intro o hd ho
 refine op_indexAddr (kd:=.i64) (b:=g) (off:=0) (len:=rows.length) (c:=cap) (j:=((m / 8:Nat):Int)) ho uT szR (by simp (disch:=first | omega | (simp only [size_put];omega)) only [ev_skip,ev_hit,ev_const,H.e1,H.e3,H.e5,H.e6,H.e7,hvo]) (by simp (disch:=first | omega | (simp only [size_put];omega)) only [ev_skip,ev_hit,ev_const,H.e1,H.e3,H.e5,H.e6,H.e7]) (by omega) (by omega) ?_
 rw [hd]
 clear hd ho o
 rw [show 0 + ((m / 8:Nat):Int).toNat * 1=m / 8 by omega]
 intro o hd ho
 refine load1_op (b:=g) (off:=m / 8) uR rfl ho (by simp (disch:=first | omega | (simp only [size_put];omega)) only [ev_skip,ev_hit,ev_const,H.e1,H.e3,H.e5,H.e6,H.e7]) hcell ?_
 rw [hd]
 clear hd ho o
 intro o hd ho
 refine op_assign ho ?_
 rw [hd]
 clear hd ho o
 refine ⟨by trivial,?_,r,hr,(by simp (disch:=first | omega | (simp only [size_put];omega)) only [ev_skip,ev_hit,ev_const,H.e1,H.e3,H.e5,H.e6,H.e7])⟩
 exact ((((((H.put (by omega)).put (by omega)).put (by omega)).put (by omega)).put (by omega)).put (by omega)).put (by omega)
theorem st_lay {c:Code} {d m:Nat} (hm:m < 4096) (hc:RegIs c [(some (d),.fieldAddr 36 (.tmp 7) 0),(some (d + 1),.load 34 (.tmp d)),(some (d + 2),.move (.tmp 1)),(some (d + 3),.binOp .quo 3 (.tmp (d + 2)) (.const (.int .i64 8)) 3),(some (d + 4),.move (.tmp 8)),(some (d + 5),.indexAddr 34 (.tmp (d + 1)) (.tmp (d + 3))),(none,.store 64 (.tmp (d + 5)) (.tmp (d + 4)))]) (hd0:8 < d∧d + 5 < n)
  (H:StJ n w0 w3 B7 (m:Int) vo rows xs a w) (hx:m / 8 < xs.length) {r:Value} {u:U} (h8:a.eval (.tmp 8)=r) (hr:RowE w r u) (hrF:∀ b,r.ownBlock=some b→w0.heap.size + 3≤b∧b≠B7∧vo.ownBlock≠some b∧∀ (j:Nat) (r':Value),j≠m / 8→rows[j]? = some r'→r'.ownBlock≠some b) :
  c.wp PR (fun ex a' w'=>ex = .normal∧∃ vo' rows',StJ n w0 w3 B7 (m:Int) vo' rows' (xs.set (m / 8) u) a' w') a w:=by
 obtain ⟨fd,f1,f2,f3⟩:=fdT
 have hs:=H.size
 have hlen:=H.deep.len
 have hlo:=H.lo
 have hlt:=H.b7lt
 obtain ⟨g,cap,hvo⟩:∃ g cap,vo = .slice (some ⟨g,0,none⟩) rows.length cap:=by
  rcases H.deep.own.2 with ⟨_,h0⟩ | ⟨g,cap,_,h,_⟩
  ·omega
  ·exact ⟨g,cap,h⟩
 have hgF:=H.deep.home g (by rw [hvo];rfl)
 refine wp_regIs hc ?_
 simp only [wpL]
 intro o hd ho
 refine op_fieldAddr (k:=0) (b:=B7) (off:=0) ho f1 f3 (by simp (disch:=first | omega | (simp only [size_put];omega)) only [ev_skip,ev_hit,ev_const,H.e1,H.e3,H.e5,H.e6,H.e7]) ?_
 rw [hd]
 clear hd ho o
 rw [f2,Nat.zero_add]
 intro o hd ho
 refine load1_op (b:=B7) (off:=0) uT rfl ho (by simp (disch:=first | omega | (simp only [size_put];omega)) only [ev_skip,ev_hit,ev_const,H.e1,H.e3,H.e5,H.e6,H.e7]) (cell_one H.b7) ?_
 rw [hd]
 clear hd ho o
 intro o hd ho
 refine op_move ho ?_
 rw [hd]
 clear hd ho o
 intro o hd ho
 refine bin_int (C:=KW) (i:=.i64) (j:=.i64) (m:=(m:Int)) (n:=8) (v:=.int .i64 ((m / 8:Nat):Int)) ho (by simp (disch:=first | omega | (simp only [size_put];omega)) only [ev_skip,ev_hit,ev_const,H.e1,H.e3,H.e5,H.e6,H.e7]) rfl (quo8 m hm) ?_
 rw [hd]
 clear hd ho o
 intro o hd ho
 refine op_move ho ?_
 rw [hd]
 clear hd ho o
 intro o hd ho
 refine op_indexAddr (kd:=.i64) (b:=g) (off:=0) (len:=rows.length) (c:=cap) (j:=((m / 8:Nat):Int)) ho uT szR (by simp (disch:=first | omega | (simp only [size_put];omega)) only [ev_skip,ev_hit,ev_const,H.e1,H.e3,H.e5,H.e6,H.e7,hvo]) (by simp (disch:=first | omega | (simp only [size_put];omega)) only [ev_skip,ev_hit,ev_const,H.e1,H.e3,H.e5,H.e6,H.e7]) (by omega) (by omega) ?_
 rw [hd]
 clear hd ho o
 rw [show 0 + ((m / 8:Nat):Int).toNat * 1=m / 8 by omega]
 intro o hd ho
 refine lay_op (g:=g) (k:=m / 8) (r:=r) szR ho (by simp (disch:=first | omega | (simp only [size_put];omega)) only [ev_skip,ev_hit,ev_const,H.e1,H.e3,H.e5,H.e6,H.e7]) (by rw [hvo];rfl) (by simp (disch:=first | omega | (simp only [size_put];omega)) only [ev_skip,ev_hit,ev_const,H.e1,H.e3,H.e5,H.e6,H.e7,h8]) H.deep (by omega) hr (fun b hb=>⟨⟨(hrF b hb).1,(hrF b hb).2.1⟩,(hrF b hb).2.2⟩) ?_
 intro w2 D2 g2 hsz2
 rw [hd,put_none]
 clear hd ho o
 have hob:∀ b,b < w.heap.size→b≠g→w2.heap[b]? = w.heap[b]?:=fun b hb hn=>g2.block b hb fun e=>hn (by injection e)
 refine ⟨by trivial,vo,rows.set (m / 8) r,?_⟩
 refine { size:=by simp only [size_put];exact hs,calm:=by simp only [defers_put];exact H.calm,e1:=(by simp (disch:=first | omega | (simp only [size_put];omega)) only [ev_skip,ev_hit,ev_const,H.e1,H.e3,H.e5,H.e6,H.e7]),e3:=(by simp (disch:=first | omega | (simp only [size_put];omega)) only [ev_skip,ev_hit,ev_const,H.e1,H.e3,H.e5,H.e6,H.e7]),e5:=(by simp (disch:=first | omega | (simp only [size_put];omega)) only [ev_skip,ev_hit,ev_const,H.e1,H.e3,H.e5,H.e6,H.e7]),e6:=(by simp (disch:=first | omega | (simp only [size_put];omega)) only [ev_skip,ev_hit,ev_const,H.e1,H.e3,H.e5,H.e6,H.e7]),e7:=(by simp (disch:=first | omega | (simp only [size_put];omega)) only [ev_skip,ev_hit,ev_const,H.e1,H.e3,H.e5,H.e6,H.e7]),old:=fun b hb=>(hob b (by omega) (by omega)).trans (H.old b hb),fut:=?_,b7:=(hob B7 hlt (Ne.symm hgF.2)).trans H.b7,deep:=D2,lo:=hlo }
 exact ⟨g2.os.trans H.fut.os,g2.tape.trans H.fut.tape,g2.output.trans H.fut.output,by have:=H.fut.size;omega,fun k hk _=>(hob k (by have:=H.fut.size;omega) (by omega)).trans (H.fut.block k hk id)⟩
theorem st_cut {a1:Act} {vo':Value} {rows':List Value} {ys:List U} (H:StJ n w0 w3 B7 i vo rows xs a w) (D:DeepE (fun b=>w0.heap.size + 3≤b∧b≠B7) w vo' rows' ys) {x y:Operand} {K:Act→World→Prop} {Q:Exit→Act→World→Prop} {o:Oper} (ho:o.op = .store 34 x y) (hx:a1.eval x = .pointer (some ⟨B7,0,none⟩)) (hy:a1.eval y=vo')
  (hs:a1.tmps.size=n) (hd:a1.defers=[]) (h1:a1.eval (.tmp 1) = .int .i64 i) (h3:a1.eval (.tmp 3) = .pointer (some ⟨w0.heap.size,0,none⟩)) (h5:a1.eval (.tmp 5) = .pointer (some ⟨w0.heap.size + 1,0,none⟩)) (h6:a1.eval (.tmp 6) = .pointer (some ⟨w0.heap.size + 2,0,none⟩)) (h7:a1.eval (.tmp 7) = .pointer (some ⟨B7,0,none⟩))
  (hn:o.dst=none) (hK:∀ w2,StJ n w0 w3 B7 i vo' rows' ys a1 w2→K a1 w2):o.wp PR a1 w K Q:=by
 have hlo:=H.lo
 have hlt:=H.b7lt
 refine store1_op (b:=B7) (v:=vo') (c:=#[vo]) szT ho hx hy (cells_one (own_one D.own)) (own_one D.own) rfl H.b7 ?_
 intro w2 hB g2 hsz2
 rw [hn,put_none]
 have hob:∀ b,b < w.heap.size→b≠B7→w2.heap[b]? = w.heap[b]?:=fun b hb hn=>g2.block b hb fun e=>hn (by injection e)
 refine hK w2 { size:=hs,calm:=hd,e1:=h1,e3:=h3,e5:=h5,e6:=h6,e7:=h7,old:=fun b hb=>(hob b (by omega) (by omega)).trans (H.old b hb),fut:=?_,b7:=hB,deep:=D.same fun b hb hl=>hob b hl hb.2,lo:=hlo }
 exact ⟨g2.os.trans H.fut.os,g2.tape.trans H.fut.tape,g2.output.trans H.fut.output,by have:=H.fut.size;omega,fun k hk _=>(hob k (by have:=H.fut.size;omega) (by omega)).trans (H.fut.block k hk id)⟩
theorem sub1 (m:Nat) (hm:m < 1073741824) {w:World}:(binOp .sub 3 (.int .i64 ((m + 1:Nat):Int)) (.int .i64 1)).run KW.P w = .ok (.int .i64 (m:Int)) w:=by
 have h4:IntKind.i64.wrap (m:Int)=(m:Int):=i64_in (by omega) (by omega)
 have h2:((m + 1:Nat):Int) - 1=(m:Int):=by omega
 simp only [binOp,Op.intArith,h2]
 simp [h4]
theorem st_trim {c:Code} {d m:Nat} (hm:m < 1073741824) (hc:RegIs c [(some (d),.fieldAddr 36 (.tmp 7) 0),(some (d + 1),.load 34 (.tmp d)),(some (d + 2),.move (.tmp 9)),(some (d + 3),.binOp .sub 3 (.tmp (d + 2)) (.const (.int .i64 1)) 3),(some (d + 4),.slice 34 (.tmp (d + 1)) none (some (.tmp (d + 3))) none),(some (d + 5),.fieldAddr 36 (.tmp 7) 0),(none,.store 34 (.tmp (d + 5)) (.tmp (d + 4)))]) (hd0:9 < d∧d + 5 < n)
  (H:StJ n w0 w3 B7 i vo rows xs a w) (h9:a.eval (.tmp 9) = .int .i64 ((m + 1:Nat):Int)) (hx:m≤xs.length):c.wp PR (fun ex a' w'=>ex = .normal∧∃ vo' rows',StJ n w0 w3 B7 i vo' rows' (xs.take m) a' w'∧a'.eval (.tmp 9) = .int .i64 ((m + 1:Nat):Int)) a w:=by
 obtain ⟨fd,f1,f2,f3⟩:=fdT
 have hs:=H.size
 refine wp_regIs hc ?_
 simp only [wpL]
 intro o hd ho
 refine op_fieldAddr (k:=0) (b:=B7) (off:=0) ho f1 f3 (by simp (disch:=first | omega | (simp only [size_put];omega)) only [ev_skip,ev_hit,ev_const,H.e1,H.e3,H.e5,H.e6,H.e7]) ?_
 rw [hd]
 clear hd ho o
 rw [f2,Nat.zero_add]
 intro o hd ho
 refine load1_op (b:=B7) (off:=0) uT rfl ho (by simp (disch:=first | omega | (simp only [size_put];omega)) only [ev_skip,ev_hit,ev_const,H.e1,H.e3,H.e5,H.e6,H.e7]) (cell_one H.b7) ?_
 rw [hd]
 clear hd ho o
 intro o hd ho
 refine op_move ho ?_
 rw [hd]
 clear hd ho o
 intro o hd ho
 refine bin_int (C:=KW) (i:=.i64) (j:=.i64) (m:=((m + 1:Nat):Int)) (n:=1) (v:=.int .i64 (m:Int)) ho (by simp (disch:=first | omega | (simp only [size_put];omega)) only [ev_skip,ev_hit,ev_const,H.e1,H.e3,H.e5,H.e6,H.e7,h9]) rfl (sub1 m hm) ?_
 rw [hd]
 clear hd ho o
 intro o hd ho
 refine take_op (kd:=.i64) (m:=m) (vo:=vo) uT szR ho (by simp (disch:=first | omega | (simp only [size_put];omega)) only [ev_skip,ev_hit,ev_const,H.e1,H.e3,H.e5,H.e6,H.e7]) (by simp (disch:=first | omega | (simp only [size_put];omega)) only [ev_skip,ev_hit,ev_const,H.e1,H.e3,H.e5,H.e6,H.e7]) H.deep hx ?_
 intro vo' D
 rw [hd]
 clear hd ho o
 intro o hd ho
 refine op_fieldAddr (k:=0) (b:=B7) (off:=0) ho f1 f3 (by simp (disch:=first | omega | (simp only [size_put];omega)) only [ev_skip,ev_hit,ev_const,H.e1,H.e3,H.e5,H.e6,H.e7]) ?_
 rw [hd]
 clear hd ho o
 rw [f2,Nat.zero_add]
 intro o hd ho
 refine st_cut H D ho (by simp (disch:=first | omega | (simp only [size_put];omega)) only [ev_skip,ev_hit,ev_const,H.e1,H.e3,H.e5,H.e6,H.e7]) (by simp (disch:=first | omega | (simp only [size_put];omega)) only [ev_skip,ev_hit,ev_const,H.e1,H.e3,H.e5,H.e6,H.e7]) (by simp only [size_put];exact hs) (by simp only [defers_put];exact H.calm) (by simp (disch:=first | omega | (simp only [size_put];omega)) only [ev_skip,ev_hit,ev_const,H.e1,H.e3,H.e5,H.e6,H.e7]) (by simp (disch:=first | omega | (simp only [size_put];omega)) only [ev_skip,ev_hit,ev_const,H.e1,H.e3,H.e5,H.e6,H.e7]) (by simp (disch:=first | omega | (simp only [size_put];omega)) only [ev_skip,ev_hit,ev_const,H.e1,H.e3,H.e5,H.e6,H.e7]) (by simp (disch:=first | omega | (simp only [size_put];omega)) only [ev_skip,ev_hit,ev_const,H.e1,H.e3,H.e5,H.e6,H.e7]) (by simp (disch:=first | omega | (simp only [size_put];omega)) only [ev_skip,ev_hit,ev_const,H.e1,H.e3,H.e5,H.e6,H.e7]) hd ?_
 intro w2 H2
 exact ⟨by trivial,vo',rows.take m,H2,(by simp (disch:=first | omega | (simp only [size_put];omega)) only [ev_skip,ev_hit,ev_const,H.e1,H.e3,H.e5,H.e6,H.e7,h9])⟩
theorem st_end {fn:Func} {c:Code} {d:Nat} (hc:RegIs c [(some d,.load 36 (.tmp 7)),(none,.store 36 (.tmp 6) (.tmp d))]) (hd0:8 < d∧d < n) (hres:fn.results = #[.cell 6 36]) (hrt:fn.resultTypes.toList=[36]) (S:St0 w0 w3 Z v T e) (H:StJ n w0 w3 B7 i vo rows xs a w) :
  (Code.seq c .ret).wp PR (fun ex a' w'=>ex = .ret∧bodyPost PR fn (Den.Ends PR fn [[.l xs]] w0 Z) .ret a' w') a w:=by
 obtain ⟨dA,hdA,hagg⟩:=uTb
 have hs:=H.size
 have hlo:=H.lo
 have hlt:=H.b7lt
 have hone:=own_one H.deep.own
 refine wp_seq (wp_regIs hc ?_)
 simp only [wpL]
 intro o hd ho
 refine loadA_op hdA hagg szA ho H.e7 H.b7 ?_
 rw [hd]
 clear hd ho o
 intro o hd ho
 refine store1_op (v:=.agg #[vo]) (b:=w0.heap.size + 2) szA ho (by rw [ev_skip (by omega)];exact H.e6) (ev_hit (by omega)) (by simp [Value.cells,cells_one hone]) hone rfl ((H.old _ (by omega)).trans S.box6) ?_
 intro w6 hB6 g6 hsz6
 rw [hd,put_none]
 clear hd ho o
 refine wp_ret ⟨rfl,?_⟩
 have hob:∀ b,b < w.heap.size→b≠w0.heap.size + 2→w6.heap[b]? = w.heap[b]?:=fun b hb hn=>g6.block b hb fun e=>hn (by injection e)
 have hD:DeepE (fun b=>w0.heap.size + 3≤b∧b≠B7) w6 vo rows xs:=H.deep.same fun b hb hl=>hob b hl (by omega)
 have hfs:=H.fut.size
 have F6:Fut (fun _=>False) w0 w6:=⟨g6.os.trans H.fut.os,g6.tape.trans H.fut.tape,g6.output.trans H.fut.output,by omega,fun k hk _=>(hob k (by omega) (by omega)).trans (H.fut.block k hk id)⟩
 obtain ⟨Z',hZ'⟩:∃ Z':Nat→Prop,Z' = fun b=>Z b∨vo.ownBlock=some b∨∃ (j:Nat) (r:Value),rows[j]? = some r∧r.ownBlock=some b:=⟨_,rfl⟩
 refine ⟨by rw [defers_put];exact H.calm,.agg #[vo],results_cell hres ?_ (run_loadVar_agg (vs:=[vo]) hdA hagg szA rfl (fun j u hj=>by
  cases j with
  | zero=>simp at hj;subst hj;exact cell_one hB6
  | succ j=>simp at hj)),.agg #[vo],Z',rfl,F6,fun b hb=>by rw [hZ'];exact .inl hb,fun b hb=>?_,fun b hb=>?_,[.agg [.val TRC (.l xs)]],?_,?_⟩
 ·have:=H.e6
  rw [← ev_skip (d:=d) (v:=.agg #[vo]) (by omega)] at this
  exact this
 ·rw [hZ'] at hb
  rcases hb with hb | hb | ⟨j,r,hr,hb⟩
  ·exact .inl hb
  ·have:=(hD.home b hb).1
   exact .inr ⟨by omega,own_plain hD.own hb⟩
  ·have:=(hD.rowF j r b hr hb).1.1
   exact .inr ⟨by omega,(hD.row j r hr).plain hb⟩
 ·rw [hZ'] at hb
  rcases hb with hb | hb | ⟨j,r,hr,hb⟩
  ·have:=S.zlt b hb;omega
  ·exact (hD.own.lt b hb).2
  ·exact (hD.row j r hr).lt hb
 ·rw [hrt];rfl
 ·refine ⟨#[vo],rfl,vo,[],rfl,?_,rfl⟩
  have hb:=blk_own hD.own
  exact own_rep (Z:=Z') (fun _ h=>h) (fun b h=>by rw [hZ'];rw [hb] at h;exact .inr (.inl h)) (by rw [← hD.len];exact hD.own) (hD.reps fun j r b hr hb=>by rw [hZ'];exact .inr (.inr ⟨j,r,hr,hb⟩))
end
end Go.Mat

namespace Go.Mat
open Go Go.Den Go.Proofs
noncomputable def KA:Ctx:=(mkC PR eqs0 (fnsCons 73 anyS fnsNil) trsNil noLoops noOut noOut).panics fun _ _=>False
noncomputable def KF:Ctx:=(mkC PR eqs0 fnsNil (trsCons 74 [] cfF trsNil) noLoops noOut noOut).panics fun _ _=>False
noncomputable def stC:Code:=bodyOf Try.f64
noncomputable def st2:Array Oper:=regOps (piece stC [1,1,0,0])
noncomputable def st4:Array Oper:=regOps (piece stC [1,1,1,0,0,0,0,0])
noncomputable def st7:Array Oper:=regOps (piece stC [1,1,1,1,1,0,0])
noncomputable def st8:Array Oper:=regOps (piece stC [1,1,1,1,1,0,1,0])
noncomputable def st9:Array Oper:=regOps (piece stC [1,1,1,1,1,1,0])
noncomputable def st10:Array Oper:=regOps (piece stC [1,1,1,1,1,1,1,0,0])
noncomputable def st11:Array Oper:=regOps (piece stC [1,1,1,1,1,1,1,0,1,0])
noncomputable def st13:Array Oper:=regOps (piece stC [1,1,1,1,1,1,1,1,1,0,0])
noncomputable def st14:Array Oper:=regOps (piece stC [1,1,1,1,1,1,1,1,1,0,1,0,0,0,0])
noncomputable def st15:Array Oper:=regOps (piece stC [1,1,1,1,1,1,1,1,1,0,1,0,0,1,1])
theorem st2_tree (k:KSt) (i:Int) (T a b d e g:U) (xs:List U):(execOps KA st2.toList st2.toList ⟨envS i T [a,b,d,e,g] xs [],[]⟩ k)=(bif decide (i < 0) then k (St.mk [(23,.val .bool (U.b true)),(22,.und),(18,.val .bool (U.b true)),(21,.und),(18,.val .bool (U.b true)),(20,.und),(18,.val .bool (U.b true)),(19,.und),(18,.val .bool (U.b true)),(18,.val .bool (U.b true)),(17,.val .bool (U.b true)),(16,.und),(14,.val .bool (U.b true)),(15,.und),(14,.val .bool (U.b true)),(14,.val .bool (U.b (decide (i < 0)))),(13,.val .bool (U.b (decide (i < 0)))),(12,vi (U.i i)),(1,vi (U.i i)),(3,.rptr [.sl false [.sl true EC]] [T]),(5,.rptr EC [a,b,d,e,g]),(7,.rptr [.sl false [.sl true EC]] [U.l xs])] []) else bif decide (i ≥ 4096) then k (St.mk [(23,.val .bool (U.b true)),(22,.und),(18,.val .bool (U.b true)),(21,.und),(18,.val .bool (U.b true)),(20,.und),(18,.val .bool (U.b true)),(19,.und),(18,.val .bool (U.b true)),(18,.val .bool (U.b (decide (i ≥ 4096)))),(17,.val .bool (U.b (decide (i ≥ 4096)))),(16,.val .bool (U.b (decide (i ≥ 4096)))),(14,.val .bool (U.b false)),(15,vi (U.i i)),(14,.val .bool (U.b false)),(14,.val .bool (U.b (decide (i < 0)))),(13,.val .bool (U.b (decide (i < 0)))),(12,vi (U.i i)),(1,vi (U.i i)),(3,.rptr [.sl false [.sl true EC]] [T]),(5,.rptr EC [a,b,d,e,g]),(7,.rptr [.sl false [.sl true EC]] [U.l xs])] []) else k (St.mk [(23,.val .bool (U.b !fitsFrom T.list a.int b.int d.int e.int g.int (7:Nat) 0)),(22,.val .bool (U.b !fitsFrom T.list a.int b.int d.int e.int g.int (7:Nat) 0)),(18,.val .bool (U.b false)),(21,.val .bool (U.b (fitsFrom T.list a.int b.int d.int e.int g.int (7:Nat) 0))),(18,.val .bool (U.b false)),(20,.agg [vi a,vi b,vi d,vi e,.val (.int .u32) g]),(18,.val .bool (U.b false)),(19,.agg [.val (.sl false [.sl true EC]) T]),(18,.val .bool (U.b false)),(18,.val .bool (U.b (decide (i ≥ 4096)))),(17,.val .bool (U.b (decide (i ≥ 4096)))),(16,.val .bool (U.b (decide (i ≥ 4096)))),(14,.val .bool (U.b false)),(15,vi (U.i i)),(14,.val .bool (U.b false)),(14,.val .bool (U.b (decide (i < 0)))),(13,.val .bool (U.b (decide (i < 0)))),(12,vi (U.i i)),(1,vi (U.i i)),(3,.rptr [.sl false [.sl true EC]] [T]),(5,.rptr EC [a,b,d,e,g]),(7,.rptr [.sl false [.sl true EC]] [U.l xs])] [])):=by kernel_rfl
theorem st4_tree (k:KSt) (i:Int) (T a b d e g:U) (xs:List U):(execOps KW st4.toList st4.toList ⟨envS i T [a,b,d,e,g] xs [],[]⟩ k)=(k (St.mk [(30,SV.val Ct.bool (U.b (decide ((↑(List.length (U.list (nth (U.i 0) (List.drop (0:Nat) [U.l xs]) (0:Nat)))):Int)≤IntKind.wrap IntKind.i64 (Int.tdiv i 8))))),(29,vi (U.i (IntKind.wrap
 IntKind.i64 (Int.tdiv i 8)))),(28,vi (U.i i)),(27,vi (U.i (↑(List.length (U.list (nth (U.i 0) (List.drop (0:Nat) [U.l xs]) (0:Nat)))):Int))),(26,SV.val (Ct.sl false [Ct.sl true EC]) (U.l xs)),
 (25,SV.rptr [Ct.sl false [Ct.sl true EC]] [U.l xs]),(1,vi (U.i i)),(3,SV.rptr [Ct.sl false [Ct.sl true EC]] [T]),(5,SV.rptr EC [a,b,d,e,g]),(7,SV.rptr [Ct.sl false [Ct.sl true EC]] [U.l xs])]
 [])):=by kernel_rfl
theorem st7_tree (k:KSt) (i:Int) (T R a b d e g:U) (xs:List U):(execOps KW st7.toList st7.toList ⟨envS i T [a,b,d,e,g] xs [(8,vt EC R)],[]⟩ k)=(k (St.mk [(44,SV.val Ct.bool (U.b ((↑(List.length R.list):Int) == 0))),(43,vi (U.i (↑(List.length R.list):Int))),(42,SV.val (Ct.sl true EC) R),(8,SV.val (Ct.sl true EC) R),(1,vi (U.i i)),
 (3,SV.rptr [Ct.sl false [Ct.sl true EC]] [T]),(5,SV.rptr EC [a,b,d,e,g]),(7,SV.rptr [Ct.sl false [Ct.sl true EC]] [U.l xs])] [])):=by kernel_rfl
theorem st8_tree (k:KSt) (i:Int) (T a b d e g:U) (xs:List U):(execOps KW st8.toList st8.toList ⟨envS i T [a,b,d,e,g] xs [],[]⟩ k)=(k (St.mk [(8,SV.own 5886),(45,SV.own 5886),(1,vi (U.i i)),(3,SV.rptr [Ct.sl false [Ct.sl true EC]] [T]),(5,SV.rptr EC [a,b,d,e,g]),(7,SV.rptr [Ct.sl false [Ct.sl true EC]] [U.l xs])] [(5886,
 Obj.arr 24 [U.l [U.i 0,U.i 0,U.i 0,U.i 0,U.i 0],U.l [U.i 0,U.i 0,U.i 0,U.i 0,U.i 0],U.l [U.i 0,U.i 0,U.i 0,U.i 0,U.i 0],U.l [U.i 0,U.i 0,U.i 0,U.i 0,U.i 0],U.l [U.i 0,U.i 0,U.i 0,
 U.i 0,U.i 0],U.l [U.i 0,U.i 0,U.i 0,U.i 0,U.i 0],U.l [U.i 0,U.i 0,U.i 0,U.i 0,U.i 0],U.l [U.i 0,U.i 0,U.i 0,U.i 0,U.i 0]])])):=by kernel_rfl
theorem st9_tree (k:KSt) (i:Int) (a b d e g:U) (R:List U):(execOps KW st9.toList st9.toList ⟨[(8,.own 2),(1,vi (.i i)),(3,.unk),(5,.rptr EC [a,b,d,e,g]),(7,.unk)],[(2,.arr 24 R)]⟩ k)=(bif decide ((0:Int)≤Int.tmod i 8∧Int.tmod i (8:Int) < (↑(List.length R):Int)) then bif Nat.blt (Int.toNat (Int.tmod i 8)) (List.length R) then k (St.mk [(50,SV.aptr 2 5 (Int.toNat (Int.tmod
 i 8)) 0),(49,SV.agg [vi a,vi b,vi d,vi e,SV.val (.int .u32) g]),(48,vi (U.i (Int.tmod i 8))),(47,vi (U.i i)),(46,SV.own 2),(8,SV.own 2),(1,vi (U.i i)),(3,SV.unk),(5,SV.rptr EC [a,b,
 d,e,g]),(7,SV.unk)] [(2,Obj.arr 24 (List.set R (Int.toNat (Int.tmod i 8)) (U.l (patchU (U.list (nth (U.i 0) R (Int.toNat (Int.tmod i 8)))) (0:Nat) [a,b,d,e,g]))))]) else False else False):=by kernel_rfl
theorem st10_tree (k:KSt) (i:Int) (T R a b d e g:U) (xs:List U):(execOps KF st10.toList st10.toList ⟨envS i T [a,b,d,e,g] xs [(8,vt EC R)],[]⟩ k)=((EC=EC∧nat_lit 75=nat_lit 75)∧k (St.mk [(53,SV.val Ct.bool (U.b !anyNN R.list)),(52,SV.val Ct.bool (U.b (anyNN R.list))),(51,SV.val (Ct.sl true EC) R),(8,SV.val (Ct.sl true EC) R),(1,vi
 (U.i i)),(3,SV.rptr [Ct.sl false [Ct.sl true EC]] [T]),(5,SV.rptr EC [a,b,d,e,g]),(7,SV.rptr [Ct.sl false [Ct.sl true EC]] [U.l xs])] [])):=by kernel_rfl
theorem st11_tree (k:KSt) (i:Int) (T a b d e g:U) (xs:List U):(execOps KW st11.toList st11.toList ⟨envS i T [a,b,d,e,g] xs [],[]⟩ k)=(k (St.mk [(8,SV.own 1148),(1,vi (U.i i)),(3,SV.rptr [Ct.sl false [Ct.sl true EC]] [T]),(5,SV.rptr EC [a,b,d,e,g]),(7,SV.rptr [Ct.sl false [Ct.sl true EC]] [U.l xs])] [(1148,Obj.arr 24 [])])):=by kernel_rfl
theorem st13_tree (k:KSt) (i:Int) (T a b d e g:U) (xs:List U):(execOps KW st13.toList st13.toList ⟨envS i T [a,b,d,e,g] xs [],[]⟩ k)=(k (St.mk [(9,vi (U.i (↑(List.length (U.list (nth (U.i 0) (List.drop (0:Nat) [U.l xs]) (0:Nat)))):Int))),(62,vi (U.i (↑(List.length (U.list (nth (U.i 0) (List.drop (0:Nat) [U.l xs]) (0:Nat))))
 : Int))),(61,SV.val (Ct.sl false [Ct.sl true EC]) (U.l xs)),(60,SV.rptr [Ct.sl false [Ct.sl true EC]] [U.l xs]),(1,vi (U.i i)),(3,SV.rptr [Ct.sl false [Ct.sl true EC]] [T]),(5,SV.rptr EC [a,
 b,d,e,g]),(7,SV.rptr [Ct.sl false [Ct.sl true EC]] [U.l xs])] [])):=by kernel_rfl
theorem st14_tree (k:KSt) (i:Int) (T a b d e g n:U) (xs:List U):(execOps KW st14.toList st14.toList ⟨envS i T [a,b,d,e,g] xs [(9,vi n)],[]⟩ k)=(bif decide (n.int > 0) then bif decide ((0:Int)≤IntKind.wrap .i64 (n.int - 1)∧IntKind.wrap .i64 (n.int - 1) < (↑(List.length (U.list (nth (U.i 0) (List.drop (0:Nat) [U.l xs]) (0:Nat)))):Int)) then k (St.mk [(74,.val .bool (U.b ((↑(List.length (U.list (nth (U.i 0) (U.list (nth (U.i 0) (List.drop (0:Nat) [U.l xs]) (0:Nat))) (Int.toNat (IntKind.wrap .i64 (n.int - 1)))))):Int) == 0))),(73,.val .bool (U.b ((↑(List.length (U.list (nth (U.i 0) (U.list (nth (U.i 0) (List.drop (0:Nat) [U.l xs]) (0:Nat))) (Int.toNat (IntKind.wrap .i64 (n.int - 1)))))):Int) == 0))),(65,.val .bool (U.b true)),(72,vi (U.i (↑(List.length (U.list (nth (U.i 0) (U.list (nth (U.i 0) (List.drop (0:Nat) [U.l xs]) (0:Nat))) (Int.toNat (IntKind.wrap .i64 (n.int - 1)))))):Int))),(65,.val .bool (U.b true)),(71,.val (.sl true EC) (nth (U.i 0) (U.list (nth (U.i 0) (List.drop (0:Nat) [U.l xs]) (0:Nat))) (Int.toNat (IntKind.wrap .i64 (n.int - 1))))),(65,.val .bool (U.b true)),(70,.rptr [.sl true EC] [nth (U.i 0) (U.list (nth (U.i 0) (List.drop (0:Nat) [U.l xs]) (0:Nat))) (Int.toNat (IntKind.wrap .i64 (n.int - 1)))]),(65,.val .bool (U.b true)),(69,vi (U.i (IntKind.wrap .i64 (n.int - 1)))),(65,.val .bool (U.b true)),(68,vi n),(65,.val .bool (U.b true)),(67,.val (.sl false [.sl true EC]) (U.l xs)),(65,.val .bool (U.b true)),(66,.rptr [.sl false [.sl true EC]] [U.l xs]),(65,.val .bool (U.b true)),(65,.val .bool (U.b (decide (n.int > 0)))),(64,.val .bool (U.b (decide (n.int > 0)))),(63,vi n),(9,vi n),(1,vi (U.i i)),(3,.rptr [.sl false [.sl true EC]] [T]),(5,.rptr EC [a,b,d,e,g]),(7,.rptr [.sl false [.sl true EC]] [U.l xs])] []) else False else k (St.mk [(74,.val .bool (U.b false)),(73,.und),(65,.val .bool (U.b false)),(72,.und),(65,.val .bool (U.b false)),(71,.und),(65,.val .bool (U.b false)),(70,.und),(65,.val .bool (U.b false)),(69,.und),(65,.val .bool (U.b false)),(68,.und),(65,.val .bool (U.b false)),(67,.und),(65,.val .bool (U.b false)),(66,.und),(65,.val .bool (U.b false)),(65,.val .bool (U.b (decide (n.int > 0)))),(64,.val .bool (U.b (decide (n.int > 0)))),(63,vi n),(9,vi n),(1,vi (U.i i)),(3,.rptr [.sl false [.sl true EC]] [T]),(5,.rptr EC [a,b,d,e,g]),(7,.rptr [.sl false [.sl true EC]] [U.l xs])] [])):=by kernel_rfl
theorem st15_tree (k:KSt) (i:Int) (T a b d e g n:U) (xs:List U):(execOps KW st15.toList st15.toList ⟨envS i T [a,b,d,e,g] xs [(9,vi n)],[]⟩ k)=(k (St.mk [(9,vi (U.i (IntKind.wrap IntKind.i64 (n.int - 1)))),(76,vi (U.i (IntKind.wrap IntKind.i64 (n.int - 1)))),(75,vi n),(9,vi n),(1,vi (U.i i)),(3,SV.rptr [Ct.sl false [Ct.sl true EC]]
 [T]),(5,SV.rptr EC [a,b,d,e,g]),(7,SV.rptr [Ct.sl false [Ct.sl true EC]] [U.l xs])] [])):=by kernel_rfl
end Go.Mat

namespace Go.Mat
open Go Go.Den Go.Proofs Go.RowKit
set_option maxRecDepth 100000
def zeroRow:List U:=[.l [.i 0,.i 0,.i 0,.i 0,.i 0],.l [.i 0,.i 0,.i 0,.i 0,.i 0],.l [.i 0,.i 0,.i 0,.i 0,.i 0],.l [.i 0,.i 0,.i 0,.i 0,.i 0],.l [.i 0,.i 0,.i 0,.i 0,.i 0],.l [.i 0,.i 0,.i 0,.i 0,.i 0],.l [.i 0,.i 0,.i 0,.i 0,.i 0],.l [.i 0,.i 0,.i 0,.i 0,.i 0]]
def rowOf (r:U):List U:=bif (r.list.length:Int) == 0 then zeroRow else r.list
def pokeR (R:List U) (j:Nat) (e:List U):List U:=R.set j (.l (patchU (U.at R j).list 0 e))
def keepR (R:List U):List U:=bif !anyNN R then [] else R
def padR (T:List U) (k:Nat):List U:=T ++ List.replicate k (.l [])
def trimN:Nat→List U→List U
 | 0,xs=>xs
 | m + 1,xs=>bif ((U.at xs m).list.length:Int) == 0 then trimN m (xs.take m) else xs
def setR (T:List U) (m:Nat) (e:List U):List U:=
 let L:=padR T (m / 8 + 1 - T.length)
 let L2:=L.set (m / 8) (.l (keepR (pokeR (rowOf (U.at L (m / 8))) (m % 8) e)))
 trimN L2.length L2
def setX (T:List U) (i:Int) (a b d e g:U):List U:=bif decide (i < 0) || (decide (i ≥ 4096) || !fitsFrom T a.int b.int d.int e.int g.int 7 0) then T else setR T i.toNat [a,b,d,e,g]
def setS:List (List U)→List (List U):=fun us=>[[.l (setX (nth (.i 0) (nth [] us 0) 0).list (nth (.i 0) (nth [] us 1) 0).int (nth (.i 0) (nth [] us 2) 0) (nth (.i 0) (nth [] us 2) 1) (nth (.i 0) (nth [] us 2) 2) (nth (.i 0) (nth [] us 2) 3) (nth (.i 0) (nth [] us 2) 4))]]
def tabP (T:List U):Prop:=T.length≤1048576∧∀ j,j < T.length→(U.at T j).list.length≤1048576
def setP:List (List U)→Prop:=fun us=>tabP (nth (.i 0) (nth [] us 0) 0).list
theorem KA_ok:KA.Ok:=(mkC_ok eqs0_ok mixed_ok (.cons any_ok .nil) .nil).panics _
theorem KF_ok:KF.Ok:=(mkC_ok eqs0_ok mixed_ok .nil (.cons cf_ok .nil)).panics _
theorem leaves_rows {n c:Int}:∀ {T:List U} {i:Int},leavesR n c i T=true→∀ j,j < T.length→(U.at T j).list.length=0∨(U.at T j).list.length=8
 | [],_,_,j,hj=>by simp at hj
 | l :: r,i,h,j,hj=>by
  unfold leavesR at h
  split at h
  ·rename_i h0
   cases j with
   | zero=>exact .inl (by show l.list.length=0;rw [h0.1];rfl)
   | succ j=>exact leaves_rows h j (by simpa using hj)
  ·simp only [Bool.and_eq_true] at h
   cases j with
   | zero=>
    have h1:=h.1
    unfold leafR at h1
    simp only [Bool.and_eq_true,decide_eq_true_eq] at h1
    exact .inr h1.1.1
   | succ j=>exact leaves_rows h.2 j (by simpa using hj)
theorem fits_rows {T:List U} {a b d e g:Int}:∀ {n:Nat} {c:Int},fitsFrom T a b d e g n c=true→∀ j,j < T.length→(U.at T j).list.length=0∨(U.at T j).list.length=8
 | 0,_,h=>by cases h
 | n + 1,c,h=>by
  have key:∀ x y z:Bool,(bif x then (bif y then true else z) else z)=true→z=true∨y=true:=by intro x y z;cases x<;>cases y<;>simp
  rcases key _ _ _ h with h | h
  ·exact fits_rows h
  ·unfold tableR at h
   split at h
   ·cases h
   ·exact leaves_rows h
theorem at_over {xs:List U} {j:Nat} (h:xs.length≤j):U.at xs j = .i 0:=by
 induction xs generalizing j with
 | nil=>simp
 | cons x r ih=>
  cases j with
  | zero=>simp at h
  | succ j=>simp only [nth_succ];exact ih (by simpa using h)
theorem at_pad {T:List U}:∀ {k j:Nat},j < T.length + k→U.at (padR T k) j=if j < T.length then U.at T j else .l []
 | 0,j,h=>by
  unfold padR
  rw [List.replicate_zero,List.append_nil,if_pos (by omega)]
 | k + 1,j,h=>by
  have e:padR T (k + 1)=padR T k ++ [.l []]:=by unfold padR;rw [List.replicate_succ',List.append_assoc]
  have hl:(padR T k).length=T.length + k:=by unfold padR;simp
  rw [e,at_app,hl]
  by_cases hj:j < T.length + k
  ·rw [if_pos hj,at_pad hj]
  ·rw [if_neg hj,if_pos (by omega),if_neg (by omega)]
theorem rowOf_len {r:U} (h:r.list.length=0∨r.list.length=8):(rowOf r).length=8:=by
 unfold rowOf
 rcases h with h | h
 ·rw [h];rfl
 ·rw [h];exact h
theorem st_code:bodyOf Try.f64 = .seq (piece stC [0]) (.seq (piece stC [1,0]) (.seq (.seq (.region (regId (piece stC [1,1,0,0])) st2 false) (.cond (.tmp 23) (.seq (piece stC [1,1,0,1,0,0]) (.ret)) (.skip))) (.seq (.block 0 (.loop (.seq (.seq (.region (regId (piece stC [1,1,1,0,0,0,0,0])) st4 false) (.cond (.tmp 30) (.skip) (.exit 0))) (.block 1 (piece stC [1,1,1,0,0,0,1,0]))))) (.seq (piece stC [1,1,1,1,0]) (.seq (.seq (.region (regId (piece stC [1,1,1,1,1,0,0])) st7 false) (.cond (.tmp 44) (.region (regId (piece stC [1,1,1,1,1,0,1,0])) st8 false) (.skip))) (.seq (.region (regId (piece stC [1,1,1,1,1,1,0])) st9 false) (.seq (.seq (.region (regId (piece stC [1,1,1,1,1,1,1,0,0])) st10 false) (.cond (.tmp 53) (.region (regId (piece stC [1,1,1,1,1,1,1,0,1,0])) st11 false) (.skip))) (.seq (piece stC [1,1,1,1,1,1,1,1,0]) (.seq (.seq (.region (regId (piece stC [1,1,1,1,1,1,1,1,1,0,0])) st13 false) (.block 2 (.loop (.seq (.seq (.region (regId (piece stC [1,1,1,1,1,1,1,1,1,0,1,0,0,0,0])) st14 false) (.cond (.tmp 74) (.skip) (.exit 2))) (.seq (.block 3 (piece stC [1,1,1,1,1,1,1,1,1,0,1,0,0,1,0,0])) (.region (regId (piece stC [1,1,1,1,1,1,1,1,1,0,1,0,0,1,1])) st15 false)))))) (.seq (piece stC [1,1,1,1,1,1,1,1,1,1,0]) (.ret))))))))))):=by kernel_rfl
theorem st_0:RegIs (piece stC [0]) [(some 3,.box 36 (.tmp 0)),(some 5,.box 24 (.tmp 2)),(some 6,.alloc 36)]:=⟨regId (piece stC [0]),regOps (piece stC [0]),by kernel_rfl,by kernel_rfl,by kernel_rfl⟩
theorem st_1:RegIs (piece stC [1,0]) [(some 10,.load 36 (.tmp 3)),(some (10 + 1),.call { callee:=.value (.func 67),args:=#[.tmp 10],argTypes:=#[36] }),(some 7,.alloc 36),(none,.store 36 (.tmp 7) (.tmp (10 + 1)))]:=⟨regId (piece stC [1,0]),regOps (piece stC [1,0]),by kernel_rfl,by kernel_rfl,by kernel_rfl⟩
theorem st_3:RegIs (piece stC [1,1,0,1,0,0]) [(some 24,.load 36 (.tmp 7)),(none,.store 36 (.tmp 6) (.tmp 24))]:=⟨regId (piece stC [1,1,0,1,0,0]),regOps (piece stC [1,1,0,1,0,0]),by kernel_rfl,by kernel_rfl,by kernel_rfl⟩
theorem st_5:RegIs (piece stC [1,1,1,0,0,0,1,0]) [(some 31,.fieldAddr 36 (.tmp 7) 0),(some (31 + 1),.load 34 (.tmp 31)),(some (31 + 2),.buildSlice 34 1 #[(0,.const (.slice none 0 0))]),(some (31 + 3),.call { callee:=.builtin .append,args:=#[.tmp (31 + 1),.tmp (31 + 2)],argTypes:=#[34,34] }),(some (31 + 4),.fieldAddr 36 (.tmp 7) 0),(none,.store 34 (.tmp (31 + 4)) (.tmp (31 + 3)))]:=⟨regId (piece stC [1,1,1,0,0,0,1,0]),regOps (piece stC [1,1,1,0,0,0,1,0]),by kernel_rfl,by kernel_rfl,by kernel_rfl⟩
theorem st_6:RegIs (piece stC [1,1,1,1,0]) [(some 36,.fieldAddr 36 (.tmp 7) 0),(some (36 + 1),.load 34 (.tmp 36)),(some (36 + 2),.move (.tmp 1)),(some (36 + 3),.binOp .quo 3 (.tmp (36 + 2)) (.const (.int .i64 8)) 3),(some (36 + 4),.indexAddr 34 (.tmp (36 + 1)) (.tmp (36 + 3))),(some (36 + 5),.load 64 (.tmp (36 + 4))),(some 8,.assign (.tmp (36 + 5)))]:=⟨regId (piece stC [1,1,1,1,0]),regOps (piece stC [1,1,1,1,0]),by kernel_rfl,by kernel_rfl,by kernel_rfl⟩
theorem st_12:RegIs (piece stC [1,1,1,1,1,1,1,1,0]) [(some 54,.fieldAddr 36 (.tmp 7) 0),(some (54 + 1),.load 34 (.tmp 54)),(some (54 + 2),.move (.tmp 1)),(some (54 + 3),.binOp .quo 3 (.tmp (54 + 2)) (.const (.int .i64 8)) 3),(some (54 + 4),.move (.tmp 8)),(some (54 + 5),.indexAddr 34 (.tmp (54 + 1)) (.tmp (54 + 3))),(none,.store 64 (.tmp (54 + 5)) (.tmp (54 + 4)))]:=⟨regId (piece stC [1,1,1,1,1,1,1,1,0]),regOps (piece stC [1,1,1,1,1,1,1,1,0]),by kernel_rfl,by kernel_rfl,by kernel_rfl⟩
theorem st_16:RegIs (piece stC [1,1,1,1,1,1,1,1,1,0,1,0,0,1,0,0]) [(some 77,.fieldAddr 36 (.tmp 7) 0),(some (77 + 1),.load 34 (.tmp 77)),(some (77 + 2),.move (.tmp 9)),(some (77 + 3),.binOp .sub 3 (.tmp (77 + 2)) (.const (.int .i64 1)) 3),(some (77 + 4),.slice 34 (.tmp (77 + 1)) none (some (.tmp (77 + 3))) none),(some (77 + 5),.fieldAddr 36 (.tmp 7) 0),(none,.store 34 (.tmp (77 + 5)) (.tmp (77 + 4)))]:=⟨regId (piece stC [1,1,1,1,1,1,1,1,1,0,1,0,0,1,0,0]),regOps (piece stC [1,1,1,1,1,1,1,1,1,0,1,0,0,1,0,0]),by kernel_rfl,by kernel_rfl,by kernel_rfl⟩
theorem st_17:RegIs (piece stC [1,1,1,1,1,1,1,1,1,1,0]) [(some 83,.load 36 (.tmp 7)),(none,.store 36 (.tmp 6) (.tmp 83))]:=⟨regId (piece stC [1,1,1,1,1,1,1,1,1,1,0]),regOps (piece stC [1,1,1,1,1,1,1,1,1,1,0]),by kernel_rfl,by kernel_rfl,by kernel_rfl⟩
theorem args3 {w:World} {Z:Nat→Prop} {T i a b d e g:U} {svs:List SV} {vs:List Value} (hs:unflats PR [36,3,24] [[T],[i],[a,b,d,e,g]]=some svs) (h:RepSVs w Z none_ svs vs) :
  ∃ v vs5,vs=[.agg #[v],.int .i64 i.int,.agg vs5]∧RepC w Z TRC v T∧(IntKind.i64.min≤i.int∧i.int≤IntKind.i64.max)∧RepL w Z EC vs5.toList [a,b,d,e,g]:=by
 have e:unflats PR [36,3,24] [[T],[i],[a,b,d,e,g]]=some [.agg [.val TRC T],vi i,.agg (vals EC [a,b,d,e,g])]:=by kernel_rfl
 rw [e] at hs
 cases hs
 obtain ⟨x1,t1,rfl,⟨a1,rfl,v,t,h1,hv,ht⟩,x2,t2,rfl,hi,x3,t3,rfl,⟨a3,rfl,h3⟩,h4⟩:=h
 have ht:t=[]:=ht
 subst ht
 have h4:t3=[]:=h4
 subst h4
 have ha1:a1 = #[v]:=by apply Array.ext';simpa using h1
 subst ha1
 have hi:x2 = .int .i64 i.int∧_:=hi
 obtain ⟨rfl,hi2⟩:=hi
 exact ⟨v,a3,rfl,hv,hi2,RepSVs.repL h3⟩
theorem tset_ok:SpecFP PR 64 setP setS:=fun fn us hfn hP=>by
 have hf:PR.funcs[(64:Nat)]? = some Try.f64:=by kernel_rfl
 rw [hf] at hfn;cases hfn
 have hb:Try.f64.body=some (bodyOf Try.f64):=by kernel_rfl
 have hnt:Try.f64.ntmps=84:=by kernel_rfl
 have hpar:Try.f64.params.toList=[36,3,24]:=by kernel_rfl
 refine ⟨by rw [hb];rfl,by kernel_rfl,?_⟩
 intro w0 Z vs hZ hsh ⟨svs,hsvs,hrep⟩
 rw [hpar] at hsh hsvs
 obtain ⟨u1,u2,u3,rfl,l1,l2,l3⟩:=shape3 (m:=true) (cs:=[TRC]) (m2:=false) (cs2:=[.int .i64]) (m3:=true) (cs3:=EC) (by kernel_rfl) (by kernel_rfl) (by kernel_rfl) hsh
 obtain ⟨T,rfl⟩:=len1 l1
 obtain ⟨i,rfl⟩:=len1 l2
 obtain ⟨a,b,d,e,g,rfl⟩:=len5 l3
 obtain ⟨v,vs5,rfl,hv,hi,h5⟩:=args3 hsvs hrep
 have hP:tabP T.list:=hP
 clear hsvs hrep hsh l1 l2 l3
 refine calls_of_wp hf hb ?_
 rw [st_code,hnt]
 generalize ha0:({ tmps:=[Value.agg #[v],.int .i64 i.int,.agg vs5].toArray ++ Array.replicate (84 - ([Value.agg #[v],.int .i64 i.int,.agg vs5].toArray:Array Value).size) undef,defers:=[] }:Act)=a0
 have a0s:a0.tmps.size=84:=by rw [← ha0];simp
 have a00:a0.eval (.tmp 0) = .agg #[v]:=by rw [← ha0];simp [Act.eval,Array.getD_eq_getD_getElem?]
 have a01:a0.eval (.tmp 1) = .int .i64 i.int:=by rw [← ha0];simp [Act.eval,Array.getD_eq_getD_getElem?]
 have a02:a0.eval (.tmp 2) = .agg vs5:=by rw [← ha0];simp [Act.eval,Array.getD_eq_getD_getElem?]
 have a0d:a0.defers=[]:=by rw [← ha0]
 clear ha0
 obtain ⟨Qf,hQf⟩:∃ Qf:Exit→Act→World→Prop,Qf=bodyPost PR Try.f64 (Den.Ends PR Try.f64 (setS [[T],[i],[a,b,d,e,g]]) w0 Z):=⟨_,rfl⟩
 show Code.wp PR _ (bodyPost PR Try.f64 (Den.Ends PR Try.f64 (setS [[T],[i],[a,b,d,e,g]]) w0 Z)) a0 w0
 rw [← hQf]
 have hres:Try.f64.results = #[.cell 6 36]:=by kernel_rfl
 have hrt:Try.f64.resultTypes.toList=[36]:=by kernel_rfl
 have hSX:setS [[T],[i],[a,b,d,e,g]]=[[.l (setX T.list i.int a b d e g)]]:=rfl
 rw [hSX] at hQf
 clear hSX
 refine wp_seq (wp_mono (st_r0 (n:=84) st_0 (by decide) a0s a0d a00 a01 a02 hv hZ h5) ?_)
 rintro ex a1 w3 ⟨rfl,a1s,a1d,e1,e3,e5,e6,S⟩
 have hcf:PR.funcs[(67:Nat)]? = some Try.f67:=by kernel_rfl
 refine wp_seq (wp_mono (st_r1 (n:=84) (d:=10) hcf (by kernel_rfl) (by kernel_rfl) copied_deep st_1 (by decide) a1s a1d e1 e3 e5 e6 S hP.1 hP.2) ?_)
 rintro ex a2 w4 ⟨rfl,B7,vo,rows,H⟩
 clear a0s a00 a01 a02 a0d a1s a1d e1 e3 e5 e6 h5 hv
 generalize hr:i.int=ii at hi H hQf
 have hnil:∀ (w:World) (a:Act) (p:Nat × SV),p ∈ ([]:List (Nat × SV))→RepSV w (fun _=>False) (fun _=>.pointer none) p.2 (a.tmps.getD p.1 undef):=fun _ _ p hp=>by cases hp
 refine wp_seq (wp_seq (wp_mono (st_read (C:=KA) (ex:=[]) (k:=fun σ=>get σ.env 23=vb (.b (decide (ii < 0) || (decide (ii ≥ 4096) || !fitsFrom T.list a.int b.int d.int e.int g.int 7 0)))) rfl KA_ok (fun _ _ h=>h) (by kernel_rfl) (by kernel_rfl) (by kernel_rfl) H S hi (hnil _ _) (fun _ h=>h.elim) ?_) ?_))
 ·rw [st2_tree]
  cases h1:decide (ii < 0) with
  | true=>rw [cond_true];rfl
  | false=>
   rw [cond_false]
   cases h2:decide (ii ≥ 4096) with
   | true=>rw [cond_true];rfl
   | false=>rw [cond_false];rfl
 rintro ex a3 w5 ⟨rfl,H,F5,kp,σ,Z',G',hk,S'⟩
 have r23:=S'.slot 23
 rw [hk] at r23
 have r23:a3.eval (.tmp 23) = .bool (decide (ii < 0) || (decide (ii ≥ 4096) || !fitsFrom T.list a.int b.int d.int e.int g.int 7 0)):=r23
 refine wp_cond_split r23 (fun ht=>?_) (fun hfl=>wp_skip ?_)
 ·refine wp_mono (st_end (d:=24) st_3 (by decide) hres hrt S H) ?_
  rintro ex a' w' ⟨rfl,h⟩
  rw [show setX T.list ii a b d e g=T.list by unfold setX;rw [ht,cond_true]] at hQf
  show Qf .ret a' w'
  rw [hQf];exact h
 simp only [Bool.or_eq_false_iff,decide_eq_false_iff_not,Bool.not_eq_false'] at hfl
 obtain ⟨i0,i1,hfit⟩:=hfl
 have hrows:=fits_rows hfit
 obtain ⟨m,rfl⟩:∃ m:Nat,ii=(m:Int):=⟨ii.toNat,by omega⟩
 have hm:m < 4096:=by omega
 rw [show setX T.list (m:Int) a b d e g=setR T.list m [a,b,d,e,g] by
  unfold setX
  rw [show (decide ((m:Int) < 0) || (decide ((m:Int) ≥ 4096) || !fitsFrom T.list a.int b.int d.int e.int g.int 7 0))=false by
   rw [hfit];simp;omega,cond_false];rfl] at hQf
 clear hfit i0 i1 hk S' kp r23 F5
 have hm8:(Int.tdiv (m:Int) 8)=((m / 8:Nat):Int):=by rw [Int.tdiv_eq_ediv_of_nonneg (by omega)];omega
 have hw8:IntKind.i64.wrap (Int.tdiv (m:Int) 8)=((m / 8:Nat):Int):=by rw [hm8,i64_in (by omega) (by omega)]
 obtain ⟨Qp,hQp⟩:∃ Qp:Exit→Act→World→Prop,Qp=fun ex a w=>ex = .normal∧∃ vo rows,StJ 84 w0 w3 B7 (m:Int) vo rows (padR T.list (m / 8 + 1 - T.list.length)) a w:=⟨_,rfl⟩
 refine wp_seq (wp_mono (Q:=Qp) ?_ ?_)
 ·refine wp_block (wp_loop_rounds (m / 8 + 1 - T.list.length + 1) ?_)
  have key:∀ (f k:Nat) (a:Act) (w:World) (vo:Value) (rows:List Value),k + f=m / 8 + 1 - T.list.length→StJ 84 w0 w3 B7 (m:Int) vo rows (padR T.list k) a w→
    Code.rounds PR (.seq (.seq (.region (regId (piece stC [1,1,1,0,0,0,0,0])) st4 false) (.cond (.tmp 30) .skip (.exit 0))) (.block 1 (piece stC [1,1,1,0,0,0,1,0])))
     (Exit.inBlock 0 Qp) (f + 1) a w:=by
   intro f
   induction f with
   | zero=>
    intro k a4 w4 vo rows hk H
    have hlen:(padR T.list k).length=T.list.length + k:=by unfold padR;simp
    rw [rounds_succ]
    refine wp_seq (wp_seq (wp_mono (st_read (C:=KW) (ex:=[]) (k:=fun σ=>get σ.env 30=vb (.b (decide (((padR T.list k).length:Int)≤((m / 8:Nat):Int))))) rfl KW_ok (fun _ _ h=>h) (by kernel_rfl) (by kernel_rfl) (by kernel_rfl) H S hi (hnil _ _) (fun _ h=>h.elim) ?_) ?_))
    ·rw [st4_tree,hw8];rfl
    rintro ex a5 w5 ⟨rfl,H5,_,_,σ,Z',G',hk',S'⟩
    have r30:=S'.slot 30
    rw [hk'] at r30
    have r30:a5.eval (.tmp 30) = .bool (decide (((padR T.list k).length:Int)≤((m / 8:Nat):Int))):=r30
    refine wp_cond_split r30 (fun ht=>?_) (fun _=>wp_exit ?_)
    ·have ht:=of_decide_eq_true ht
     exfalso
     rw [hlen] at ht
     omega
    ·show Exit.inBlock 0 Qp (.exit 0) a5 w5
     refine inBlock_exit ?_
     rw [hQp]
     refine ⟨rfl,vo,rows,?_⟩
     rw [show m / 8 + 1 - T.list.length=k by omega]
     exact H5
   | succ f ih=>
    intro k a4 w4 vo rows hk H
    have hlen:(padR T.list k).length=T.list.length + k:=by unfold padR;simp
    rw [rounds_succ]
    refine wp_seq (wp_seq (wp_mono (st_read (C:=KW) (ex:=[]) (k:=fun σ=>get σ.env 30=vb (.b (decide (((padR T.list k).length:Int)≤((m / 8:Nat):Int))))) rfl KW_ok (fun _ _ h=>h) (by kernel_rfl) (by kernel_rfl) (by kernel_rfl) H S hi (hnil _ _) (fun _ h=>h.elim) ?_) ?_))
    ·rw [st4_tree,hw8];rfl
    rintro ex a5 w5 ⟨rfl,H5,_,_,σ,Z',G',hk',S'⟩
    have r30:=S'.slot 30
    rw [hk'] at r30
    have r30:a5.eval (.tmp 30) = .bool (decide (((padR T.list k).length:Int)≤((m / 8:Nat):Int))):=r30
    refine wp_cond_split r30 (fun _=>wp_skip ?_) (fun hf=>?_)
    ·refine wp_block (wp_mono (st_push (d:=31) st_5 (by decide) H5 (by rw [hlen];omega)) ?_)
     rintro ex a6 w6 ⟨rfl,vo',rows',H6⟩
     have e:padR T.list (k + 1)=padR T.list k ++ [.l []]:=by unfold padR;rw [List.replicate_succ',List.append_assoc]
     exact ih (k + 1) a6 w6 vo' rows' (by omega) (by rw [e];exact H6)
    ·have hf:=of_decide_eq_false hf
     exfalso
     rw [hlen] at hf
     omega
  exact key _ 0 a3 w5 vo rows (by omega) (by rw [show padR T.list 0=T.list by unfold padR;simp];exact H)
 rw [hQp]
 rintro ex a4 w6 ⟨rfl,vo,rows,H⟩
 clear hQp
 generalize hL:padR T.list (m / 8 + 1 - T.list.length)=L at H
 have hLl:m / 8 < L.length:=by rw [← hL];unfold padR;simp;omega
 have hLr:(U.at L (m / 8)).list.length=0∨(U.at L (m / 8)).list.length=8:=by
  rw [← hL,at_pad (by omega)]
  split
  ·rename_i h;exact hrows _ h
  ·exact .inl rfl
 have hLs:L.length < 1073741824:=by
  rw [← hL];unfold padR
  have:=hP.1
  simp;omega
 refine wp_seq (wp_mono (st_load (d:=36) hm st_6 (by decide) H hLl) ?_)
 rintro ex a5 w7 ⟨rfl,H,r,hr,h8⟩
 have D8:=H.deep.row _ r hr
 have hk8:m / 8 < rows.length:=by rw [H.deep.len];exact hLl
 have hfr8:∀ b,r.ownBlock=some b→w0.heap.size + 3≤b∧b≠B7∧vo.ownBlock≠some b∧∀ (j:Nat) (r':Value),j≠m / 8→rows[j]? = some r'→r'.ownBlock≠some b:=fun b hb=>
  ⟨(H.deep.rowF _ r b hr hb).1.1,(H.deep.rowF _ r b hr hb).1.2,(H.deep.rowF _ r b hr hb).2,fun j r' hj hr' hb'=>hj (H.deep.apart j (m / 8) r' r b hr' hr hb' hb)⟩
 generalize hU:U.at L (m / 8)=R at D8 hLr
 refine wp_seq (wp_mono (Q:=fun ex a w=>ex = .normal∧StJ 84 w0 w3 B7 (m:Int) vo rows L a w∧∃ r,a.eval (.tmp 8)=r∧RowE w r (.l (rowOf R))∧(∀ b,r.ownBlock=some b→w0.heap.size + 3≤b∧b≠B7∧vo.ownBlock≠some b∧∀ (j:Nat) (r':Value),j≠m / 8→rows[j]? = some r'→r'.ownBlock≠some b)∧(rows[m / 8]? = some r∨∀ b,r.ownBlock=some b→∀ (j:Nat) (r':Value),rows[j]? = some r'→r'.ownBlock≠some b)) ?_ ?_)
 ·refine wp_seq (wp_mono (st_read (C:=KW) (ex:=[(8,vt EC R)]) (Z8:=fun b=>b < w7.heap.size) (k:=fun σ=>get σ.env 44=vb (.b ((R.list.length:Int) == 0))) rfl KW_ok (fun _ _ h=>h) (by kernel_rfl) (by kernel_rfl) (by kernel_rfl) H S hi (fun p hp=>?_) (fun _ h=>h) ?_) ?_)
  ·have hp:p=(8,vt EC R):=by simpa using hp
   subst hp
   show RepC w7 _ (.sl true EC) (a5.eval (.tmp 8)) R
   rw [h8]
   exact D8.rep fun b hb=>D8.lt hb
  ·rw [st7_tree];rfl
  rintro ex a6 w8 ⟨rfl,H6,F6,kp,σ,Z',G',hk,S'⟩
  have r44:=S'.slot 44
  rw [hk] at r44
  have r44:a6.eval (.tmp 44) = .bool ((R.list.length:Int) == 0):=r44
  refine wp_cond_split r44 (fun ht=>?_) (fun hfl=>wp_skip ?_)
  ·refine it_regionS KW_ok KW_pan (n:=84) (G:=fun _=>.pointer none) (Z:=fun b=>b < w8.heap.size) (env:=envS (m:Int) T [a,b,d,e,g] L []) (k:=fun σ=>get σ.env 8 = .own 5886∧getO σ.objs 5886=some (.arr 24 zeroRow)) (by kernel_rfl) (by kernel_rfl) H6.size (H6.slots S hi (hnil _ _) (fun _ h=>h.elim)) (fun _ h=>h) (fun _=>rfl) ?_ ?_
   ·rw [st8_tree];exact ⟨rfl,rfl⟩
   rintro σ a7 w9 Z9 G9 ⟨k1,k2⟩ S9 kp9
   have F9:Fut (fun _=>False) w8 w9:=S9.fut
   have H7:=H6.next S9.size S9.calm (freeOf_ev (l:=[1,3,5,6,7]) (by kernel_rfl) kp9 rfl) (freeOf_ev (l:=[1,3,5,6,7]) (by kernel_rfl) kp9 rfl) (freeOf_ev (l:=[1,3,5,6,7]) (by kernel_rfl) kp9 rfl) (freeOf_ev (l:=[1,3,5,6,7]) (by kernel_rfl) kp9 rfl) (freeOf_ev (l:=[1,3,5,6,7]) (by kernel_rfl) kp9 rfl) F9
   obtain ⟨m2,cs2,vs,g1,g2,g3⟩:=S9.obj 5886 _ k2
   have g1:Cs PR 24=some (m2,cs2):=g1
   rw [cE] at g1
   cases g1
   have r8:=S9.slot 8
   rw [k1] at r8
   have r8:a7.eval (.tmp 8)=G9 5886:=r8
   have hge:∀ b,(G9 5886).ownBlock=some b→w8.heap.size≤b:=fun b hb=>by
    rcases (S9.free 5886 _ b k2 (by rw [blk_own g2];exact hb)).2 with h | h | h
    ·exact h.elim
    ·exact h.elim
    ·exact h
   have hrw:∀ b,(G9 5886).ownBlock=some b→∀ (j:Nat) (r':Value),rows[j]? = some r'→r'.ownBlock≠some b:=fun b hb j r' hr' hb'=>by
    have:=(H6.deep.row j r' hr').lt hb'
    have:=hge b hb
    omega
   refine ⟨rfl,H7,_,r8,⟨vs,?_,?_⟩,fun b hb=>?_,.inr hrw⟩
   ·rw [show rowOf R=zeroRow by unfold rowOf;rw [ht,cond_true]];exact g2
   ·rw [show rowOf R=zeroRow by unfold rowOf;rw [ht,cond_true]];exact RepElems.scal rfl g3
   ·have hg:=hge b hb
    have hf:=H6.fut.size
    have hlo:=H6.lo
    have hlt:=H6.b7lt
    exact ⟨by omega,by omega,fun e=>by have:=(H6.deep.own.lt b e).2;omega,fun j r' _=>hrw b hb j r'⟩
  ·have hro:rowOf R=R.list:=by unfold rowOf;rw [hfl,cond_false]
   refine ⟨rfl,H6,r,(kp 8 (fun o ho e=>?_)).trans h8,?_,hfr8,.inl hr⟩
   ·have:freeOf st7 [8]=true:=by kernel_rfl
    have:=List.all_eq_true.1 this o ho
    rw [e] at this
    cases this
   ·rw [hro]
    exact D8.same fun b hb=>F6.block b (D8.lt hb) id
 rintro ex a6 w8 ⟨rfl,H,r8,h8,D8,hfr8,hcase⟩
 have hRl:(rowOf R).length=8:=rowOf_len hLr
 have hmod:(Int.tmod (m:Int) 8)=((m % 8:Nat):Int):=by
  rw [Int.tmod_eq_emod_of_nonneg (by omega)];omega
 obtain ⟨G2,hG2⟩:∃ G2:Nat→Value,G2=fun id=>if id=2 then r8 else .pointer none:=⟨_,rfl⟩
 have hg2:G2 2=r8:=by rw [hG2];rfl
 have hfl2:∀ id,(G2 id).oneCell' = true:=fun id=>by
  rw [hG2]
  by_cases h:id=2
  ·simp only [h,if_true];exact D8.one
  ·simp only [h,if_false];rfl
 refine wp_seq (it_regionO KW_ok KW_pan (n:=84) (id:=2) (ty:=24) (us:=rowOf R) (G:=G2) (Z:=fun b=>b < w8.heap.size∧r8.ownBlock≠some b) (env:=[(8,.own 2),(1,vi (.i (m:Int))),(3,.unk),(5,.rptr EC [a,b,d,e,g]),(7,.unk)]) (k:=fun σ=>get σ.env 8 = .own 2∧getO σ.objs 2=some (.arr 24 (pokeR (rowOf R) (m % 8) [a,b,d,e,g]))) (by kernel_rfl) (by kernel_rfl) H.size (fun t=>?_) (fun _ h=>h.1) hfl2 ?_ (fun b hb h=>?_) ?_ ?_)
 ·rw [get_cons]
  split
  ·rename_i h;subst h;show a6.eval (.tmp 8)=G2 2;rw [hg2];exact h8
  rw [get_cons]
  split
  ·rename_i h;subst h;exact ⟨H.e1,hi⟩
  rw [get_cons]
  split
  ·trivial
  rw [get_cons]
  split
  ·rename_i h;subst h
   have hlo:=H.lo
   have hlt:=H.b7lt
   refine ⟨_,0,H.e5,⟨by omega,fun e=>?_⟩,RepCs.mono ⟨fun b hb=>?_,fun b hb=>H.old b (by have:=S.zlt b hb;omega)⟩ EC _ _ _ (H.old _ (by omega)) S.box5⟩
   ·have:=(hfr8 _ e).1;omega
   ·have:=S.zlt b hb
    refine ⟨by omega,fun e=>?_⟩
    have:=(hfr8 _ e).1;omega
  rw [get_cons]
  split<;>trivial
 ·obtain ⟨vs,g1,g2⟩:=D8
  exact ⟨true,EC,vs,cE,by rw [hg2];exact g1,RepElems.scal rfl g2⟩
 ·obtain ⟨vs,g1,_⟩:=D8
  rw [hg2,blk_own g1] at hb
  exact h.2 hb
 ·rw [st9_tree,hmod]
  have hc1:decide ((0:Int)≤((m % 8:Nat):Int)∧((m % 8:Nat):Int) < ((rowOf R).length:Int))=true:=decide_eq_true ⟨by omega,by rw [hRl];omega⟩
  have hc2:Nat.blt (((m % 8:Nat):Int).toNat) (rowOf R).length=true:=by rw [hRl];simp [Nat.blt_eq];omega
  rw [hc1,cond_true,hc2,cond_true]
  exact ⟨rfl,rfl⟩
 rintro σ a7 w9 Z9 G9 ⟨k1,k2⟩ S9 kp9
 have F9:Fut (fun b=>r8.ownBlock=some b) w8 w9:=by
  have:=S9.fut
  obtain ⟨vs,g1,_⟩:=D8
  rw [hg2,blk_own g1] at this
  exact this
 have e8:a7.eval (.tmp 8)=r8:=(kp9 8 (fun o ho e=>by
  have:freeOf st9 [8]=true:=by kernel_rfl
  have:=List.all_eq_true.1 this o ho
  rw [e] at this
  cases this)).trans h8
 have hG9:G9 2=r8:=by
  have:=S9.slot 8
  rw [k1] at this
  have this:a7.eval (.tmp 8)=G9 2:=this
  rw [← this];exact e8
 have D9:RowE w9 r8 (.l (pokeR (rowOf R) (m % 8) [a,b,d,e,g])):=by
  obtain ⟨m2,cs2,vs,g1,g2,g3⟩:=S9.obj 2 _ k2
  have g1:Cs PR 24=some (m2,cs2):=g1
  rw [cE] at g1
  cases g1
  rw [hG9] at g2
  exact ⟨vs,g2,RepElems.scal rfl g3⟩
 generalize hR2:pokeR (rowOf R) (m % 8) [a,b,d,e,g]=R2 at D9
 have hlo:=H.lo
 have hlt:=H.b7lt
 have ob9:∀ b,b < w8.heap.size→r8.ownBlock≠some b→w9.heap[b]? = w8.heap[b]?:=fun b hb hn=>F9.block b hb hn
 obtain ⟨L9,DL9,hL9s,hL9l⟩:∃ L9,DeepE (fun b=>w0.heap.size + 3≤b∧b≠B7) w9 vo rows L9∧(∀ u,L9.set (m / 8) u=L.set (m / 8) u)∧L9.length=L.length:=by
  rcases hcase with e | hne
  ·exact ⟨_,H.deep.poke e D9 ob9,fun u=>List.set_set ..,by simp⟩
  ·refine ⟨L,H.deep.same2 fun b hb h=>ob9 b hb fun e=>?_,fun _=>rfl,rfl⟩
   rcases h with h | ⟨j,r',hr',hb'⟩
   ·exact (hfr8 b e).2.2.1 h
   ·exact hne b e j r' hr' hb'
 have hlen8:w0.heap.size + 3≤w8.heap.size:=by omega
 have H9:StJ 84 w0 w3 B7 (m:Int) vo rows L9 a7 w9:=
  {size:=S9.size,calm:=S9.calm.trans H.calm,e1:=(freeOf_ev (l:=[1,3,5,6,7]) (by kernel_rfl) kp9 rfl).trans H.e1,e3:=(freeOf_ev (l:=[1,3,5,6,7]) (by kernel_rfl) kp9 rfl).trans H.e3,e5:=(freeOf_ev (l:=[1,3,5,6,7]) (by kernel_rfl) kp9 rfl).trans H.e5
   e6:=(freeOf_ev (l:=[1,3,5,6,7]) (by kernel_rfl) kp9 rfl).trans H.e6,e7:=(freeOf_ev (l:=[1,3,5,6,7]) (by kernel_rfl) kp9 rfl).trans H.e7
   old:=fun b hb=>(ob9 b (by omega) fun e=>by have:=(hfr8 b e).1;omega).trans (H.old b hb)
   fut:=H.fut.trans F9 (fun _ h=>h) (fun b hb e=>by have:=(hfr8 b e).1;omega)
   b7:=(ob9 B7 hlt fun e=>(hfr8 B7 e).2.1 rfl).trans H.b7,deep:=DL9,lo:=hlo }
 clear DL9 S9 kp9 k1 k2 hG9 F9 ob9 hcase H D8 hlt
 refine wp_seq (wp_mono (Q:=fun ex a w=>ex = .normal∧StJ 84 w0 w3 B7 (m:Int) vo rows L9 a w∧∃ r,a.eval (.tmp 8)=r∧RowE w r (.l (keepR R2))∧(∀ b,r.ownBlock=some b→w0.heap.size + 3≤b∧b≠B7∧vo.ownBlock≠some b∧∀ (j:Nat) (r':Value),j≠m / 8→rows[j]? = some r'→r'.ownBlock≠some b)) ?_ ?_)
 ·refine wp_seq (wp_mono (st_read (C:=KF) (ex:=[(8,vt EC (.l R2))]) (Z8:=fun b=>b < w9.heap.size) (k:=fun σ=>get σ.env 53=vb (.b (!anyNN R2))) rfl KF_ok (fun _ _ h=>h) (by kernel_rfl) (by kernel_rfl) (by kernel_rfl) H9 S hi (fun p hp=>?_) (fun _ h=>h) ?_) ?_)
  ·have hp:p=(8,vt EC (.l R2)):=by simpa using hp
   subst hp
   show RepC w9 _ (.sl true EC) (a7.eval (.tmp 8)) (.l R2)
   rw [e8]
   exact D9.rep fun b hb=>D9.lt hb
  ·rw [st10_tree];exact ⟨⟨rfl,rfl⟩,rfl⟩
  rintro ex a8 w10 ⟨rfl,H10,F10,kp,σ,Z',G',hk,S'⟩
  have r53:=S'.slot 53
  rw [hk] at r53
  have r53:a8.eval (.tmp 53) = .bool (!anyNN R2):=r53
  refine wp_cond_split r53 (fun ht=>?_) (fun hfl=>wp_skip ?_)
  ·refine it_regionS KW_ok KW_pan (n:=84) (G:=fun _=>.pointer none) (Z:=fun b=>b < w10.heap.size) (env:=envS (m:Int) T [a,b,d,e,g] L9 []) (k:=fun σ=>get σ.env 8 = .own 1148∧getO σ.objs 1148=some (.arr 24 [])) (by kernel_rfl) (by kernel_rfl) H10.size (H10.slots S hi (hnil _ _) (fun _ h=>h.elim)) (fun _ h=>h) (fun _=>rfl) ?_ ?_
   ·rw [st11_tree];exact ⟨rfl,rfl⟩
   rintro σ a9 w11 Z9 G9 ⟨k1,k2⟩ S9 kp9
   have F9:Fut (fun _=>False) w10 w11:=S9.fut
   have H11:=H10.next S9.size S9.calm (freeOf_ev (l:=[1,3,5,6,7]) (by kernel_rfl) kp9 rfl) (freeOf_ev (l:=[1,3,5,6,7]) (by kernel_rfl) kp9 rfl) (freeOf_ev (l:=[1,3,5,6,7]) (by kernel_rfl) kp9 rfl) (freeOf_ev (l:=[1,3,5,6,7]) (by kernel_rfl) kp9 rfl) (freeOf_ev (l:=[1,3,5,6,7]) (by kernel_rfl) kp9 rfl) F9
   obtain ⟨m2,cs2,vs,g1,g2,g3⟩:=S9.obj 1148 _ k2
   have g1:Cs PR 24=some (m2,cs2):=g1
   rw [cE] at g1
   cases g1
   have r8':=S9.slot 8
   rw [k1] at r8'
   have r8':a9.eval (.tmp 8)=G9 1148:=r8'
   have hke:keepR R2=[]:=by unfold keepR;rw [ht,cond_true]
   refine ⟨rfl,H11,_,r8',⟨vs,by rw [hke];exact g2,by rw [hke];exact RepElems.scal rfl g3⟩,fun b hb=>?_⟩
   have hge:w10.heap.size≤b:=by
    rcases (S9.free 1148 _ b k2 (by rw [blk_own g2];exact hb)).2 with h | h | h
    ·exact h.elim
    ·exact h.elim
    ·exact h
   have hlt:=H10.b7lt
   have hlo:=H10.lo
   exact ⟨by omega,by omega,fun e=>by have:=(H10.deep.own.lt b e).2;omega,fun j r' _ hr' hb'=>by have:=(H10.deep.row j r' hr').lt hb';omega⟩
  ·have hke:keepR R2=R2:=by unfold keepR;rw [hfl,cond_false]
   refine ⟨rfl,H10,r8,(kp 8 (fun o ho e=>?_)).trans e8,?_,hfr8⟩
   ·have:freeOf st10 [8]=true:=by kernel_rfl
    have:=List.all_eq_true.1 this o ho
    rw [e] at this
    cases this
   ·rw [hke]
    exact D9.same fun b hb=>F10.block b (D9.lt hb) id
 clear D9 hfr8 e8 H9
 rintro ex a8 w10 ⟨rfl,H,r9,h9,D9,hfr9⟩
 refine wp_seq (wp_mono (st_lay (d:=54) hm st_12 (by decide) H (by rw [hL9l];exact hLl) h9 D9 hfr9) ?_)
 rintro ex a9 w11 ⟨rfl,vo,rows,H⟩
 rw [hL9s] at H
 generalize hL2:L.set (m / 8) (.l (keepR R2))=L2 at H
 have hL2l:L2.length < 1073741824:=by rw [← hL2,List.length_set];exact hLs
 refine wp_seq (wp_seq (wp_mono (st_read (C:=KW) (ex:=[]) (k:=fun σ=>get σ.env 9=vi (.i (L2.length:Int))) rfl KW_ok (fun _ _ h=>h) (by kernel_rfl) (by kernel_rfl) (by kernel_rfl) H S hi (hnil _ _) (fun _ h=>h.elim) ?_) ?_))
 ·rw [st13_tree];rfl
 rintro ex a10 w12 ⟨rfl,H,_,_,σ,Z',G',hk,S'⟩
 have r9:=S'.slot 9
 rw [hk] at r9
 have r9:a10.eval (.tmp 9) = .int .i64 (L2.length:Int):=r9.1
 obtain ⟨Qp,hQp⟩:∃ Qp:Exit→Act→World→Prop,Qp=fun ex a w=>ex = .normal∧∃ vo rows,StJ 84 w0 w3 B7 (m:Int) vo rows (trimN L2.length L2) a w:=⟨_,rfl⟩
 refine wp_mono (Q:=Qp) ?_ ?_
 ·refine wp_block (wp_loop_rounds (L2.length + 1) ?_)
  have key:∀ (n:Nat) (xs:List U) (a:Act) (w:World) (vo:Value) (rows:List Value),xs.length=n→n < 1073741824→trimN n xs=trimN L2.length L2→StJ 84 w0 w3 B7 (m:Int) vo rows xs a w→a.eval (.tmp 9) = .int .i64 (n:Int)→
    Code.rounds PR (.seq (.seq (.region (regId (piece stC [1,1,1,1,1,1,1,1,1,0,1,0,0,0,0])) st14 false) (.cond (.tmp 74) .skip (.exit 2))) (.seq (.block 3 (piece stC [1,1,1,1,1,1,1,1,1,0,1,0,0,1,0,0])) (.region (regId (piece stC [1,1,1,1,1,1,1,1,1,0,1,0,0,1,1])) st15 false)))
     (Exit.inBlock 2 Qp) (n + 1) a w:=by
   intro n
   induction n with
   | zero=>
    intro xs a4 w4 vo rows hx _ hxs H h9
    rw [rounds_succ]
    refine wp_seq (wp_seq (wp_mono (st_read (C:=KW) (ex:=[(9,vi (.i 0))]) (Z8:=fun _=>False) (k:=fun σ=>get σ.env 74=vb (.b false)) rfl KW_ok (fun _ _ h=>h) (by kernel_rfl) (by kernel_rfl) (by kernel_rfl) H S hi (fun p hp=>?_) (fun _ h=>h.elim) ?_) ?_))
    ·have hp:p=(9,vi (.i 0)):=by simpa using hp
     subst hp
     exact ⟨h9,by decide,by decide⟩
    ·rw [st14_tree];rfl
    rintro ex a5 w5 ⟨rfl,H5,_,_,σ,Z',G',hk',S'⟩
    have r74:=S'.slot 74
    rw [hk'] at r74
    have r74:a5.eval (.tmp 74) = .bool false:=r74
    refine wp_cond_split r74 (fun ht=>by cases ht) (fun _=>wp_exit ?_)
    show Exit.inBlock 2 Qp (.exit 2) a5 w5
    refine inBlock_exit ?_
    rw [hQp]
    exact ⟨rfl,vo,rows,by rw [← hxs];exact H5⟩
   | succ n ih=>
    intro xs a4 w4 vo rows hx hn hxs H h9
    rw [rounds_succ]
    refine wp_seq (wp_seq (wp_mono (st_read (C:=KW) (ex:=[(9,vi (.i ((n + 1:Nat):Int)))]) (Z8:=fun _=>False) (k:=fun σ=>get σ.env 74=vb (.b (((U.at xs n).list.length:Int) == 0))) rfl KW_ok (fun _ _ h=>h) (by kernel_rfl) (by kernel_rfl) (by kernel_rfl) H S hi (fun p hp=>?_) (fun _ h=>h.elim) ?_) ?_))
    ·have hp:p=(9,vi (.i ((n + 1:Nat):Int))):=by simpa using hp
     subst hp
     exact ⟨h9,by show -(2 ^ 63:Int)≤((n + 1:Nat):Int);omega,by show ((n + 1:Nat):Int)≤2 ^ 63 - 1;omega⟩
    ·rw [st14_tree]
     have hw:IntKind.i64.wrap ((U.i ((n + 1:Nat):Int)).int - 1)=(n:Int):=by
      rw [show (U.i ((n + 1:Nat):Int)).int - 1=(n:Int) by simp,i64_in (by omega) (by omega)]
     rw [hw]
     have c1:decide ((U.i ((n + 1:Nat):Int)).int > 0)=true:=decide_eq_true (by show ((n + 1:Nat):Int) > 0;omega)
     have c2:decide ((0:Int)≤(n:Int)∧(n:Int) < ((nth (.i 0) (List.drop 0 [U.l xs]) 0).list.length:Int))=true:=decide_eq_true ⟨by omega,by show (n:Int) < (xs.length:Int);omega⟩
     rw [c1,cond_true,c2,cond_true]
     rfl
    rintro ex a5 w5 ⟨rfl,H5,F5,kp5,σ,Z',G',hk',S'⟩
    have r74:=S'.slot 74
    rw [hk'] at r74
    have r74:a5.eval (.tmp 74) = .bool (((U.at xs n).list.length:Int) == 0):=r74
    have h95:a5.eval (.tmp 9) = .int .i64 ((n + 1:Nat):Int):=(freeOf_ev (l:=[9]) (by kernel_rfl) kp5 rfl).trans h9
    refine wp_cond_split r74 (fun ht=>wp_skip ?_) (fun hf=>wp_exit ?_)
    ·refine wp_seq (wp_block (wp_mono (st_trim (d:=77) (show n < 1073741824 by omega) st_16 (by decide) H5 h95 (by omega)) ?_))
     rintro ex a6 w6 ⟨rfl,vo',rows',H6,h96⟩
     refine wp_mono (st_read (C:=KW) (ex:=[(9,vi (.i ((n + 1:Nat):Int)))]) (Z8:=fun _=>False) (k:=fun σ=>get σ.env 9=vi (.i (n:Int))) rfl KW_ok (fun _ _ h=>h) (by kernel_rfl) (by kernel_rfl) (by kernel_rfl) H6 S hi (fun p hp=>?_) (fun _ h=>h.elim) ?_) ?_
     ·have hp:p=(9,vi (.i ((n + 1:Nat):Int))):=by simpa using hp
      subst hp
      exact ⟨h96,by show -(2 ^ 63:Int)≤((n + 1:Nat):Int);omega,by show ((n + 1:Nat):Int)≤2 ^ 63 - 1;omega⟩
     ·rw [st15_tree]
      have hw:IntKind.i64.wrap ((U.i ((n + 1:Nat):Int)).int - 1)=(n:Int):=by
       rw [show (U.i ((n + 1:Nat):Int)).int - 1=(n:Int) by simp,i64_in (by omega) (by omega)]
      rw [hw];rfl
     rintro ex a7 w7 ⟨rfl,H7,_,_,σ,Z',G',hk7,S7⟩
     have r9:=S7.slot 9
     rw [hk7] at r9
     refine ih (xs.take n) a7 w7 vo' rows' (by rw [List.length_take];omega) (by omega) ?_ H7 r9.1
     rw [← hxs]
     show _=bif ((U.at xs n).list.length:Int) == 0 then trimN n (xs.take n) else xs
     rw [ht,cond_true]
    ·show Exit.inBlock 2 Qp (.exit 2) a5 w5
     refine inBlock_exit ?_
     rw [hQp]
     refine ⟨rfl,vo,rows,?_⟩
     rw [← hxs]
     show StJ 84 w0 w3 B7 (m:Int) vo rows (bif ((U.at xs n).list.length:Int) == 0 then trimN n (xs.take n) else xs) a5 w5
     rw [hf,cond_false]
     exact H5
  exact key L2.length L2 a10 w12 vo rows rfl hL2l rfl H r9
 rw [hQp]
 rintro ex a11 w13 ⟨rfl,vo,rows,H⟩
 refine wp_mono (st_end (d:=83) st_17 (by decide) hres hrt S H) ?_
 rintro ex a' w' ⟨rfl,h⟩
 show Qf .ret a' w'
 rw [hQf]
 have hset:setR T.list m [a,b,d,e,g]=trimN L2.length L2:=by
  unfold setR
  simp only [hL,hU,hR2,hL2]
 rw [hset]
 exact h
end Go.Mat

namespace Go.Mat
open Go Go.Den Go.Proofs Go.RowKit
set_option maxRecDepth 100000
def someTo (R:List U):Nat→Bool
 | 0=>false
 | j + 1=>bif someTo R j then true else (U.at (U.at R j).list 0).int != 0
def keep6 (R:List U):List U:=bif !someTo R 8 then [] else R
def setZ (T:List U) (m:Nat) (e:List U):List U:=
 let L:=padR T (m / 8 + 1 - T.length)
 let L2:=L.set (m / 8) (.l (keep6 (pokeR (rowOf (U.at L (m / 8))) (m % 8) e)))
 trimN L2.length L2
def setY (T:List U) (i:Int) (a b d e g:U):List U:=bif decide (i < 0) || (decide (i ≥ 4096) || !rfitsFrom T a.int b.int d.int e.int g.int 7 0) then T else
 bif (a.int == 0) && decide (((i.toNat / 8:Nat):Int) ≥ (T.length:Int)) then T else setZ T i.toNat [a,b,d,e,g]
end Go.Mat

namespace Go.Mat
open Go Go.Den Go.Proofs
def pieceS:Code→List Nat→Code
 | c,[]=>c
 | .seq a b,n :: r=>match n with | 0=>pieceS a r | _=>pieceS b r
 | .cond _ a b,n :: r=>match n with | 0=>pieceS a r | _=>pieceS b r
 | .block _ a,_ :: r=>pieceS a r
 | .loop a,_ :: r=>pieceS a r
 | .scope a,_ :: r=>pieceS a r
 | c,_=>c
abbrev MTC:List Ct:=[.int .i64,.int .i64,.str,TRC,.sl true SC,.sl true BC,.sl false [.int .i64]]
abbrev PPC:List Ct:=[.int .i64,.int .i64]
noncomputable def KE4:Ctx:=(mkC PR eqs0 (fnsConsP 61 eachP eachS fnsNil) trsNil noLoops noOut noOut).panics fun _ _=>False
noncomputable def KE8:Ctx:=(mkC PR eqs0 (fnsCons 10 bytesS (fnsCons 62 meetS fnsNil)) trsNil noLoops noOut noOut).panics fun _ _=>False
noncomputable def bdC:Code:=bodyOf Try.f39
noncomputable def bd4:Array Oper:=regOps (pieceS bdC [1,1,1,1,0,0])
noncomputable def bd5:Array Oper:=regOps (pieceS bdC [1,1,1,1,0,1,0,0,0])
noncomputable def bd6:Array Oper:=regOps (pieceS bdC [1,1,1,1,0,1,0,0,1,1,0,0,0])
noncomputable def bdS:Code:=pieceS bdC [1,1,1,1,0,1,0,0,1,1,0,0,1,0]
noncomputable def bd7:Array Oper:=regOps (pieceS bdS [0])
noncomputable def bd8:Array Oper:=regOps (pieceS bdS [1,0])
noncomputable def bd9:Array Oper:=regOps (pieceS bdS [1,1,0])
noncomputable def bd10:Array Oper:=regOps (pieceS bdS [1,1,1,1,0,0])
noncomputable def bd11:Array Oper:=regOps (pieceS bdS [1,1,1,1,0,1,0,0,0])
noncomputable def bd12:Array Oper:=regOps (pieceS bdS [1,1,1,1,0,1,0,0,1,1,0,0,0])
noncomputable def bd13:Array Oper:=regOps (pieceS bdS [1,1,1,1,0,1,0,0,1,1,0,0,1,0])
noncomputable def bd14:Array Oper:=regOps (pieceS bdS [1,1,1,1,0,1,0,0,1,1,0,0,1,1,0,0])
noncomputable def bd15:Array Oper:=regOps (pieceS bdS [1,1,1,1,0,1,0,0,1,1,1])
noncomputable def bd16:Array Oper:=regOps (pieceS bdS [1,1,1,1,1,0,0])
noncomputable def bd17:Array Oper:=regOps (pieceS bdS [1,1,1,1,1,0,1,0,0])
noncomputable def bd18:Array Oper:=regOps (pieceS bdS [1,1,1,1,1,1,0])
noncomputable def bd20:Array Oper:=regOps (pieceS bdS [1,1,1,1,1,1,1,1,0])
noncomputable def bd21:Array Oper:=regOps (pieceS bdC [1,1,1,1,0,1,0,0,1,1,1])
theorem bd4_tree (k:KSt) (c z s T S M Q:U):(execOps KE4 bd4.toList bd4.toList ⟨[(2,.rptr MTC [c,z,s,T,S,M,Q])],[]⟩ k)=(eachP [[c,z,s,T,S,M,Q]]∧k (St.mk [(20,vi (U.i 0)),(19,vi (U.i (↑(List.length (linesOf (U.i (-1:Int)) T.list ++ shotLines 0 S.list)):Int))),(18,SV.val (Ct.sl true LNC) (U.l (linesOf (U.i
 (-1:Int)) T.list ++ shotLines 0 S.list))),(17,SV.agg [vi c,vi z,SV.val Ct.str s,SV.val (Ct.sl false [Ct.sl true EC]) T,SV.val (Ct.sl true [Ct.str,.int .i64,Ct.sl false [Ct.sl true EC]]) S,SV.val
 (Ct.sl true [Ct.str,Ct.bool,Ct.sl true [.int .i64,.int .i64]]) M,SV.val (Ct.sl false [.int .i64]) Q]),(2,SV.rptr [.int .i64,.int .i64,Ct.str,Ct.sl false [Ct.sl true EC],Ct.sl true [Ct.str,.int
 .i64,Ct.sl false [Ct.sl true EC]],Ct.sl true [Ct.str,Ct.bool,Ct.sl true [.int .i64,.int .i64]],Ct.sl false [.int .i64]] [c,z,s,T,S,M,Q])] [])):=by kernel_rfl
theorem bd5_tree (k:KSt) (i n:U):(execOps KW bd5.toList bd5.toList ⟨[(20,vi i),(19,vi n)],[]⟩ k)=(k (St.mk [(21,SV.val Ct.bool (U.b (decide (i.int < n.int)))),(20,vi i),(19,vi n)] [])):=by kernel_rfl
theorem bd6_tree (k:KSt) (i L:U):(execOps KW bd6.toList bd6.toList ⟨[(20,vi i),(18,vt LNC L)],[]⟩ k)=(bif decide ((0:Int)≤i.int∧i.int < (L.list.length:Int)) then k (St.mk [(9,.ptr 1152 0),(23,.agg [vi (nth (U.i 0) (U.list (nth (U.i 0) L.list (Int.toNat i.int))) (0:Nat)),vi (nth (U.i 0) (List.tail (U.list (nth (U.i 0) L.list (Int.toNat i.int)))) (0:Nat)),vi (nth (U.i 0) (List.tail (List.tail (U.list (nth (U.i 0) L.list (Int.toNat i.int))))) (0:Nat)),vi (nth (U.i 0) (List.tail (List.tail (List.tail (U.list (nth (U.i 0) L.list (Int.toNat i.int)))))) (0:Nat)),vi (nth (U.i 0) (List.tail (List.tail (List.tail (List.tail (U.list (nth (U.i 0) L.list (Int.toNat i.int))))))) (0:Nat)),vi (nth (U.i 0) (List.tail (List.tail (List.tail (List.tail (List.tail (U.list (nth (U.i 0) L.list (Int.toNat i.int)))))))) (0:Nat)),.val (.int .u32) (nth (U.i 0) (List.tail (List.tail (List.tail (List.tail (List.tail (List.tail (U.list (nth (U.i 0) L.list (Int.toNat i.int))))))))) (0:Nat))]),(22,.rptr LNC (U.list (nth (U.i 0) L.list (Int.toNat i.int)))),(20,vi i),(18,.val (.sl true LNC) L)] [(1152,.box [vi (nth (U.i 0) (U.list (nth (U.i 0) L.list (Int.toNat i.int))) (0:Nat)),vi (nth (U.i 0) (List.tail (U.list (nth (U.i 0) L.list (Int.toNat i.int)))) (0:Nat)),vi (nth (U.i 0) (List.tail (List.tail (U.list (nth (U.i 0) L.list (Int.toNat i.int))))) (0:Nat)),vi (nth (U.i 0) (List.tail (List.tail (List.tail (U.list (nth (U.i 0) L.list (Int.toNat i.int)))))) (0:Nat)),vi (nth (U.i 0) (List.tail (List.tail (List.tail (List.tail (U.list (nth (U.i 0) L.list (Int.toNat i.int))))))) (0:Nat)),vi (nth (U.i 0) (List.tail (List.tail (List.tail (List.tail (List.tail (U.list (nth (U.i 0) L.list (Int.toNat i.int)))))))) (0:Nat)),.val (.int .u32) (nth (U.i 0) (List.tail (List.tail (List.tail (List.tail (List.tail (List.tail (U.list (nth (U.i 0) L.list (Int.toNat i.int))))))))) (0:Nat))])]) else False):=by kernel_rfl
theorem bd7_tree (k:KSt) (s q a b d e g:U):(execOps KW bd7.toList bd7.toList ⟨[(9,.rptr LNC [s,q,a,b,d,e,g])],[]⟩ k)=(k (St.mk [(10,SV.ptr 1280 0),(30,SV.agg [vi (nth (U.i 0) (List.drop (1:Nat) (List.drop (2:Nat) [s,q,a,b,d,e,g])) (0:Nat)),vi (nth (U.i 0) (List.drop (2:Nat) (List.drop (2:Nat) [s,q,
 a,b,d,e,g])) (0:Nat))]),(29,vi (nth (U.i 0) (List.drop (2:Nat) (List.drop (2:Nat) [s,q,a,b,d,e,g])) (0:Nat))),(28,SV.rptr [.int .i64,.int .i64,.int .u32] [d,e,g]),(27,SV.rptr
 EC [a,b,d,e,g]),(26,vi (nth (U.i 0) (List.drop (1:Nat) (List.drop (2:Nat) [s,q,a,b,d,e,g])) (0:Nat))),(25,SV.rptr [.int .i64,.int .i64,.int .i64,.int .u32] [b,d,e,g]),(24,SV.rptr
 EC [a,b,d,e,g]),(9,SV.rptr LNC [s,q,a,b,d,e,g])] [(1280,Obj.box [vi (nth (U.i 0) (List.drop (1:Nat) (List.drop (2:Nat) [s,q,a,b,d,e,g])) (0:Nat)),vi (nth (U.i 0) (List.drop (2
 : Nat) (List.drop (2:Nat) [s,q,a,b,d,e,g])) (0:Nat))])])):=by kernel_rfl
theorem bd8_tree (k:KSt) (F s q a b d e g c z t T S M Q:U):(execOps KE8 bd8.toList bd8.toList ⟨[(9,.rptr LNC [s,q,a,b,d,e,g]),(1,.val (.sl false [.int .u8]) F),(2,.rptr MTC [c,z,t,T,S,M,Q])],[]⟩ k)=(k (St.mk [(12,vi (U.i (Prod.fst (bytesX [[nth (U.i 0) (List.drop (2:Nat) [s,q,a,b,d,e,g]) (0:Nat),nth (U.i 0) (List.tail (List.drop (2:Nat) [s,q,a,b,d,e,g])) (0:Nat),nth (U.i 0) (List.tail (List.tail (List.drop (2:Nat) [s,q,a,b,d,e,g]))) (0:Nat),nth (U.i 0) (List.tail (List.tail (List.tail (List.drop (2:Nat) [s,q,a,b,d,e,g])))) (0:Nat),nth (U.i 0) (List.tail (List.tail (List.tail (List.tail (List.drop (2:Nat) [s,q,a,b,d,e,g]))))) (0:Nat)],[F],[nth (U.i 0) (List.drop (0:Nat) [c,z,t,T,S,M,Q]) (0:Nat)]])))),(11,.val (.sl false [.int .u8]) (U.l (Prod.snd (bytesX [[nth (U.i 0) (List.drop (2:Nat) [s,q,a,b,d,e,g]) (0:Nat),nth (U.i 0) (List.tail (List.drop (2:Nat) [s,q,a,b,d,e,g])) (0:Nat),nth (U.i 0) (List.tail (List.tail (List.drop (2:Nat) [s,q,a,b,d,e,g]))) (0:Nat),nth (U.i 0) (List.tail (List.tail (List.tail (List.drop (2:Nat) [s,q,a,b,d,e,g])))) (0:Nat),nth (U.i 0) (List.tail (List.tail (List.tail (List.tail (List.drop (2:Nat) [s,q,a,b,d,e,g]))))) (0:Nat)],[F],[nth (U.i 0) (List.drop (0:Nat) [c,z,t,T,S,M,Q]) (0:Nat)]])))),(39,vi (U.i (Prod.fst (bytesX [[nth (U.i 0) (List.drop (2:Nat) [s,q,a,b,d,e,g]) (0:Nat),nth (U.i 0) (List.tail (List.drop (2:Nat) [s,q,a,b,d,e,g])) (0:Nat),nth (U.i 0) (List.tail (List.tail (List.drop (2:Nat) [s,q,a,b,d,e,g]))) (0:Nat),nth (U.i 0) (List.tail (List.tail (List.tail (List.drop (2:Nat) [s,q,a,b,d,e,g])))) (0:Nat),nth (U.i 0) (List.tail (List.tail (List.tail (List.tail (List.drop (2:Nat) [s,q,a,b,d,e,g]))))) (0:Nat)],[F],[nth (U.i 0) (List.drop (0:Nat) [c,z,t,T,S,M,Q]) (0:Nat)]])))),(38,.val (.sl false [.int .u8]) (U.l (Prod.snd (bytesX [[nth (U.i 0) (List.drop (2:Nat) [s,q,a,b,d,e,g]) (0:Nat),nth (U.i 0) (List.tail (List.drop (2:Nat) [s,q,a,b,d,e,g])) (0:Nat),nth (U.i 0) (List.tail (List.tail (List.drop (2:Nat) [s,q,a,b,d,e,g]))) (0:Nat),nth (U.i 0) (List.tail (List.tail (List.tail (List.drop (2:Nat) [s,q,a,b,d,e,g])))) (0:Nat),nth (U.i 0) (List.tail (List.tail (List.tail (List.tail (List.drop (2:Nat) [s,q,a,b,d,e,g]))))) (0:Nat)],[F],[nth (U.i 0) (List.drop (0:Nat) [c,z,t,T,S,M,Q]) (0:Nat)]])))),(31,.tup [.val (.sl false [.int .u8]) (U.l (Prod.snd (bytesX [[nth (U.i 0) (List.drop (2:Nat) [s,q,a,b,d,e,g]) (0:Nat),nth (U.i 0) (List.tail (List.drop (2:Nat) [s,q,a,b,d,e,g])) (0:Nat),nth (U.i 0) (List.tail (List.tail (List.drop (2:Nat) [s,q,a,b,d,e,g]))) (0:Nat),nth (U.i 0) (List.tail (List.tail (List.tail (List.drop (2:Nat) [s,q,a,b,d,e,g])))) (0:Nat),nth (U.i 0) (List.tail (List.tail (List.tail (List.tail (List.drop (2:Nat) [s,q,a,b,d,e,g]))))) (0:Nat)],[F],[nth (U.i 0) (List.drop (0:Nat) [c,z,t,T,S,M,Q]) (0:Nat)]]))),vi (U.i (Prod.fst (bytesX [[nth (U.i 0) (List.drop (2:Nat) [s,q,a,b,d,e,g]) (0:Nat),nth (U.i 0) (List.tail (List.drop (2:Nat) [s,q,a,b,d,e,g])) (0:Nat),nth (U.i 0) (List.tail (List.tail (List.drop (2:Nat) [s,q,a,b,d,e,g]))) (0:Nat),nth (U.i 0) (List.tail (List.tail (List.tail (List.drop (2:Nat) [s,q,a,b,d,e,g])))) (0:Nat),nth (U.i 0) (List.tail (List.tail (List.tail (List.tail (List.drop (2:Nat) [s,q,a,b,d,e,g]))))) (0:Nat)],[F],[nth (U.i 0) (List.drop (0:Nat) [c,z,t,T,S,M,Q]) (0:Nat)]])))]),(37,.tup [.val (.sl false [.int .u8]) (U.l (Prod.snd (bytesX [[nth (U.i 0) (List.drop (2:Nat) [s,q,a,b,d,e,g]) (0:Nat),nth (U.i 0) (List.tail (List.drop (2:Nat) [s,q,a,b,d,e,g])) (0:Nat),nth (U.i 0) (List.tail (List.tail (List.drop (2:Nat) [s,q,a,b,d,e,g]))) (0:Nat),nth (U.i 0) (List.tail (List.tail (List.tail (List.drop (2:Nat) [s,q,a,b,d,e,g])))) (0:Nat),nth (U.i 0) (List.tail (List.tail (List.tail (List.tail (List.drop (2:Nat) [s,q,a,b,d,e,g]))))) (0:Nat)],[F],[nth (U.i 0) (List.drop (0:Nat) [c,z,t,T,S,M,Q]) (0:Nat)]]))),vi (U.i (Prod.fst (bytesX [[nth (U.i 0) (List.drop (2:Nat) [s,q,a,b,d,e,g]) (0:Nat),nth (U.i 0) (List.tail (List.drop (2:Nat) [s,q,a,b,d,e,g])) (0:Nat),nth (U.i 0) (List.tail (List.tail (List.drop (2:Nat) [s,q,a,b,d,e,g]))) (0:Nat),nth (U.i 0) (List.tail (List.tail (List.tail (List.drop (2:Nat) [s,q,a,b,d,e,g])))) (0:Nat),nth (U.i 0) (List.tail (List.tail (List.tail (List.tail (List.drop (2:Nat) [s,q,a,b,d,e,g]))))) (0:Nat)],[F],[nth (U.i 0) (List.drop (0:Nat) [c,z,t,T,S,M,Q]) (0:Nat)]])))]),(36,vi (nth (U.i 0) (List.drop (0:Nat) [c,z,t,T,S,M,Q]) (0:Nat))),(35,.rptr [.int .i64,.int .i64,Ct.str,Ct.sl false [.sl true EC],Ct.sl true [.str,.int .i64,Ct.sl false [.sl true EC]],Ct.sl true [.str,Ct.bool,Ct.sl true [.int .i64,.int .i64]],Ct.sl false [.int .i64]] [c,z,t,T,S,M,Q]),(34,.val (.sl false [.int .u8]) F),(33,.agg [vi (nth (U.i 0) (List.drop (2:Nat) [s,q,a,b,d,e,g]) (0:Nat)),vi (nth (U.i 0) (List.tail (List.drop (2:Nat) [s,q,a,b,d,e,g])) (0:Nat)),vi (nth (U.i 0) (List.tail (List.tail (List.drop (2:Nat) [s,q,a,b,d,e,g]))) (0:Nat)),vi (nth (U.i 0) (List.tail (List.tail (List.tail (List.drop (2:Nat) [s,q,a,b,d,e,g])))) (0:Nat)),.val (.int .u32) (nth (U.i 0) (List.tail (List.tail (List.tail (List.tail (List.drop (2:Nat) [s,q,a,b,d,e,g]))))) (0:Nat))]),(32,.rptr EC [a,b,d,e,g]),(9,.rptr LNC [s,q,a,b,d,e,g]),(1,.val (.sl false [.int .u8]) F),(2,.rptr [.int .i64,.int .i64,Ct.str,Ct.sl false [.sl true EC],Ct.sl true [.str,.int .i64,Ct.sl false [.sl true EC]],Ct.sl true [.str,Ct.bool,Ct.sl true [.int .i64,.int .i64]],Ct.sl false [.int .i64]] [c,z,t,T,S,M,Q])] [])):=by kernel_rfl
theorem bd9_tree (k:KSt) (i:U):(execOps KW bd9.toList bd9.toList ⟨[(12,.val (.int .i64) i)],[]⟩ k)=(k (St.mk [(13,SV.val Ct.bool (U.b (i.int != 0))),(41,SV.val Ct.bool (U.b (i.int != 0))),(40,vi i),(12,vi i)] [])):=by kernel_rfl
theorem bd10_tree (k:KSt) (A:U):(execOps KW bd10.toList bd10.toList ⟨[(6,vt PPC A)],[]⟩ k)=(k (St.mk [(44,vi (U.i 0)),(43,vi (U.i (↑(List.length A.list):Int))),(42,SV.val (Ct.sl true [.int .i64,.int .i64]) A),(6,SV.val (Ct.sl true [.int .i64,.int .i64]) A)] [])):=by kernel_rfl
theorem bd11_tree (k:KSt) (i n:U):(execOps KW bd11.toList bd11.toList ⟨[(44,vi i),(43,vi n)],[]⟩ k)=(k (St.mk [(45,SV.val Ct.bool (U.b (decide (i.int < n.int)))),(44,vi i),(43,vi n)] [])):=by kernel_rfl
theorem bd12_tree (k:KSt) (i A:U):(execOps KW bd12.toList bd12.toList ⟨[(44,vi i),(42,vt PPC A)],[]⟩ k)=(bif decide ((0:Int)≤i.int∧i.int < (↑(List.length A.list):Int)) then k (St.mk [(15,SV.ptr 1920 0),(47,SV.agg [vi (nth (U.i 0) (U.list (nth (U.i 0) A.list (Int.toNat i.int))) (0:Nat)),vi (nth
 (U.i 0) (List.tail (U.list (nth (U.i 0) A.list (Int.toNat i.int)))) (0:Nat))]),(46,SV.rptr [.int .i64,.int .i64] (U.list (nth (U.i 0) A.list (Int.toNat i.int)))),(44,vi i),(42,SV.val (Ct.sl true
 [.int .i64,.int .i64]) A)] [(1920,Obj.box [vi (nth (U.i 0) (U.list (nth (U.i 0) A.list (Int.toNat i.int))) (0:Nat)),vi (nth (U.i 0) (List.tail (U.list (nth (U.i 0) A.list (Int.toNat i.int)))) (0 :
 Nat))])]) else False):=by kernel_rfl
theorem bd13_tree (k:KSt) (a b d e:U):(execOps KE8 bd13.toList bd13.toList ⟨[(10,.rptr PPC [a,b]),(15,.rptr PPC [d,e])],[]⟩ k)=(k (St.mk [(50,SV.val Ct.bool (U.b (meetR a.int b.int d.int e.int))),(49,SV.agg [vi d,vi e]),(48,SV.agg [vi a,vi b]),(10,SV.rptr [.int .i64,.int .i64] [a,b]),(15,SV.rptr [.int .i64,.int .i64]
 [d,e])] [])):=by kernel_rfl
theorem bd14_tree (k:KSt):(execOps KW bd14.toList bd14.toList ⟨[],[]⟩ k)=(k (St.mk [(13,SV.val Ct.bool (U.b true))] [])):=by kernel_rfl
theorem bd15_tree (k:KSt) (i:U):(execOps KW bd15.toList bd15.toList ⟨[(44,vi i)],[]⟩ k)=(k (St.mk [(44,vi (U.i (IntKind.wrap IntKind.i64 (i.int + 1)))),(51,vi (U.i (IntKind.wrap IntKind.i64 (i.int + 1)))),(44,vi i)] [])):=by kernel_rfl
theorem bd16_tree (k:KSt) (s:Bool):(execOps KW bd16.toList bd16.toList ⟨[(13,vb (.b s))],[]⟩ k)=(k (St.mk [(52,SV.val Ct.bool (U.b s)),(13,SV.val Ct.bool (U.b s))] [])):=by kernel_rfl
theorem bd17_tree (k:KSt) (s q a b d e g:U) (X:List U):(execOps KW bd17.toList bd17.toList ⟨[(5,.own 2),(9,.rptr LNC [s,q,a,b,d,e,g])],[(2,.arr 85 X)]⟩ k)=(bif decide (List.length X + 1≤room) && true then k (St.mk [(5,SV.own 2),(60,SV.own 2),(59,SV.own 7678),(58,SV.agg [vi (nth (U.i 0) (List.drop (0:Nat) [s,q,a,b,d,e,g]) (0:Nat)),vi (nth
 (U.i 0) (List.drop (1:Nat) [s,q,a,b,d,e,g]) (0:Nat))]),(57,vi (nth (U.i 0) (List.drop (1:Nat) [s,q,a,b,d,e,g]) (0:Nat))),(56,SV.rptr [.int .i64,.int .i64,.int .i64,.int .i64,
 .int .i64,.int .u32] [q,a,b,d,e,g]),(55,vi (nth (U.i 0) (List.drop (0:Nat) [s,q,a,b,d,e,g]) (0:Nat))),(54,SV.rptr LNC [s,q,a,b,d,e,g]),(53,SV.unk),(5,SV.unk),(9,SV.rptr
 LNC [s,q,a,b,d,e,g])] [(2,Obj.arr 85 (X ++ [U.l [nth (U.i 0) (List.drop (0:Nat) [s,q,a,b,d,e,g]) (0:Nat),nth (U.i 0) (List.drop (1:Nat) [s,q,a,b,d,e,g]) (0:Nat)]])),(7678,
 Obj.arr 85 [U.l [nth (U.i 0) (List.drop (0:Nat) [s,q,a,b,d,e,g]) (0:Nat),nth (U.i 0) (List.drop (1:Nat) [s,q,a,b,d,e,g]) (0:Nat)]])]) else False):=by kernel_rfl
theorem bd20_tree (k:KSt) (a b:U) (X:List U):(execOps KW bd20.toList bd20.toList ⟨[(6,.own 2),(10,.rptr PPC [a,b])],[(2,.arr 109 X)]⟩ k)=(bif decide (List.length X + 1≤room) && true then k (St.mk [(6,SV.own 2),(74,SV.own 2),(73,SV.own 9470),(72,SV.agg [vi a,vi b]),(71,SV.unk),(6,SV.unk),(10,SV.rptr [.int .i64,.int .i64]
 [a,b])] [(2,Obj.arr 109 (X ++ [U.l [a,b]])),(9470,Obj.arr 109 [U.l [a,b]])]) else False):=by kernel_rfl
theorem bd21_tree (k:KSt) (i:U):(execOps KW bd21.toList bd21.toList ⟨[(20,vi i)],[]⟩ k)=(k (St.mk [(20,vi (U.i (IntKind.wrap IntKind.i64 (i.int + 1)))),(75,vi (U.i (IntKind.wrap IntKind.i64 (i.int + 1)))),(20,vi i)] [])):=by kernel_rfl
end Go.Mat

namespace Go.Mat
open Go Go.Den Go.Proofs Go.RowKit
set_option maxRecDepth 100000
theorem pm_ok:PMap PR 107 109 3 where
 map:=by kernel_rfl
 eq:=by kernel_rfl
 key:=⟨((match PR.underlying 109 with | some (.struct fs)=>fs | _=>#[])[0]?).getD default,((match PR.underlying 109 with | some (.struct fs)=>fs | _=>#[])[1]?).getD default,by kernel_rfl,by simp,by simp,by kernel_rfl,by kernel_rfl,by kernel_rfl,by kernel_rfl⟩
 zero:=⟨(PR.info? 3).getD default,by kernel_rfl,by kernel_rfl⟩
theorem uTk:∃ d,PR.underlying 109=some d∧aggD d=true:=⟨(PR.underlying 109).getD .bool,by kernel_rfl,by kernel_rfl⟩
theorem szTk:sizeT PR 109=some 2:=by kernel_rfl
noncomputable def bdO (i:Nat):Oper:=(bd18[i]?).getD default
theorem bdO_at:(∀ i,i < 7→bd18[i]? = some (bdO i))∧(∀ i,i < 7→(bdO i).guard=none):=by
 have hs:bd18.size=7:=by kernel_rfl
 have hg:bd18.toList.all (fun o=>o.guard.isNone)=true:=by kernel_rfl
 have key:∀ i,i < 7→∃ h:i < bd18.size,bd18[i]? = some bd18[i]∧bdO i=bd18[i]:=fun i hi=>by
  have h:i < bd18.size:=by rw [hs];exact hi
  have h2:=Array.getElem?_eq_getElem h
  exact ⟨h,h2,by unfold bdO;rw [h2];rfl⟩
 refine ⟨fun i hi=>?_,fun i hi=>?_⟩<;>obtain ⟨h,h1,h2⟩:=key i hi
 ·rw [h1,h2]
 ·rw [h2]
  exact Option.isNone_iff_eq_none.1 (List.all_eq_true.1 hg _ (Array.getElem_mem_toList h))
structure P18 (a0:Act) (Bm:Nat) (k:PK) (a:Act):Prop where
 size:a.tmps.size=77
 calm:a.defers=a0.defers
 e61:a.eval (.tmp 61) = .map (some Bm)
 e62:a.eval (.tmp 62)=kvP k
 low:∀ t:Nat,t < 61→a.eval (.tmp t)=a0.eval (.tmp t)
theorem P18.put {a0 a:Act} {Bm:Nat} {k:PK} (h:P18 a0 Bm k a) {d:Nat} {v:Value} (hd:d < 77) (h0:62 < d):P18 a0 Bm k (a.put (some d) v):=
 ⟨by rw [size_put];exact h.size,by rw [defers_put];exact h.calm,by rw [ev_skip (show d≠61 by omega)];exact h.e61,by rw [ev_skip (show d≠62 by omega)];exact h.e62,fun t ht=>by rw [ev_skip (show d≠t by omega)];exact h.low t ht⟩
theorem add1_run (n:Int) (h:IntKind.i64.min≤n∧n + 1≤IntKind.i64.max) (w:World):(binOp .add 3 (.int .i64 n) (.int .i64 1)).run PR w = .ok (.int .i64 (n + 1)) w:=by
 have h4:IntKind.i64.wrap (n + 1)=n + 1:=i64_in (by have:=h.1;have e:IntKind.i64.min = -(2 ^ 63:Int):=rfl;omega) (by have:=h.2;have e:IntKind.i64.max=2 ^ 63 - 1:=rfl;omega)
 simp [binOp,Op.intArith,h4]
theorem load_pair {w:World} {o:Oper} {a:Act} {x:Operand} {b:Nat} {k:PK} {K:Act→World→Prop} {Q:Exit→Act→World→Prop} (ho:o.op = .load 109 x) (hx:a.eval x = .pointer (some ⟨b,0,none⟩)) (h0:w.cell? ⟨b,0,none⟩=some (.int .i64 k.1)) (h1:w.cell? ⟨b,1,none⟩=some (.int .i64 k.2)) (hk:K (a.put o.dst (kvP k)) w):o.wp PR a w K Q:=by
 obtain ⟨d,hd,ha⟩:=uTk
 exact op_load ho hx (run_loadVar_agg (vs:=[.int .i64 k.1,.int .i64 k.2]) hd ha szTk rfl (fun j u hj=>by
  match j,hj with
  | 0,hj=>simp at hj;subst hj;exact h0
  | 1,hj=>simp at hj;subst hj;exact h1
  | j + 2,hj=>simp at hj)) hk
theorem bd_r18 {a:Act} {w:World} {Bm b:Nat} {k:PK} {es:List (PK × Int)} (hs:a.tmps.size=77) (h7:a.eval (.tmp 7) = .map (some Bm)) (h10:a.eval (.tmp 10) = .pointer (some ⟨b,0,none⟩)) (c0:w.cell? ⟨b,0,none⟩=some (.int .i64 k.1)) (c1:w.cell? ⟨b,1,none⟩=some (.int .i64 k.2))
  (hM:MapAt w Bm es) (hg:0≤pGet k es∧pGet k es≤1073741824):(Code.region (regId (pieceS bdS [1,1,1,1,1,1,0])) bd18 true).wp PR (fun e a' w'=>e = .normal∧MapAt w' Bm (pPut k (pGet k es + 1) es)∧a'.tmps.size=77∧a'.defers=a.defers∧(∀ t:Nat,t < 61→a'.eval (.tmp t)=a.eval (.tmp t))∧
    Fut (fun c=>c=Bm) w w'∧w'.heap.size=w.heap.size) a w:=by
 obtain ⟨Q,hQ⟩:∃ Q:Exit→Act→World→Prop,Q=fun e a' w'=>e = .normal∧MapAt w' Bm (pPut k (pGet k es + 1) es)∧a'.tmps.size=77∧a'.defers=a.defers∧(∀ t:Nat,t < 61→a'.eval (.tmp t)=a.eval (.tmp t))∧Fut (fun c=>c=Bm) w w'∧w'.heap.size=w.heap.size:=⟨_,rfl⟩
 rw [← hQ]
 have hQp:∀ c a w d v,Q (.panic c) (a.put d v) w→Q (.panic c) a w:=fun _ _ _ _ _ h=>by rw [hQ] at h;cases h.1
 have at_:=bdO_at.1
 have gd:=bdO_at.2
 refine wp_region_any mixed_ok ?_
 rw [show bd18.size=7 by kernel_rfl]
 generalize hw0:({ w with drawn:=w.drawn + 1 }:World)=w0
 have F0:Fut (fun c=>c=Bm) w w0:=by rw [← hw0];exact ⟨rfl,rfl,rfl,Nat.le_refl _,fun _ _ _=>rfl⟩
 have hz0:w0.heap.size=w.heap.size:=by rw [← hw0]
 have c0':w0.cell? ⟨b,0,none⟩=some (.int .i64 k.1):=by rw [← hw0];exact c0
 have c1':w0.cell? ⟨b,1,none⟩=some (.int .i64 k.2):=by rw [← hw0];exact c1
 have hM0:MapAt w0 Bm es:=by rw [← hw0];exact hM
 clear hM c0 c1 hw0
 refine wpAny_take (i:=0) (oi:=bdO 0) (v:=.map (some Bm)) (at_ 0 (by decide)) (by kernel_rfl) (by kernel_rfl) (by kernel_rfl) (fun _ _ _ h=>hQp _ _ _ _ _ h) (yields_of (gd 0 (by decide)) fun w=>?_) ?_
 ·have:=run_move (P:=PR) (o:=bdO 0) (a:=a) (x:=.tmp 7) (by kernel_rfl) w
  rw [this,h7]
 rw [show (bdO 0).dst=some 61 by kernel_rfl]
 refine wpAny_all (rs:=[1]) (by kernel_rfl) (by decide) fun i hi=>?_
 have hi:i=1:=by simpa using hi
 subst hi
 refine wpOp_do (at_ 1 (by decide)) (gd 1 (by decide)) (load_pair (k:=k) (x:=.tmp 10) (by kernel_rfl) (by rw [ev_skip (by decide)];exact h10) c0' c1' ?_)
 rw [show (bdO 1).dst=some 62 by kernel_rfl]
 generalize ha2:(a.put (some 61) (.map (some Bm))).put (some 62) (kvP k)=a2
 have A2:P18 a Bm k a2:=by
  rw [← ha2]
  exact ⟨by simp only [size_put];exact hs,by simp only [defers_put],by rw [ev_skip (by decide),ev_hit (by omega)],by rw [ev_hit (by rw [size_put];omega)],fun t ht=>by rw [ev_skip (show 62≠t by omega),ev_skip (show 61≠t by omega)]⟩
 clear ha2
 have hwrap:=add1_run (pGet k es) ⟨by have e:IntKind.i64.min = -(2 ^ 63:Int):=rfl;omega,by have e:IntKind.i64.max=2 ^ 63 - 1:=rfl;omega⟩
 have y3:∀ (a3:Act),a3.eval (.tmp 63) = .int .i64 (pGet k es)→∀ w,(execOp a3.eval (bdO 3)).run PR w = .ok (.value (.int .i64 (pGet k es + 1))) w:=fun a3 h w=>by
  have ho:(bdO 3).op = .binOp .add 3 (.tmp 63) (.const (.int .i64 1)) 3:=by kernel_rfl
  have hc:a3.eval (.const (.int .i64 1)) = .int .i64 1:=rfl
  simp only [execOp,ho,Sem.run_bind,h,hc,eqGuard_int,Result.andThen,hwrap]
  rfl
 have y5:∀ (a3:Act),a3.eval (.tmp 65) = .tuple #[.int .i64 (pGet k es),.int .i64 (pPos k es)]→∀ w,(execOp a3.eval (bdO 5)).run PR w = .ok (.value (.int .i64 (pPos k es))) w:=fun a3 h w=>by
  have ho:(bdO 5).op = .extract (.tmp 65) 1:=by kernel_rfl
  simp [execOp,ho,h,Instr.extract]
 have fin:∀ (l:Array Bool) (a3:Act) (w3:World),l = #[true,true,true,true,true,true,false]→P18 a Bm k a3→a3.eval (.tmp 64) = .int .i64 (pGet k es + 1)→a3.eval (.tmp 66) = .int .i64 (pPos k es:Nat)→MapAt w3 Bm (pPut k (pGet k es) es)→Fut (fun c=>c=Bm) w w3→w3.heap.size=w.heap.size→wpAny PR .any bd18 Q 1 l a3 w3:=by
  intro l a3 w3 hl A h64 h66 hM3 F3 hz3
  subst hl
  obtain ⟨q1,q2,q3,q4⟩:=pPut_put (k:=k) (u:=pGet k es) (v:=pGet k es + 1) (es:=es)
  refine wpAny_all (rs:=[6]) (by kernel_rfl) (by decide) fun i hi=>?_
  have hi:i=6:=by simpa using hi
  subst hi
  refine wpOp_do (at_ 6 (by decide)) (gd 6 (by decide)) (pair_store pm_ok (x:=.tmp 61) (y:=.tmp 66) (z:=.tmp 64) (k:=k) (es:=pPut k (pGet k es) es) (kd:=.i64) (by kernel_rfl) A.e61 (by rw [q3];exact h66) h64 q2 hM3 fun w4 hM4 g4 hz4=>?_)
  rw [show (bdO 6).dst=none by kernel_rfl,put_none]
  refine wpAny_done (by kernel_rfl) ?_ 0
  rw [hQ]
  exact ⟨rfl,by rw [q1] at hM4;exact hM4,A.size,A.calm,A.low,F3.trans (fut_grown (M:=fun c=>c=Bm) g4 fun c e=>by injection e with e;exact e.symm) (fun _ h=>h) (fun _ _ h=>h),hz4.trans hz3⟩
 refine wpAny_all (rs:=[2,4]) (by kernel_rfl) (by decide) fun i hi=>?_
 rcases (by simpa using hi:i=2∨i=4) with rfl | rfl
 ·refine wpOp_do (at_ 2 (by decide)) (gd 2 (by decide)) (pair_lookup pm_ok (x:=.tmp 61) (y:=.tmp 62) (by kernel_rfl) A2.e61 A2.e62 hM0 ?_)
  rw [show (bdO 2).dst=some 63 by kernel_rfl]
  have A3:=A2.put (d:=63) (v:=.int .i64 (pGet k es)) (by decide) (by decide)
  refine wpAny_take (i:=3) (oi:=bdO 3) (v:=.int .i64 (pGet k es + 1)) (at_ 3 (by decide)) (by kernel_rfl) (by kernel_rfl) (by kernel_rfl) (fun _ _ _ h=>hQp _ _ _ _ _ h) (yields_of (gd 3 (by decide)) (y3 _ (by rw [ev_hit (by rw [A2.size];decide)]))) ?_
  rw [show (bdO 3).dst=some 64 by kernel_rfl]
  have A4:=A3.put (d:=64) (v:=.int .i64 (pGet k es + 1)) (by decide) (by decide)
  refine wpAny_all (rs:=[4]) (by kernel_rfl) (by decide) fun i hi=>?_
  have hi:i=4:=by simpa using hi
  subst hi
  refine wpOp_do (at_ 4 (by decide)) (gd 4 (by decide)) (pair_entry pm_ok (x:=.tmp 61) (y:=.tmp 62) (by kernel_rfl) A4.e61 A4.e62 hM0 fun w3 hM3 g3 hz3=>?_)
  rw [show (bdO 4).dst=some 65 by kernel_rfl]
  have A5:=A4.put (d:=65) (v:=.tuple #[.int .i64 (pGet k es),.int .i64 (pPos k es)]) (by decide) (by decide)
  refine wpAny_take (i:=5) (oi:=bdO 5) (v:=.int .i64 (pPos k es)) (at_ 5 (by decide)) (by kernel_rfl) (by kernel_rfl) (by kernel_rfl) (fun _ _ _ h=>hQp _ _ _ _ _ h) (yields_of (gd 5 (by decide)) (y5 _ (by rw [ev_hit (by rw [A4.size];decide)]))) ?_
  rw [show (bdO 5).dst=some 66 by kernel_rfl]
  refine fin _ _ _ (by kernel_rfl) (A5.put (by decide) (by decide)) ?_ (by rw [ev_hit (by rw [A5.size];decide)]) hM3 (F0.trans (fut_grown (M:=fun c=>c=Bm) g3 fun c e=>by injection e with e;exact e.symm) (fun _ h=>h) (fun _ _ h=>h)) (hz3.trans hz0)
  rw [ev_skip (by decide),ev_skip (by decide),ev_hit (by rw [A3.size];decide)]
 ·refine wpOp_do (at_ 4 (by decide)) (gd 4 (by decide)) (pair_entry pm_ok (x:=.tmp 61) (y:=.tmp 62) (by kernel_rfl) A2.e61 A2.e62 hM0 fun w3 hM3 g3 hz3=>?_)
  rw [show (bdO 4).dst=some 65 by kernel_rfl]
  have A3:=A2.put (d:=65) (v:=.tuple #[.int .i64 (pGet k es),.int .i64 (pPos k es)]) (by decide) (by decide)
  refine wpAny_take (i:=5) (oi:=bdO 5) (v:=.int .i64 (pPos k es)) (at_ 5 (by decide)) (by kernel_rfl) (by kernel_rfl) (by kernel_rfl) (fun _ _ _ h=>hQp _ _ _ _ _ h) (yields_of (gd 5 (by decide)) (y5 _ (by rw [ev_hit (by rw [A2.size];decide)]))) ?_
  rw [show (bdO 5).dst=some 66 by kernel_rfl]
  have A4:=A3.put (d:=66) (v:=.int .i64 (pPos k es)) (by decide) (by decide)
  obtain ⟨q1,q2,q3,q4⟩:=pPut_put (k:=k) (u:=pGet k es) (v:=pGet k es + 1) (es:=es)
  refine wpAny_all (rs:=[2]) (by kernel_rfl) (by decide) fun i hi=>?_
  have hi:i=2:=by simpa using hi
  subst hi
  refine wpOp_do (at_ 2 (by decide)) (gd 2 (by decide)) (pair_lookup pm_ok (x:=.tmp 61) (y:=.tmp 62) (by kernel_rfl) A4.e61 A4.e62 hM3 ?_)
  rw [show (bdO 2).dst=some 63 by kernel_rfl,q4]
  have A5:=A4.put (d:=63) (v:=.int .i64 (pGet k es)) (by decide) (by decide)
  refine wpAny_take (i:=3) (oi:=bdO 3) (v:=.int .i64 (pGet k es + 1)) (at_ 3 (by decide)) (by kernel_rfl) (by kernel_rfl) (by kernel_rfl) (fun _ _ _ h=>hQp _ _ _ _ _ h) (yields_of (gd 3 (by decide)) (y3 _ (by rw [ev_hit (by rw [A4.size];decide)]))) ?_
  rw [show (bdO 3).dst=some 64 by kernel_rfl]
  refine fin _ _ _ (by kernel_rfl) (A5.put (by decide) (by decide)) (by rw [ev_hit (by rw [A5.size];decide)]) ?_ hM3 (F0.trans (fut_grown (M:=fun c=>c=Bm) g3 fun c e=>by injection e with e;exact e.symm) (fun _ h=>h) (fun _ _ h=>h)) (hz3.trans hz0)
  rw [ev_skip (by decide),ev_skip (by decide),ev_hit (by rw [A3.size];decide)]
theorem bd_19:RegIs (pieceS bdS [1,1,1,1,1,1,1,0]) [(some 67,.move (.tmp 7)),(some 68,.load 109 (.tmp 10)),(some 69,.lookup 107 (.tmp 67) (.tmp 68) false),(some 70,.binOp .eql 3 (.tmp 69) (.const (.int .i64 1)) 3)]:=
 ⟨regId (pieceS bdS [1,1,1,1,1,1,1,0]),regOps (pieceS bdS [1,1,1,1,1,1,1,0]),by kernel_rfl,by kernel_rfl,by kernel_rfl⟩
theorem bd_r19 {a:Act} {w:World} {Bm b:Nat} {k:PK} {es:List (PK × Int)} (hs:a.tmps.size=77) (h7:a.eval (.tmp 7) = .map (some Bm)) (h10:a.eval (.tmp 10) = .pointer (some ⟨b,0,none⟩)) (c0:w.cell? ⟨b,0,none⟩=some (.int .i64 k.1)) (c1:w.cell? ⟨b,1,none⟩=some (.int .i64 k.2))
  (hM:MapAt w Bm es):(pieceS bdS [1,1,1,1,1,1,1,0]).wp PR (fun e a' w'=>e = .normal∧w' = w∧a'.tmps.size=77∧a'.defers=a.defers∧(∀ t:Nat,t < 67→a'.eval (.tmp t)=a.eval (.tmp t))∧a'.eval (.tmp 70) = .bool (pGet k es == 1)) a w:=by
 refine wp_regIs bd_19 ?_
 simp only [wpL]
 intro o hd ho
 refine op_move ho ?_
 rw [hd]
 clear hd ho o
 intro o hd ho
 refine load_pair ho (by rw [ev_skip (by decide)];exact h10) c0 c1 ?_
 rw [hd]
 clear hd ho o
 intro o hd ho
 refine pair_lookup pm_ok ho (by rw [ev_skip (by decide),ev_hit (by omega)];exact h7) (by rw [ev_hit (by rw [size_put];omega)]) hM ?_
 rw [hd]
 clear hd ho o
 intro o hd ho
 refine bin_int (C:=KW) (i:=.i64) (j:=.i64) (m:=pGet k es) (n:=1) (v:=.bool (pGet k es == 1)) ho (by rw [ev_hit (by simp only [size_put];omega)]) rfl (by simp [binOp,Op.intCmp]) ?_
 rw [hd]
 clear hd ho o
 exact ⟨by trivial,rfl,by simp only [size_put];exact hs,by simp only [defers_put],fun t ht=>by rw [ev_skip (show 70≠t by omega),ev_skip (show 69≠t by omega),ev_skip (show 68≠t by omega),ev_skip (show 67≠t by omega)],by rw [ev_hit (by simp only [size_put];omega)]⟩
end Go.Mat

namespace Go.Mat
open Go Go.Den Go.Proofs Go.RowKit
set_option maxRecDepth 100000
abbrev lnU (l:U) (k:Nat):U:=U.at l.list k
def pkOf (l:U):PK:=((lnU l 3).int,(lnU l 4).int)
def pkU (k:PK):U:=.l [.i k.1,.i k.2]
def meetP (t o:PK):Bool:=meetR t.1 t.2 o.1 o.2
def wrongB (F:List U) (c:Int) (l:U):Bool:=(cbX (lnU l 2).int (lnU l 3).int (lnU l 4).int (lnU l 5).int (lnU l 6).int c F).1 != 0
def badStep (F:List U) (c:Int) (st:List U × List PK) (l:U):List U × List PK:=
 bif wrongB F c l || st.2.any (meetP (pkOf l)) then (st.1 ++ [.l [lnU l 0,lnU l 1]],st.2) else (st.1,bif decide (pkOf l ∈ st.2) then st.2 else st.2 ++ [pkOf l])
def badL (F:List U) (c:Int) (ls:List U):List U × List PK:=ls.foldl (badStep F c) ([],[])
abbrev linesX (us:List (List U)):List U:=linesOf (.i (-1)) (nth (.i 0) (nth [] us 0) 3).list ++ shotLines 0 (nth (.i 0) (nth [] us 0) 4).list
def badS:List (List U)→List (List U):=fun us=>[[.l (badL (nth (.i 0) (nth [] us 1) 0).list (nth (.i 0) (nth [] us 0) 0).int (linesX us)).1]]
def badP:List (List U)→Prop:=fun us=>eachP us∧(linesX us).length≤536870912
theorem KE4_ok:KE4.Ok:=(mkC_ok eqs0_ok mixed_ok (.consP each_ok .nil) .nil).panics _
theorem KE8_ok:KE8.Ok:=(mkC_ok eqs0_ok mixed_ok (.cons bytes_ok15 (.cons meet_ok .nil)) .nil).panics _
def BoxAt (lo:Nat) (cs:List Ct) (us:List U) (w:World) (v:Value):Prop:=∃ b,v = .pointer (some ⟨b,0,none⟩)∧lo≤b∧b < w.heap.size∧RepCs w (fun _=>False) cs b 0 us
theorem BoxAt.next {lo:Nat} {cs:List Ct} {us:List U} {w w':World} {v:Value} (h:BoxAt lo cs us w v) (hz:w.heap.size≤w'.heap.size) (ho:∀ b,lo≤b→b < w.heap.size→w'.heap[b]? = w.heap[b]?):BoxAt lo cs us w' v:=by
 obtain ⟨b,h1,h2,h3,h4⟩:=h
 exact ⟨b,h1,h2,by omega,RepCs.mono ⟨fun _ h=>h,fun _ h=>h.elim⟩ cs _ _ _ (ho b h2 h3) h4⟩
theorem BoxAt.rep {lo:Nat} {cs:List Ct} {us:List U} {w:World} {v:Value} {G:Nat→Value} {Z:Nat→Prop} (h:BoxAt lo cs us w v) (hZ:∀ b,v = .pointer (some ⟨b,0,none⟩)→Z b):RepSV w Z G (.rptr cs us) v:=by
 obtain ⟨b,h1,h2,h3,h4⟩:=h
 exact ⟨b,0,h1,hZ b h1,RepCs.mono ⟨fun _ h=>h.elim,fun _ h=>h.elim⟩ cs _ _ _ rfl h4⟩
theorem box_out {Θ:Anc} {n:Nat} {σ:St} {a:Act} {w:World} {Z:Nat→Prop} {G:Nat→Value} (S:Sim PR Θ n σ a w Z G) (hM:∀ b,¬ Θ.M b) (hN:∀ b,¬ Θ.N b) {t id:Nat} {cs:List Ct} {us:List U} (hs:scalarCs cs=true) (h1:get σ.env t = .ptr id 0) (h2:getO σ.objs id=some (.box (vals cs us))) :
  BoxAt Θ.w.heap.size cs us w (a.eval (.tmp t)):=by
 have r:=S.slot t
 rw [h1] at r
 obtain ⟨b,hb,hv⟩:=r
 obtain ⟨b',ty,c,g1,g2,g3⟩:=S.obj id _ h2
 rw [hb] at g1
 cases g1
 refine ⟨b,hv,?_,(Array.getElem?_eq_some_iff.1 g2).1,?_⟩
 ·rcases (S.free id _ b h2 (by rw [hb];rfl)).2 with h | h | h
  ·exact (hM b h).elim
  ·exact (hN b h).elim
  ·exact h
 ·refine RepL.cells (RepL.scal (Z':=fun _=>False) hs (RepSVs.repL g3)) fun j u hj=>?_
  rw [cell_of_row w b (0 + j) c ty (0,0) g2,Nat.zero_add,← hj,Array.getElem?_toList]
theorem slots_of {w:World} {Z:Nat→Prop} {G:Nat→Value} {a:Act}:∀ {ex:List (Nat × SV)},(∀ p ∈ ex,RepSV w Z G p.2 (a.tmps.getD p.1 undef))→∀ t,RepSV w Z G (get ex t) (a.tmps.getD t undef)
 | [],_,_=>trivial
 | p :: r,h,t=>by
  rw [get_cons]
  split
  ·rename_i e;subst e;exact h p (List.mem_cons_self ..)
  ·exact slots_of (fun q hq=>h q (List.mem_cons_of_mem _ hq)) t
structure Bd0 (w0 wt:World) (Bm:Nat) (Zs:Nat→Prop) (vF vL:Value) (c z s T Sh M Q F:U) (L:List U):Prop where
 lo:w0.heap.size < Bm
 hi:Bm < wt.heap.size
 zs:∀ b,Zs b→b < wt.heap.size∧b≠Bm
 file:RepC wt Zs (.sl false [.int .u8]) vF F
 lines:RepC wt Zs (.sl true LNC) vL (.l L)
 meta_:RepCs wt Zs MTC w0.heap.size 0 [c,z,s,T,Sh,M,Q]
 zn:Zs w0.heap.size
structure BdI (w0 wt:World) (Bm:Nat) (vF vL v5 v6:Value) (n:Nat) (out:List U) (all:List PK) (es:List (PK × Int)) (a:Act) (w:World):Prop where
 size:a.tmps.size=77
 calm:a.defers=[]
 e1:a.eval (.tmp 1)=vF
 e2:a.eval (.tmp 2) = .pointer (some ⟨w0.heap.size,0,none⟩)
 e18:a.eval (.tmp 18)=vL
 e19:a.eval (.tmp 19) = .int .i64 (n:Int)
 e7:a.eval (.tmp 7) = .map (some Bm)
 old:∀ b,b < wt.heap.size→b≠Bm→w.heap[b]? = wt.heap[b]?
 ge:wt.heap.size≤w.heap.size
 fut:Fut (fun _=>False) w0 w
 mapB:MapAt w Bm es
 e5:a.eval (.tmp 5)=v5
 e6:a.eval (.tmp 6)=v6
 d5:DRow w 85 PPC v5 (.l out)
 b5:∀ b,v5.ownBlock=some b→wt.heap.size≤b
 d6:DRow w 109 PPC v6 (.l (all.map pkU))
 b6:∀ b,v6.ownBlock=some b→wt.heap.size≤b
 sep:∀ b,v5.ownBlock=some b→v6.ownBlock≠some b
section
variable {w0 wt:World} {Bm:Nat} {Zs:Nat→Prop} {vF vL v5 v6:Value} {c z s T Sh M Qc F:U} {L:List U} {n:Nat} {out:List U} {all:List PK} {es:List (PK × Int)} {a a':Act} {w w':World}
theorem BdI.next (H:BdI w0 wt Bm vF vL v5 v6 n out all es a w) (hs:a'.tmps.size=77) (hd:a'.defers=a.defers) (he:∀ t,memB t [1,2,5,6,7,18,19]=true→a'.eval (.tmp t)=a.eval (.tmp t)) (Fw:Fut (fun _=>False) w w') (hm:Bm < w.heap.size):BdI w0 wt Bm vF vL v5 v6 n out all es a' w' where
 size:=hs
 calm:=hd.trans H.calm
 e1:=(he 1 rfl).trans H.e1
 e2:=(he 2 rfl).trans H.e2
 e18:=(he 18 rfl).trans H.e18
 e19:=(he 19 rfl).trans H.e19
 e7:=(he 7 rfl).trans H.e7
 old:=fun b hb hn=>(Fw.block b (by have:=H.ge;omega) id).trans (H.old b hb hn)
 ge:=Nat.le_trans H.ge Fw.size
 fut:=H.fut.trans Fw (fun _ h=>h) (fun _ _ h=>h)
 mapB:=(Fw.block Bm hm id).trans H.mapB
 e5:=(he 5 rfl).trans H.e5
 e6:=(he 6 rfl).trans H.e6
 d5:=H.d5.same fun b hb=>Fw.block b (H.d5.lt hb) id
 b5:=H.b5
 d6:=H.d6.same fun b hb=>Fw.block b (H.d6.lt hb) id
 b6:=H.b6
 sep:=H.sep
theorem bd_read {C:Ctx} (hP:C.P=PR) (hC:C.Ok) (hpan:∀ s σ,¬ C.pan s σ) {id:Nat} {ops:Array Oper} (hdef:ops.toList.all (fun o=>!isDefer o)=true) (hok:opersOk 77 ops.toList=true) (hfr:freeOf ops [1,2,5,6,7,18,19]=true)
  (H:BdI w0 wt Bm vF vL v5 v6 n out all es a w) (S:Bd0 w0 wt Bm Zs vF vL c z s T Sh M Qc F L) {ex:List (Nat × SV)} (hex:∀ p ∈ ex,RepSV w (fun b=>b < w.heap.size) (fun _=>.pointer none) p.2 (a.tmps.getD p.1 undef)) {k:St→Prop} (h:execOps C ops.toList ops.toList ⟨ex,[]⟩ k) :
  (Code.region id ops false).wp PR (fun e a' w'=>e = .normal∧BdI w0 wt Bm vF vL v5 v6 n out all es a' w'∧Fut (fun _=>False) w w'∧(∀ t,(∀ o ∈ ops.toList,o.dst≠some t)→a'.tmps.getD t undef=a.tmps.getD t undef)∧
    ∃ σ' Z' G',k σ'∧Sim PR ⟨w,fun _=>False,fun _=>False,fun b=>b < w.heap.size,false,false,fun _=>.pointer none,a.defers⟩ 77 σ' a' w' Z' G') a w:=by
 rw [← hP]
 refine it_regionS hC hpan hdef hok (G:=fun _=>.pointer none) (Z:=fun b=>b < w.heap.size) H.size (slots_of hex) (fun _ h=>h) (fun _=>rfl) h ?_
 intro σ' a' w' Z' G' hk S' kp
 exact ⟨rfl,H.next S'.size S'.calm (fun t ht=>freeOf_ev hfr kp ht) S'.fut (by have:=S.hi;have:=H.ge;omega),S'.fut,kp,σ',Z',G',hk,S'⟩
theorem r_int {t:Nat} {Z:Nat→Prop} {x:Int} (h:a.eval (.tmp t) = .int .i64 x) (h1:-9223372036854775808≤x) (h2:x≤9223372036854775807):RepSV w Z (fun _=>.pointer none) (vi (.i x)) (a.tmps.getD t undef):=⟨h,h1,h2⟩
theorem BdI.file (H:BdI w0 wt Bm vF vL v5 v6 n out all es a w) (S:Bd0 w0 wt Bm Zs vF vL c z s T Sh M Qc F L):RepSV w (fun b=>b < w.heap.size) (fun _=>.pointer none) (.val (.sl false [.int .u8]) F) (a.tmps.getD 1 undef):=by
 have:RepC w (fun b=>b < w.heap.size) (.sl false [.int .u8]) vF F:=RepC.mono ⟨fun b hb=>by have:=(S.zs b hb).1;have:=H.ge;omega,fun b hb=>H.old b (S.zs b hb).1 (S.zs b hb).2⟩ _ _ _ S.file
 have e:=H.e1
 rw [← e] at this
 exact this
theorem BdI.lines (H:BdI w0 wt Bm vF vL v5 v6 n out all es a w) (S:Bd0 w0 wt Bm Zs vF vL c z s T Sh M Qc F L):RepSV w (fun b=>b < w.heap.size) (fun _=>.pointer none) (vt LNC (.l L)) (a.tmps.getD 18 undef):=by
 have:RepC w (fun b=>b < w.heap.size) (.sl true LNC) vL (.l L):=RepC.mono ⟨fun b hb=>by have:=(S.zs b hb).1;have:=H.ge;omega,fun b hb=>H.old b (S.zs b hb).1 (S.zs b hb).2⟩ _ _ _ S.lines
 have e:=H.e18
 rw [← e] at this
 exact this
theorem BdI.met (H:BdI w0 wt Bm vF vL v5 v6 n out all es a w) (S:Bd0 w0 wt Bm Zs vF vL c z s T Sh M Qc F L):RepSV w (fun b=>b < w.heap.size) (fun _=>.pointer none) (.rptr MTC [c,z,s,T,Sh,M,Qc]) (a.tmps.getD 2 undef):=by
 have hz:=S.zs _ S.zn
 exact ⟨_,0,H.e2,by have:=H.ge;omega,RepCs.mono ⟨fun b hb=>by have:=(S.zs b hb).1;have:=H.ge;omega,fun b hb=>H.old b (S.zs b hb).1 (S.zs b hb).2⟩ MTC _ _ _ (H.old _ hz.1 hz.2) S.meta_⟩
theorem BdI.had (H:BdI w0 wt Bm vF vL v5 v6 n out all es a w) {t:Nat} (ht:a.eval (.tmp t)=v6):RepSV w (fun b=>b < w.heap.size) (fun _=>.pointer none) (vt PPC (.l (all.map pkU))) (a.tmps.getD t undef):=by
 have:RepC w (fun b=>b < w.heap.size) (.sl true PPC) v6 (.l (all.map pkU)):=H.d6.rep fun b hb=>H.d6.lt hb
 rw [← ht] at this
 exact this
theorem BoxAt.slot {lo t:Nat} {cs:List Ct} {us:List U} (h:BoxAt lo cs us w (a.eval (.tmp t))):RepSV w (fun b=>b < w.heap.size) (fun _=>.pointer none) (.rptr cs us) (a.tmps.getD t undef):=by
 have:=h
 obtain ⟨b,h1,h2,h3,h4⟩:=this
 exact h.rep fun b' e=>by rw [h1] at e;cases e;exact h3
theorem BoxAt.cells {lo b:Nat} {k:PK} {v:Value} (h:BoxAt lo PPC [.i k.1,.i k.2] w v) (hv:v = .pointer (some ⟨b,0,none⟩)):w.cell? ⟨b,0,none⟩=some (.int .i64 k.1)∧w.cell? ⟨b,1,none⟩=some (.int .i64 k.2):=by
 obtain ⟨b',h1,h2,h3,⟨x,hx,hx'⟩,⟨y,hy,hy'⟩,_⟩:=h
 rw [hv] at h1
 cases h1
 have ex:x = .int .i64 k.1:=hx'.1
 have ey:y = .int .i64 k.2:=hy'.1
 subst ex ey
 exact ⟨hx,hy⟩
end
theorem line_tails (l:List U):nth (.i 0) l.tail 0=U.at l 1∧nth (.i 0) l.tail.tail 0=U.at l 2∧nth (.i 0) l.tail.tail.tail 0=U.at l 3∧nth (.i 0) l.tail.tail.tail.tail 0=U.at l 4∧nth (.i 0) l.tail.tail.tail.tail.tail 0=U.at l 5∧nth (.i 0) l.tail.tail.tail.tail.tail.tail 0=U.at l 6:=by
 simp [nth_tail]
theorem bd_code:bodyOf Try.f39 = .seq (pieceS bdC [0]) (.seq (pieceS bdC [1,0]) (.seq (pieceS bdC [1,1,0]) (.seq (pieceS bdC [1,1,1,0]) (.seq (.seq (.region (regId (pieceS bdC [1,1,1,1,0,0])) bd4 false) (.block 0 (.loop (.seq (.region (regId (pieceS bdC [1,1,1,1,0,1,0,0,0])) bd5 false) (.seq (.cond (.tmp 21) (.skip) (.exit 0)) (.seq (.block 1 (.seq (.region (regId (pieceS bdC [1,1,1,1,0,1,0,0,1,1,0,0,0])) bd6 false) (.scope (.seq (.region (regId (pieceS bdS [0])) bd7 false) (.seq (.region (regId (pieceS bdS [1,0])) bd8 false) (.seq (.region (regId (pieceS bdS [1,1,0])) bd9 false) (.seq (.label 0) (.seq (.seq (.region (regId (pieceS bdS [1,1,1,1,0,0])) bd10 false) (.block 2 (.loop (.seq (.region (regId (pieceS bdS [1,1,1,1,0,1,0,0,0])) bd11 false) (.seq (.cond (.tmp 45) (.skip) (.exit 2)) (.seq (.block 3 (.seq (.region (regId (pieceS bdS [1,1,1,1,0,1,0,0,1,1,0,0,0])) bd12 false) (.seq (.region (regId (pieceS bdS [1,1,1,1,0,1,0,0,1,1,0,0,1,0])) bd13 false) (.cond (.tmp 50) (.seq (.region (regId (pieceS bdS [1,1,1,1,0,1,0,0,1,1,0,0,1,1,0,0])) bd14 false) (.exit 2)) (.skip))))) (.region (regId (pieceS bdS [1,1,1,1,0,1,0,0,1,1,1])) bd15 false))))))) (.seq (.seq (.region (regId (pieceS bdS [1,1,1,1,1,0,0])) bd16 false) (.cond (.tmp 52) (.seq (.region (regId (pieceS bdS [1,1,1,1,1,0,1,0,0])) bd17 false) (.exit 1)) (.skip))) (.seq (.region (regId (pieceS bdS [1,1,1,1,1,1,0])) bd18 true) (.seq (pieceS bdS [1,1,1,1,1,1,1,0]) (.cond (.tmp 70) (.region (regId (pieceS bdS [1,1,1,1,1,1,1,1,0])) bd20 false) (.skip))))))))))))) (.region (regId (pieceS bdC [1,1,1,1,0,1,0,0,1,1,1])) bd21 false))))))) (.seq (pieceS bdC [1,1,1,1,1,0]) (.ret)))))):=by kernel_rfl
theorem any_take {α:Type} {p:α→Bool} {l:List α} {k:Nat} (hk:k < l.length):(l.take (k + 1)).any p=((l.take k).any p || p l[k]):=by
 rw [List.take_add_one,List.getElem?_eq_getElem hk,List.any_append]
 simp
section
variable {w0 wt:World} {Bm:Nat} {Zs:Nat→Prop} {vF vL v5 v6:Value} {c z s T Sh M Qc F:U} {L:List U} {n:Nat} {out:List U} {all:List PK} {es:List (PK × Int)} {a:Act} {w:World}
theorem bd_inner (H:BdI w0 wt Bm vF vL v5 v6 n out all es a w) (S:Bd0 w0 wt Bm Zs vF vL c z s T Sh M Qc F L) {t:PK} {lo:Nat} (B:BoxAt lo PPC [.i t.1,.i t.2] w (a.eval (.tmp 10))) {s0:Bool} (h13:a.eval (.tmp 13) = .bool s0) (hlen:all.length≤1073741824) :
  (Code.seq (.region (regId (pieceS bdS [1,1,1,1,0,0])) bd10 false) (.block 2 (.loop (.seq (.region (regId (pieceS bdS [1,1,1,1,0,1,0,0,0])) bd11 false) (.seq (.cond (.tmp 45) (.skip) (.exit 2)) (.seq (.block 3 (.seq (.region (regId (pieceS bdS [1,1,1,1,0,1,0,0,1,1,0,0,0])) bd12 false) (.seq (.region (regId (pieceS bdS [1,1,1,1,0,1,0,0,1,1,0,0,1,0])) bd13 false) (.cond (.tmp 50) (.seq (.region (regId (pieceS bdS [1,1,1,1,0,1,0,0,1,1,0,0,1,1,0,0])) bd14 false) (.exit 2)) (.skip))))) (.region (regId (pieceS bdS [1,1,1,1,0,1,0,0,1,1,1])) bd15 false))))))).wp PR (fun e a' w'=>e = .normal∧BdI w0 wt Bm vF vL v5 v6 n out all es a' w'∧Fut (fun _=>False) w w'∧a'.eval (.tmp 9)=a.eval (.tmp 9)∧a'.eval (.tmp 10)=a.eval (.tmp 10)∧a'.eval (.tmp 20)=a.eval (.tmp 20)∧
    a'.eval (.tmp 13) = .bool (s0 || all.any (meetP t))) a w:=by
 refine wp_seq (wp_mono (bd_read (C:=KW) (ex:=[(6,vt PPC (.l (all.map pkU)))]) (k:=fun σ=>get σ.env 44=vi (.i 0)∧get σ.env 43=vi (.i (all.length:Int))∧get σ.env 42=vt PPC (.l (all.map pkU))) rfl KW_ok (fun _ _ h=>h) (by kernel_rfl) (by kernel_rfl) (by kernel_rfl) H S (fun p hp=>?_) ?_) ?_)
 ·have hp:p=(6,vt PPC (.l (all.map pkU))):=by simpa using hp
  subst hp
  exact H.had H.e6
 ·rw [bd10_tree]
  exact ⟨rfl,by show vi (.i ((all.map pkU).length:Int))=_;rw [List.length_map],rfl⟩
 rintro ex a1 w1 ⟨rfl,H1,F1,q1,σ,Z',G',⟨k1,k2,k3⟩,S'⟩
 have r44:=S'.slot 44
 have r43:=S'.slot 43
 have r42:=S'.slot 42
 rw [k1] at r44
 rw [k2] at r43
 rw [k3] at r42
 have r42:RepC w1 (fun b=>b < w1.heap.size) (.sl true PPC) (a1.eval (.tmp 42)) (.l (all.map pkU)):=RepC.mono ⟨S'.lt,fun _ _=>rfl⟩ _ _ _ r42
 obtain ⟨Qp,hQp⟩:∃ Qp:Exit→Act→World→Prop,Qp=fun e a' w'=>e = .normal∧BdI w0 wt Bm vF vL v5 v6 n out all es a' w'∧Fut (fun _=>False) w w'∧a'.eval (.tmp 9)=a.eval (.tmp 9)∧a'.eval (.tmp 10)=a.eval (.tmp 10)∧a'.eval (.tmp 20)=a.eval (.tmp 20)∧
   a'.eval (.tmp 13) = .bool (s0 || all.any (meetP t)):=⟨_,rfl⟩
 refine wp_mono (Q:=Qp) ?_ (fun e a w h=>by rw [hQp] at h;exact h)
 refine wp_block (wp_loop_rounds (all.length + 1) ?_)
 have key:∀ (f k:Nat) (a2:Act) (w2:World),k + f=all.length→BdI w0 wt Bm vF vL v5 v6 n out all es a2 w2→Fut (fun _=>False) w w2→a2.eval (.tmp 9)=a.eval (.tmp 9)→a2.eval (.tmp 10)=a.eval (.tmp 10)→a2.eval (.tmp 20)=a.eval (.tmp 20)→a2.eval (.tmp 13) = .bool s0→a2.eval (.tmp 44) = .int .i64 (k:Int)→a2.eval (.tmp 43) = .int .i64 (all.length:Int)→
   RepC w2 (fun b=>b < w2.heap.size) (.sl true PPC) (a2.eval (.tmp 42)) (.l (all.map pkU))→(all.take k).any (meetP t)=false→
   Code.rounds PR (.seq (.region (regId (pieceS bdS [1,1,1,1,0,1,0,0,0])) bd11 false) (.seq (.cond (.tmp 45) (.skip) (.exit 2)) (.seq (.block 3 (.seq (.region (regId (pieceS bdS [1,1,1,1,0,1,0,0,1,1,0,0,0])) bd12 false) (.seq (.region (regId (pieceS bdS [1,1,1,1,0,1,0,0,1,1,0,0,1,0])) bd13 false) (.cond (.tmp 50) (.seq (.region (regId (pieceS bdS [1,1,1,1,0,1,0,0,1,1,0,0,1,1,0,0])) bd14 false) (.exit 2)) (.skip))))) (.region (regId (pieceS bdS [1,1,1,1,0,1,0,0,1,1,1])) bd15 false)))) (Exit.inBlock 2 Qp) (f + 1) a2 w2:=by
  intro f
  induction f with
  | zero=>
   intro k a2 w2 hk H2 F2 e9 e10 e20 e13 e44 e43 R42 hany
   have hk:k=all.length:=by omega
   subst hk
   rw [rounds_succ]
   refine wp_seq (wp_mono (bd_read (C:=KW) (ex:=[(44,vi (.i (all.length:Int))),(43,vi (.i (all.length:Int)))]) (k:=fun σ=>get σ.env 45=vb (.b false)) rfl KW_ok (fun _ _ h=>h) (by kernel_rfl) (by kernel_rfl) (by kernel_rfl) H2 S (fun p hp=>?_) ?_) ?_)
   ·rcases List.mem_cons.1 hp with rfl | hp
    ·exact r_int e44 (by omega) (by omega)
    ·have hp:p=(43,vi (.i (all.length:Int))):=by simpa using hp
     subst hp
     exact r_int e43 (by omega) (by omega)
   ·rw [bd11_tree]
    show vb (.b (decide ((all.length:Int) < (all.length:Int))))=_
    rw [decide_eq_false (by omega)]
   rintro ex a3 w3 ⟨rfl,H3,F3,q3,σ,Z',G',hk',S'⟩
   have r45:=S'.slot 45
   rw [hk'] at r45
   have r45:a3.eval (.tmp 45) = .bool false:=r45
   have kp:∀ t,memB t [9,10,13,20]=true→a3.eval (.tmp t)=a2.eval (.tmp t):=fun t ht=>freeOf_ev (l:=[9,10,13,20]) (by kernel_rfl) q3 ht
   refine wp_seq (wp_cond_split r45 (fun ht=>by cases ht) (fun _=>wp_exit ?_))
   show Exit.inBlock 2 Qp (.exit 2) a3 w3
   refine inBlock_exit ?_
   rw [hQp]
   refine ⟨rfl,H3,F2.trans F3 (fun _ h=>h) (fun _ _ h=>h),(kp 9 rfl).trans e9,(kp 10 rfl).trans e10,(kp 20 rfl).trans e20,?_⟩
   rw [List.take_length] at hany
   rw [hany,Bool.or_false]
   exact (kp 13 rfl).trans e13
  | succ f ih=>
   intro k a2 w2 hk H2 F2 e9 e10 e20 e13 e44 e43 R42 hany
   have hkl:k < all.length:=by omega
   rw [rounds_succ]
   refine wp_seq (wp_mono (bd_read (C:=KW) (ex:=[(44,vi (.i (k:Int))),(43,vi (.i (all.length:Int)))]) (k:=fun σ=>get σ.env 45=vb (.b true)) rfl KW_ok (fun _ _ h=>h) (by kernel_rfl) (by kernel_rfl) (by kernel_rfl) H2 S (fun p hp=>?_) ?_) ?_)
   ·rcases List.mem_cons.1 hp with rfl | hp
    ·exact r_int e44 (by omega) (by omega)
    ·have hp:p=(43,vi (.i (all.length:Int))):=by simpa using hp
     subst hp
     exact r_int e43 (by omega) (by omega)
   ·rw [bd11_tree]
    show vb (.b (decide ((k:Int) < (all.length:Int))))=_
    rw [decide_eq_true (by omega)]
   rintro ex a3 w3 ⟨rfl,H3,F3,q3,σ,Z',G',hk',S'⟩
   have r45:=S'.slot 45
   rw [hk'] at r45
   have r45:a3.eval (.tmp 45) = .bool true:=r45
   have kp:∀ t,memB t [9,10,13,20,42,43,44]=true→a3.eval (.tmp t)=a2.eval (.tmp t):=fun t ht=>freeOf_ev (l:=[9,10,13,20,42,43,44]) (by kernel_rfl) q3 ht
   have F03:=F2.trans F3 (N:=fun _=>False) (fun _ h=>h) (fun _ _ h=>h)
   have R3:RepC w3 (fun b=>b < w3.heap.size) (.sl true PPC) (a3.eval (.tmp 42)) (.l (all.map pkU)):=by
    rw [kp 42 rfl]
    exact RepC.mono ⟨fun b hb=>Nat.lt_of_lt_of_le hb F3.size,fun b hb=>F3.block b hb id⟩ _ _ _ R42
   have e9:=(kp 9 rfl).trans e9
   have e10:=(kp 10 rfl).trans e10
   have e20:=(kp 20 rfl).trans e20
   have e13:=(kp 13 rfl).trans e13
   have e44:=(kp 44 rfl).trans e44
   have e43:=(kp 43 rfl).trans e43
   clear S' hk' r45 q3 R42 kp H2
   refine wp_seq (wp_cond_split (t:=true) (by assumption) (fun _=>wp_skip ?_) (fun h=>by cases h))
   refine wp_seq (wp_block (wp_seq (wp_mono (bd_read (C:=KW) (ex:=[(44,vi (.i (k:Int))),(42,vt PPC (.l (all.map pkU)))]) (k:=fun σ=>get σ.env 15 = .ptr 1920 0∧getO σ.objs 1920=some (.box (vals PPC [.i all[k].1,.i all[k].2]))) rfl KW_ok (fun _ _ h=>h) (by kernel_rfl) (by kernel_rfl) (by kernel_rfl) H3 S (fun p hp=>?_) ?_) ?_)))
   ·rcases List.mem_cons.1 hp with rfl | hp
    ·exact r_int e44 (by omega) (by omega)
    ·have hp:p=(42,vt PPC (.l (all.map pkU))):=by simpa using hp
     subst hp
     exact R3
   ·rw [bd12_tree]
    have hl:((U.l (all.map pkU)).list.length:Int)=(all.length:Int):=by show ((all.map pkU).length:Int)=_;rw [List.length_map]
    rw [hl]
    have hc:decide ((0:Int)≤(U.i (k:Int)).int∧(U.i (k:Int)).int < (all.length:Int))=true:=decide_eq_true ⟨by show (0:Int)≤(k:Int);omega,by show (k:Int) < _;omega⟩
    rw [hc,cond_true]
    have hu:nth (.i 0) (U.l (all.map pkU)).list (Int.toNat (U.i (k:Int)).int)=pkU all[k]:=by
     show U.at (all.map pkU) k=_
     rw [at_get (by rw [List.length_map];exact hkl),List.getElem_map]
    rw [hu]
    exact ⟨rfl,rfl⟩
   rintro ex a4 w4 ⟨rfl,H4,F4,q4,σ,Z',G',⟨k1,k2⟩,S'⟩
   have B15:BoxAt w3.heap.size PPC [.i all[k].1,.i all[k].2] w4 (a4.eval (.tmp 15)):=box_out S' (fun _ h=>h) (fun _ h=>h) rfl k1 k2
   have kp:∀ t,memB t [9,10,13,20,42,43,44]=true→a4.eval (.tmp t)=a3.eval (.tmp t):=fun t ht=>freeOf_ev (l:=[9,10,13,20,42,43,44]) (by kernel_rfl) q4 ht
   have F04:=F03.trans F4 (N:=fun _=>False) (fun _ h=>h) (fun _ _ h=>h)
   have R4:RepC w4 (fun b=>b < w4.heap.size) (.sl true PPC) (a4.eval (.tmp 42)) (.l (all.map pkU)):=by
    rw [kp 42 rfl]
    exact RepC.mono ⟨fun b hb=>Nat.lt_of_lt_of_le hb F4.size,fun b hb=>F4.block b hb id⟩ _ _ _ R3
   have e9:=(kp 9 rfl).trans e9
   have e10:=(kp 10 rfl).trans e10
   have e20:=(kp 20 rfl).trans e20
   have e13:=(kp 13 rfl).trans e13
   have e44:=(kp 44 rfl).trans e44
   have e43:=(kp 43 rfl).trans e43
   clear S' k1 k2 q4 R3 kp H3
   have B10:BoxAt lo PPC [.i t.1,.i t.2] w4 (a4.eval (.tmp 10)):=by
    rw [e10];exact B.next F04.size fun b _ hb=>F04.block b hb id
   refine wp_seq (wp_mono (bd_read (C:=KE8) (ex:=[(10,.rptr PPC [.i t.1,.i t.2]),(15,.rptr PPC [.i all[k].1,.i all[k].2])]) (k:=fun σ=>get σ.env 50=vb (.b (meetP t all[k]))) rfl KE8_ok (fun _ _ h=>h) (by kernel_rfl) (by kernel_rfl) (by kernel_rfl) H4 S (fun p hp=>?_) (by rw [bd13_tree];rfl)) ?_)
   ·rcases List.mem_cons.1 hp with rfl | hp
    ·exact B10.slot
    ·have hp:p=(15,.rptr PPC [.i all[k].1,.i all[k].2]):=by simpa using hp
     subst hp
     exact B15.slot
   rintro ex a5 w5 ⟨rfl,H5,F5,q5,σ,Z',G',hk5,S'⟩
   have r50:=S'.slot 50
   rw [hk5] at r50
   have r50:a5.eval (.tmp 50) = .bool (meetP t all[k]):=r50
   have kp:∀ t,memB t [9,10,13,20,42,43,44]=true→a5.eval (.tmp t)=a4.eval (.tmp t):=fun t ht=>freeOf_ev (l:=[9,10,13,20,42,43,44]) (by kernel_rfl) q5 ht
   have F05:=F04.trans F5 (N:=fun _=>False) (fun _ h=>h) (fun _ _ h=>h)
   have R5:RepC w5 (fun b=>b < w5.heap.size) (.sl true PPC) (a5.eval (.tmp 42)) (.l (all.map pkU)):=by
    rw [kp 42 rfl]
    exact RepC.mono ⟨fun b hb=>Nat.lt_of_lt_of_le hb F5.size,fun b hb=>F5.block b hb id⟩ _ _ _ R4
   have e9:=(kp 9 rfl).trans e9
   have e10:=(kp 10 rfl).trans e10
   have e20:=(kp 20 rfl).trans e20
   have e13:=(kp 13 rfl).trans e13
   have e44:=(kp 44 rfl).trans e44
   have e43:=(kp 43 rfl).trans e43
   clear S' hk5 q5 R4 kp H4 B15
   refine wp_cond_split r50 (fun hm=>?_) (fun hm=>wp_skip ?_)
   ·refine wp_seq (wp_mono (bd_read (C:=KW) (ex:=[]) (k:=fun σ=>get σ.env 13=vb (.b true)) rfl KW_ok (fun _ _ h=>h) (by kernel_rfl) (by kernel_rfl) (by kernel_rfl) H5 S (fun p hp=>by cases hp) (by rw [bd14_tree];rfl)) ?_)
    rintro ex a6 w6 ⟨rfl,H6,F6,q6,σ,Z',G',hk6,S'⟩
    have r13:=S'.slot 13
    rw [hk6] at r13
    have r13:a6.eval (.tmp 13) = .bool true:=r13
    have kp:∀ t,memB t [9,10,20]=true→a6.eval (.tmp t)=a5.eval (.tmp t):=fun t ht=>freeOf_ev (l:=[9,10,20]) (by kernel_rfl) q6 ht
    refine wp_exit ?_
    show Exit.inBlock 2 Qp (.exit 2) a6 w6
    refine inBlock_exit ?_
    rw [hQp]
    refine ⟨rfl,H6,F05.trans F6 (fun _ h=>h) (fun _ _ h=>h),(kp 9 rfl).trans e9,(kp 10 rfl).trans e10,(kp 20 rfl).trans e20,?_⟩
    have:all.any (meetP t)=true:=List.any_eq_true.2 ⟨all[k],List.getElem_mem hkl,hm⟩
    rw [this,Bool.or_true]
    exact r13
   ·refine wp_mono (bd_read (C:=KW) (ex:=[(44,vi (.i (k:Int)))]) (k:=fun σ=>get σ.env 44=vi (.i ((k + 1:Nat):Int))) rfl KW_ok (fun _ _ h=>h) (by kernel_rfl) (by kernel_rfl) (by kernel_rfl) H5 S (fun p hp=>?_) ?_) ?_
    ·have hp:p=(44,vi (.i (k:Int))):=by simpa using hp
     subst hp
     exact r_int e44 (by omega) (by omega)
    ·rw [bd15_tree]
     have hw:IntKind.i64.wrap ((U.i (k:Int)).int + 1)=((k + 1:Nat):Int):=by
      show IntKind.i64.wrap ((k:Int) + 1)=_
      rw [i64_in (by omega) (by omega)];omega
     rw [hw];rfl
    rintro ex a6 w6 ⟨rfl,H6,F6,q6,σ,Z',G',hk6,S'⟩
    have r44:=S'.slot 44
    rw [hk6] at r44
    have kp:∀ t,memB t [9,10,13,20,42,43]=true→a6.eval (.tmp t)=a5.eval (.tmp t):=fun t ht=>freeOf_ev (l:=[9,10,13,20,42,43]) (by kernel_rfl) q6 ht
    refine ih (k + 1) a6 w6 (by omega) H6 (F05.trans F6 (fun _ h=>h) (fun _ _ h=>h)) ((kp 9 rfl).trans e9) ((kp 10 rfl).trans e10) ((kp 20 rfl).trans e20) ((kp 13 rfl).trans e13) r44.1 ((kp 43 rfl).trans e43) ?_ ?_
    ·rw [kp 42 rfl]
     exact RepC.mono ⟨fun b hb=>Nat.lt_of_lt_of_le hb F6.size,fun b hb=>F6.block b hb id⟩ _ _ _ R5
    ·rw [any_take hkl,hany,hm];rfl
 have kp:∀ t,memB t [9,10,13,20]=true→a1.eval (.tmp t)=a.eval (.tmp t):=fun t ht=>freeOf_ev (l:=[9,10,13,20]) (by kernel_rfl) q1 ht
 exact key all.length 0 a1 w1 (by omega) H1 F1 (kp 9 rfl) (kp 10 rfl) (kp 20 rfl) ((kp 13 rfl).trans h13) r44.1 r43.1 r42 rfl
end
end Go.Mat

namespace Go.Mat
open Go Go.Den Go.Proofs Go.RowKit
set_option maxRecDepth 100000
theorem pHas_put {k q:PK} {v:Int}:∀ {es:List (PK × Int)},pHas q (pPut k v es)=(decide (q=k) || pHas q es)
 | []=>by simp [pPut,pHas]
 | (a,x) :: r=>by
  have e:pPut k v ((a,x) :: r)=bif decide (k=a) then (a,v) :: r else (a,x) :: pPut k v r:=rfl
  rw [e]
  cases hq:decide (k=a) with
  | true=>
   have:=of_decide_eq_true hq
   subst this
   simp [pHas]
  | false=>
   simp only [cond_false,pHas,pHas_put (k:=k) (q:=q) (v:=v) (es:=r)]
   cases decide (q=a)<;>cases decide (q=k)<;>simp
theorem pGet_put {k q:PK} {v:Int} (h:q≠k):∀ {es:List (PK × Int)},pGet q (pPut k v es)=pGet q es
 | []=>by simp [pPut,pGet,h]
 | (a,x) :: r=>by
  have e:pPut k v ((a,x) :: r)=bif decide (k=a) then (a,v) :: r else (a,x) :: pPut k v r:=rfl
  rw [e]
  cases hq:decide (k=a) with
  | true=>
   have:=of_decide_eq_true hq
   subst this
   simp [pGet,h]
  | false=>simp only [cond_false,pGet,pGet_put h (es:=r)]
structure MapInv (es:List (PK × Int)) (all:List PK) (j:Nat):Prop where
 has:∀ k,pHas k es=decide (k ∈ all)
 cnt:∀ k,k ∈ all→1≤pGet k es∧pGet k es≤(j:Int)
 len:all.length≤j
theorem MapInv.get {es:List (PK × Int)} {all:List PK} {j:Nat} (h:MapInv es all j) (k:PK):0≤pGet k es∧pGet k es≤(j:Int)∧(pGet k es=0↔k ∉ all):=by
 by_cases hk:k ∈ all
 ·have:=h.cnt k hk
  exact ⟨by omega,this.2,⟨fun e=>by omega,fun e=>(e hk).elim⟩⟩
 ·have h1:pHas k es=false:=by rw [h.has,decide_eq_false hk]
  have:=(pPos_no h1).2
  exact ⟨by omega,by omega,⟨fun _=>hk,fun _=>this⟩⟩
theorem MapInv.step {es:List (PK × Int)} {all:List PK} {j:Nat} (h:MapInv es all j) (k:PK):MapInv (pPut k (pGet k es + 1) es) (bif decide (k ∈ all) then all else all ++ [k]) (j + 1):=by
 obtain ⟨g0,g1,g2⟩:=h.get k
 have hmem:∀ q,q ∈ (bif decide (k ∈ all) then all else all ++ [k])↔q=k∨q ∈ all:=fun q=>by
  by_cases hk:k ∈ all
  ·rw [decide_eq_true hk,cond_true]
   exact ⟨.inr,fun h=>h.elim (fun e=>e ▸ hk) id⟩
  ·rw [decide_eq_false hk,cond_false]
   simp [or_comm]
 refine ⟨fun q=>?_,fun q hq=>?_,?_⟩
 ·rw [pHas_put,h.has]
  rw [Bool.eq_iff_iff]
  simp [hmem]
 ·by_cases e:q=k
  ·subst e
   have:=(pPut_put (k:=q) (u:=pGet q es + 1) (v:=0) (es:=es)).2.2.2
   rw [this]
   omega
  ·rw [pGet_put e]
   have:=h.cnt q (((hmem q).1 hq).resolve_left e)
   omega
 ·have:=h.len
  by_cases hk:k ∈ all
  ·rw [decide_eq_true hk,cond_true];omega
  ·rw [decide_eq_false hk,cond_false,List.length_append];simp;omega
theorem MapInv.skip {es:List (PK × Int)} {all:List PK} {j:Nat} (h:MapInv es all j):MapInv es all (j + 1):=
 ⟨h.has,fun k hk=>by have:=h.cnt k hk;omega,by have:=h.len;omega⟩
section
variable {w0 wt:World} {Bm:Nat} {Zs:Nat→Prop} {vF vL v5 v6:Value} {c z s T Sh M Qc F:U} {L:List U} {n:Nat} {out:List U} {all:List PK} {es:List (PK × Int)} {a:Act} {w:World}
theorem bd_push {id:Nat} {ops:Array Oper} {t5:Nat} {ty:TypeId} {xs:List U} {u:U} {ex:List (Nat × SV)} (hcs:Cs PR ty=some (true,PPC)) (hdef:ops.toList.all (fun o=>!isDefer o)=true) (hok:opersOk 77 ops.toList=true)
  (hs:a.tmps.size=77) {v5:Value} (h5:a.eval (.tmp t5)=v5) (D:DRow w ty PPC v5 (.l xs)) (hex:∀ p ∈ ex,p.1≠t5∧RepSV w (fun b=>b < w.heap.size∧v5.ownBlock≠some b) (fun i=>if i=2 then v5 else .pointer none) p.2 (a.tmps.getD p.1 undef))
  (h:execOps KW ops.toList ops.toList ⟨(t5,.own 2) :: ex,[(2,.arr ty xs)]⟩ (fun σ=>get σ.env t5 = .own 2∧getO σ.objs 2=some (.arr ty (xs ++ [u])))) :
  (Code.region id ops false).wp PR (fun e a' w'=>e = .normal∧a'.tmps.size=77∧a'.defers=a.defers∧(∀ t,(∀ o ∈ ops.toList,o.dst≠some t)→a'.tmps.getD t undef=a.tmps.getD t undef)∧Fut (fun b=>v5.ownBlock=some b) w w'∧
    ∃ v5',a'.eval (.tmp t5)=v5'∧DRow w' ty PPC v5' (.l (xs ++ [u]))∧∀ b,v5'.ownBlock=some b→v5.ownBlock=some b∨w.heap.size≤b) a w:=by
 obtain ⟨G2,hG2⟩:∃ G2:Nat→Value,G2=fun i=>if i=2 then v5 else .pointer none:=⟨_,rfl⟩
 rw [← hG2] at hex
 have hg2:G2 2=v5:=by rw [hG2];rfl
 have hfl2:∀ id,(G2 id).oneCell' = true:=fun id=>by
  rw [hG2]
  by_cases h:id=2
  ·simp only [h,if_true];exact D.one
  ·simp only [h,if_false];rfl
 obtain ⟨vs,d1,d2⟩:=D
 have hbl:blk (G2 2)=v5.ownBlock:=by rw [hg2];exact blk_own d1
 refine it_regionO KW_ok KW_pan (n:=77) (id:=2) (ty:=ty) (us:=xs) (G:=G2) (Z:=fun b=>b < w.heap.size∧v5.ownBlock≠some b) hdef hok hs (slots_of fun p hp=>?_) (fun _ h=>h.1) hfl2 ?_ (fun b hb hz=>?_) h ?_
 ·rcases List.mem_cons.1 hp with rfl | hp
  ·show a.eval (.tmp t5)=G2 2
   rw [hg2];exact h5
  ·exact (hex p hp).2
 ·exact ⟨true,PPC,vs,hcs,by rw [hg2];exact d1,RepElems.scal rfl d2⟩
 ·rw [hbl] at hb;exact hz.2 hb
 rintro σ' a' w' Z' G' ⟨k1,k2⟩ S' kp
 obtain ⟨m2,cs2,vs',g1,g2,g3⟩:=S'.obj 2 _ k2
 have g1:Cs PR ty=some (m2,cs2):=g1
 rw [hcs] at g1
 cases g1
 have r5:=S'.slot t5
 rw [k1] at r5
 have r5:a'.eval (.tmp t5)=G' 2:=r5
 have Fw:Fut (fun b=>blk (G2 2)=some b) w w':=S'.fut
 rw [hbl] at Fw
 refine ⟨rfl,S'.size,S'.calm,kp,Fw,_,r5,⟨vs',g2,RepElems.scal rfl g3⟩,fun b hb=>?_⟩
 rcases (S'.free 2 _ b k2 (by rw [blk_own g2];exact hb)).2 with h | h | h
 ·have h:blk (G2 2)=some b:=h
  rw [hbl] at h
  exact .inl h
 ·exact h.elim
 ·exact .inr h
theorem bd_round (H:BdI w0 wt Bm vF vL v5 v6 n out all es a w) (S:Bd0 w0 wt Bm Zs vF vL c z s T Sh M Qc F L) {j:Nat} (hj:j < L.length) (hL:L.length≤536870912) (I:MapInv es all j) (ho:out.length≤j) (h20:a.eval (.tmp 20) = .int .i64 (j:Int)) :
  (.block 1 (.seq (.region (regId (pieceS bdC [1,1,1,1,0,1,0,0,1,1,0,0,0])) bd6 false) (.scope (.seq (.region (regId (pieceS bdS [0])) bd7 false) (.seq (.region (regId (pieceS bdS [1,0])) bd8 false) (.seq (.region (regId (pieceS bdS [1,1,0])) bd9 false) (.seq (.label 0) (.seq (.seq (.region (regId (pieceS bdS [1,1,1,1,0,0])) bd10 false) (.block 2 (.loop (.seq (.region (regId (pieceS bdS [1,1,1,1,0,1,0,0,0])) bd11 false) (.seq (.cond (.tmp 45) (.skip) (.exit 2)) (.seq (.block 3 (.seq (.region (regId (pieceS bdS [1,1,1,1,0,1,0,0,1,1,0,0,0])) bd12 false) (.seq (.region (regId (pieceS bdS [1,1,1,1,0,1,0,0,1,1,0,0,1,0])) bd13 false) (.cond (.tmp 50) (.seq (.region (regId (pieceS bdS [1,1,1,1,0,1,0,0,1,1,0,0,1,1,0,0])) bd14 false) (.exit 2)) (.skip))))) (.region (regId (pieceS bdS [1,1,1,1,0,1,0,0,1,1,1])) bd15 false))))))) (.seq (.seq (.region (regId (pieceS bdS [1,1,1,1,1,0,0])) bd16 false) (.cond (.tmp 52) (.seq (.region (regId (pieceS bdS [1,1,1,1,1,0,1,0,0])) bd17 false) (.exit 1)) (.skip))) (.seq (.region (regId (pieceS bdS [1,1,1,1,1,1,0])) bd18 true) (.seq (pieceS bdS [1,1,1,1,1,1,1,0]) (.cond (.tmp 70) (.region (regId (pieceS bdS [1,1,1,1,1,1,1,1,0])) bd20 false) (.skip)))))))))))):Code).wp PR (fun e a' w'=>e = .normal∧a'.eval (.tmp 20) = .int .i64 (j:Int)∧∃ es' v5' v6',BdI w0 wt Bm vF vL v5' v6' n (badStep F.list c.int (out,all) (U.at L j)).1 (badStep F.list c.int (out,all) (U.at L j)).2 es' a' w'∧MapInv es' (badStep F.list c.int (out,all) (U.at L j)).2 (j + 1)∧(badStep F.list c.int (out,all) (U.at L j)).1.length≤j + 1) a w:=by
 obtain ⟨Qp,hQp⟩:∃ Qp:Exit→Act→World→Prop,Qp=fun e a' w'=>e = .normal∧a'.eval (.tmp 20) = .int .i64 (j:Int)∧∃ es' v5' v6',BdI w0 wt Bm vF vL v5' v6' n (badStep F.list c.int (out,all) (U.at L j)).1 (badStep F.list c.int (out,all) (U.at L j)).2 es' a' w'∧MapInv es' (badStep F.list c.int (out,all) (U.at L j)).2 (j + 1)∧(badStep F.list c.int (out,all) (U.at L j)).1.length≤j + 1:=⟨_,rfl⟩
 rw [← hQp]
 generalize hl:U.at L j=l at hQp
 have hwt:=S.hi
 have hge:=H.ge
 have lt5:∀ b,v5.ownBlock=some b→b < w.heap.size:=fun b hb=>H.d5.lt hb
 have lt6:∀ b,v6.ownBlock=some b→b < w.heap.size:=fun b hb=>H.d6.lt hb
 refine wp_block (wp_seq (wp_mono (bd_read (C:=KW) (ex:=[(20,vi (.i (j:Int))),(18,vt LNC (.l L))]) (k:=fun σ=>get σ.env 9 = .ptr 1152 0∧getO σ.objs 1152=some (.box (vals LNC [nth (.i 0) l.list 0,nth (.i 0) l.list.tail 0,nth (.i 0) l.list.tail.tail 0,nth (.i 0) l.list.tail.tail.tail 0,nth (.i 0) l.list.tail.tail.tail.tail 0,nth (.i 0) l.list.tail.tail.tail.tail.tail 0,nth (.i 0) l.list.tail.tail.tail.tail.tail.tail 0]))) rfl KW_ok (fun _ _ h=>h) (by kernel_rfl) (by kernel_rfl) (by kernel_rfl) H S (fun p hp=>?_) ?_) ?_))
 ·rcases List.mem_cons.1 hp with rfl | hp
  ·exact r_int h20 (by omega) (by omega)
  ·have hp:p=(18,vt LNC (.l L)):=by simpa using hp
   subst hp
   exact H.lines S
 ·rw [bd6_tree]
  have hc:decide ((0:Int)≤(U.i (j:Int)).int∧(U.i (j:Int)).int < ((U.l L).list.length:Int))=true:=decide_eq_true ⟨by show (0:Int)≤(j:Int);omega,by show (j:Int) < (L.length:Int);omega⟩
  rw [hc,cond_true]
  have hu:nth (.i 0) (U.l L).list (Int.toNat (U.i (j:Int)).int)=l:=hl
  rw [hu]
  exact ⟨rfl,rfl⟩
 rintro ex a1 w1 ⟨rfl,H1,F1,q1,σ,Z',G',⟨k1,k2⟩,S'⟩
 have B9:BoxAt w.heap.size LNC _ w1 (a1.eval (.tmp 9)):=box_out S' (fun _ h=>h) (fun _ h=>h) rfl k1 k2
 obtain ⟨y1,y2,y3,y4,y5,y6⟩:=line_tails l.list
 rw [y1,y2,y3,y4,y5,y6] at B9
 have h20:=(freeOf_ev (l:=[20]) (by kernel_rfl) q1 rfl).trans h20
 have hsz1:=F1.size
 clear S' k1 k2 q1 y1 y2 y3 y4 y5 y6 F1
 refine wp_scope_straight ?_
 refine wp_seq (wp_mono (bd_read (C:=KW) (ex:=[(9,.rptr LNC [lnU l 0,lnU l 1,lnU l 2,lnU l 3,lnU l 4,lnU l 5,lnU l 6])]) (k:=fun σ=>get σ.env 10 = .ptr 1280 0∧getO σ.objs 1280=some (.box (vals PPC [lnU l 3,lnU l 4]))) rfl KW_ok (fun _ _ h=>h) (by kernel_rfl) (by kernel_rfl) (by kernel_rfl) H1 S (fun p hp=>?_) (by rw [bd7_tree];exact ⟨rfl,rfl⟩)) ?_)
 ·have hp:p=(9,.rptr LNC [lnU l 0,lnU l 1,lnU l 2,lnU l 3,lnU l 4,lnU l 5,lnU l 6]):=by simpa using hp
  subst hp
  exact B9.slot
 rintro ex a2 w2 ⟨rfl,H2,F2,q2,σ,Z',G',⟨k1,k2⟩,S'⟩
 have B10:BoxAt w1.heap.size PPC [lnU l 3,lnU l 4] w2 (a2.eval (.tmp 10)):=box_out S' (fun _ h=>h) (fun _ h=>h) rfl k1 k2
 have B10:BoxAt w1.heap.size PPC [.i (pkOf l).1,.i (pkOf l).2] w2 (a2.eval (.tmp 10)):=B10
 have kp:∀ t,memB t [9,20]=true→a2.eval (.tmp t)=a1.eval (.tmp t):=fun t ht=>freeOf_ev (l:=[9,20]) (by kernel_rfl) q2 ht
 have B9:BoxAt w.heap.size LNC [lnU l 0,lnU l 1,lnU l 2,lnU l 3,lnU l 4,lnU l 5,lnU l 6] w2 (a2.eval (.tmp 9)):=by rw [kp 9 rfl];exact B9.next F2.size fun b _ hb=>F2.block b hb id
 have h20:=(kp 20 rfl).trans h20
 have hge1:=H1.ge
 clear S' k1 k2 q2 F2 kp H1
 refine wp_seq (wp_mono (bd_read (C:=KE8) (ex:=[(9,.rptr LNC [lnU l 0,lnU l 1,lnU l 2,lnU l 3,lnU l 4,lnU l 5,lnU l 6]),(1,.val (.sl false [.int .u8]) F),(2,.rptr MTC [c,z,s,T,Sh,M,Qc])]) (k:=fun σ=>get σ.env 12=vi (.i (cbX (lnU l 2).int (lnU l 3).int (lnU l 4).int (lnU l 5).int (lnU l 6).int c.int F.list).1)) rfl KE8_ok (fun _ _ h=>h) (by kernel_rfl) (by kernel_rfl) (by kernel_rfl) H2 S (fun p hp=>?_) (by rw [bd8_tree];rfl)) ?_)
 ·rcases List.mem_cons.1 hp with rfl | hp
  ·exact B9.slot
  ·rcases List.mem_cons.1 hp with rfl | hp
   ·exact H2.file S
   ·have hp:p=(2,.rptr MTC [c,z,s,T,Sh,M,Qc]):=by simpa using hp
    subst hp
    exact H2.met S
 rintro ex a3 w3 ⟨rfl,H3,F3,q3,σ,Z',G',k1,S'⟩
 have r12:=S'.slot 12
 rw [k1] at r12
 obtain ⟨r12,r12b⟩:=(show a3.eval (.tmp 12) = .int .i64 (cbX (lnU l 2).int (lnU l 3).int (lnU l 4).int (lnU l 5).int (lnU l 6).int c.int F.list).1∧_ from r12)
 have kp:∀ t,memB t [9,10,20]=true→a3.eval (.tmp t)=a2.eval (.tmp t):=fun t ht=>freeOf_ev (l:=[9,10,20]) (by kernel_rfl) q3 ht
 have B9:BoxAt w.heap.size LNC [lnU l 0,lnU l 1,lnU l 2,lnU l 3,lnU l 4,lnU l 5,lnU l 6] w3 (a3.eval (.tmp 9)):=by rw [kp 9 rfl];exact B9.next F3.size fun b _ hb=>F3.block b hb id
 have B10:BoxAt w1.heap.size PPC [.i (pkOf l).1,.i (pkOf l).2] w3 (a3.eval (.tmp 10)):=by rw [kp 10 rfl];exact B10.next F3.size fun b _ hb=>F3.block b hb id
 have h20:=(kp 20 rfl).trans h20
 clear S' k1 q3 F3 kp H2
 refine wp_seq (wp_mono (bd_read (C:=KW) (ex:=[(12,.val (.int .i64) (.i (cbX (lnU l 2).int (lnU l 3).int (lnU l 4).int (lnU l 5).int (lnU l 6).int c.int F.list).1))]) (k:=fun σ=>get σ.env 13=vb (.b (wrongB F.list c.int l))) rfl KW_ok (fun _ _ h=>h) (by kernel_rfl) (by kernel_rfl) (by kernel_rfl) H3 S (fun p hp=>?_) (by rw [bd9_tree];rfl)) ?_)
 ·have hp:p=(12,.val (.int .i64) (.i (cbX (lnU l 2).int (lnU l 3).int (lnU l 4).int (lnU l 5).int (lnU l 6).int c.int F.list).1)):=by simpa using hp
  subst hp
  exact ⟨r12,r12b⟩
 rintro ex a4 w4 ⟨rfl,H4,F4,q4,σ,Z',G',k1,S'⟩
 have r13:=S'.slot 13
 rw [k1] at r13
 have r13:a4.eval (.tmp 13) = .bool (wrongB F.list c.int l):=r13
 have kp:∀ t,memB t [9,10,20]=true→a4.eval (.tmp t)=a3.eval (.tmp t):=fun t ht=>freeOf_ev (l:=[9,10,20]) (by kernel_rfl) q4 ht
 have B9:BoxAt w.heap.size LNC [lnU l 0,lnU l 1,lnU l 2,lnU l 3,lnU l 4,lnU l 5,lnU l 6] w4 (a4.eval (.tmp 9)):=by rw [kp 9 rfl];exact B9.next F4.size fun b _ hb=>F4.block b hb id
 have B10:BoxAt w1.heap.size PPC [.i (pkOf l).1,.i (pkOf l).2] w4 (a4.eval (.tmp 10)):=by rw [kp 10 rfl];exact B10.next F4.size fun b _ hb=>F4.block b hb id
 have h20:=(kp 20 rfl).trans h20
 clear S' k1 q4 F4 kp H3 r12 r12b
 refine wp_seq (wp_label ?_)
 refine wp_seq (wp_mono (bd_inner H4 S B10 r13 (by have:=I.len;omega)) ?_)
 rintro ex a5 w5 ⟨rfl,H5,F5,x9,x10,x20,x13⟩
 have B9:BoxAt w.heap.size LNC [lnU l 0,lnU l 1,lnU l 2,lnU l 3,lnU l 4,lnU l 5,lnU l 6] w5 (a5.eval (.tmp 9)):=by rw [x9];exact B9.next F5.size fun b _ hb=>F5.block b hb id
 have B10:BoxAt w1.heap.size PPC [.i (pkOf l).1,.i (pkOf l).2] w5 (a5.eval (.tmp 10)):=by rw [x10];exact B10.next F5.size fun b _ hb=>F5.block b hb id
 have h20:=x20.trans h20
 clear x9 x10 x20 H4 r13 F5
 refine wp_seq (wp_seq (wp_mono (bd_read (C:=KW) (ex:=[(13,vb (.b (wrongB F.list c.int l || all.any (meetP (pkOf l)))))]) (k:=fun σ=>get σ.env 52=vb (.b (wrongB F.list c.int l || all.any (meetP (pkOf l))))) rfl KW_ok (fun _ _ h=>h) (by kernel_rfl) (by kernel_rfl) (by kernel_rfl) H5 S (fun p hp=>?_) (by rw [bd16_tree];rfl)) ?_))
 ·have hp:p=(13,vb (.b (wrongB F.list c.int l || all.any (meetP (pkOf l))))):=by simpa using hp
  subst hp
  exact x13
 rintro ex a6 w6 ⟨rfl,H6,F6,q6,σ,Z',G',k1,S'⟩
 have r52:=S'.slot 52
 rw [k1] at r52
 have r52:a6.eval (.tmp 52) = .bool (wrongB F.list c.int l || all.any (meetP (pkOf l))):=r52
 have kp:∀ t,memB t [9,10,20]=true→a6.eval (.tmp t)=a5.eval (.tmp t):=fun t ht=>freeOf_ev (l:=[9,10,20]) (by kernel_rfl) q6 ht
 have B9:BoxAt w.heap.size LNC [lnU l 0,lnU l 1,lnU l 2,lnU l 3,lnU l 4,lnU l 5,lnU l 6] w6 (a6.eval (.tmp 9)):=by rw [kp 9 rfl];exact B9.next F6.size fun b _ hb=>F6.block b hb id
 have B10:BoxAt w1.heap.size PPC [.i (pkOf l).1,.i (pkOf l).2] w6 (a6.eval (.tmp 10)):=by rw [kp 10 rfl];exact B10.next F6.size fun b _ hb=>F6.block b hb id
 have h20:=(kp 20 rfl).trans h20
 clear S' k1 q6 F6 kp H5 x13
 have hge6:=H6.ge
 refine wp_cond_split r52 (fun ht=>?_) (fun hf=>wp_skip ?_)
 ·have hst:badStep F.list c.int (out,all) l=(out ++ [.l [lnU l 0,lnU l 1]],all):=by unfold badStep;rw [ht,cond_true]
  refine wp_seq (wp_mono (bd_push (t5:=5) (ty:=85) (xs:=out) (u:=.l [lnU l 0,lnU l 1]) (ex:=[(9,.rptr LNC [lnU l 0,lnU l 1,lnU l 2,lnU l 3,lnU l 4,lnU l 5,lnU l 6])]) (by kernel_rfl) (by kernel_rfl) (by kernel_rfl) H6.size H6.e5 H6.d5 (fun p hp=>?_) ?_) ?_)
  ·have hp:p=(9,.rptr LNC [lnU l 0,lnU l 1,lnU l 2,lnU l 3,lnU l 4,lnU l 5,lnU l 6]):=by simpa using hp
   subst hp
   refine ⟨by show (9:Nat)≠5;decide,?_⟩
   obtain ⟨b,g1,g2,g3,g4⟩:=B9
   refine ⟨b,0,g1,⟨g3,fun e=>?_⟩,RepCs.mono ⟨fun _ h=>h.elim,fun _ h=>h.elim⟩ LNC _ _ _ rfl g4⟩
   have:=lt5 b e;omega
  ·rw [bd17_tree]
   have:(decide (out.length + 1≤room) && true)=true:=by rw [decide_eq_true (by unfold room;omega)];rfl
   rw [this,cond_true]
   exact ⟨rfl,rfl⟩
  rintro ex a7 w7 ⟨rfl,z7,d7,q7,F7,v5',r5',D7,b7⟩
  refine wp_exit ?_
  show Exit.inBlock 1 Qp (.exit 1) a7 w7
  refine inBlock_exit ?_
  rw [hQp,hst]
  have kp:∀ t,memB t [1,2,6,7,18,19,20]=true→a7.eval (.tmp t)=a6.eval (.tmp t):=fun t ht=>freeOf_ev (l:=[1,2,6,7,18,19,20]) (by kernel_rfl) q7 ht
  refine ⟨rfl,(kp 20 rfl).trans h20,es,v5',v6,?_,I.skip,by simp;omega⟩
  exact
   {size:=z7,calm:=d7.trans H6.calm,e1:=(kp 1 rfl).trans H6.e1,e2:=(kp 2 rfl).trans H6.e2,e18:=(kp 18 rfl).trans H6.e18,e19:=(kp 19 rfl).trans H6.e19,e7:=(kp 7 rfl).trans H6.e7
    old:=fun b hb hn=>(F7.block b (by omega) fun e=>by have:=H6.b5 b e;omega).trans (H6.old b hb hn)
    ge:=Nat.le_trans hge6 F7.size
    fut:=H6.fut.trans F7 (fun _ h=>h) (fun b hb e=>by have:=H6.b5 b e;have:=S.lo;omega)
    mapB:=(F7.block Bm (by omega) fun e=>by have:=H6.b5 Bm e;omega).trans H6.mapB
    e5:=r5'
    e6:=(kp 6 rfl).trans H6.e6
    d5:=D7
    b5:=fun b hb=>(b7 b hb).elim (H6.b5 b) fun h=>by omega
    d6:=H6.d6.same fun b hb=>F7.block b (H6.d6.lt hb) fun e=>H6.sep b e hb
    b6:=H6.b6
    sep:=fun b hb e=>by
     rcases b7 b hb with h | h
     ·exact H6.sep b h e
     ·have:=H6.d6.lt e;omega }
 ·have hst:badStep F.list c.int (out,all) l=(out,bif decide (pkOf l ∈ all) then all else all ++ [pkOf l]):=by unfold badStep;rw [hf,cond_false]
  obtain ⟨g0,g1,g2⟩:=I.get (pkOf l)
  have B10':=B10
  obtain ⟨b,hb,hb1,hb2,_⟩:=B10'
  obtain ⟨c0,c1⟩:=B10.cells hb
  refine wp_seq (wp_mono (bd_r18 H6.size H6.e7 hb c0 c1 H6.mapB ⟨g0,by omega⟩) ?_)
  rintro ex a7 w7 ⟨rfl,M7,z7,d7,low7,F7,hz7⟩
  have hBm:∀ {x:Nat},wt.heap.size≤x→x≠Bm:=fun h e=>by omega
  have H7:BdI w0 wt Bm vF vL v5 v6 n out all (pPut (pkOf l) (pGet (pkOf l) es + 1) es) a7 w7:=
   {size:=z7,calm:=d7.trans H6.calm,e1:=(low7 1 (by decide)).trans H6.e1,e2:=(low7 2 (by decide)).trans H6.e2,e18:=(low7 18 (by decide)).trans H6.e18,e19:=(low7 19 (by decide)).trans H6.e19,e7:=(low7 7 (by decide)).trans H6.e7
    old:=fun b hb hn=>(F7.block b (by omega) hn).trans (H6.old b hb hn)
    ge:=by omega
    fut:=H6.fut.trans F7 (fun _ h=>h) (fun b hb e=>by have:=S.lo;omega)
    mapB:=M7
    e5:=(low7 5 (by decide)).trans H6.e5
    e6:=(low7 6 (by decide)).trans H6.e6
    d5:=H6.d5.same fun b hb=>F7.block b (H6.d5.lt hb) (hBm (H6.b5 b hb))
    b5:=H6.b5
    d6:=H6.d6.same fun b hb=>F7.block b (H6.d6.lt hb) (hBm (H6.b6 b hb))
    b6:=H6.b6
    sep:=H6.sep }
  have hb7:a7.eval (.tmp 10) = .pointer (some ⟨b,0,none⟩):=(low7 10 (by decide)).trans hb
  have B10:BoxAt w1.heap.size PPC [.i (pkOf l).1,.i (pkOf l).2] w7 (a7.eval (.tmp 10)):=by rw [low7 10 (by decide)];exact B10.next F7.size fun x hx hlt=>F7.block x hlt (hBm (by omega))
  obtain ⟨c0,c1⟩:=B10.cells hb7
  have h20:=(low7 20 (by decide)).trans h20
  refine wp_seq (wp_mono (bd_r19 H7.size H7.e7 hb7 c0 c1 H7.mapB) ?_)
  rintro ex a8 w8 ⟨rfl,rfl,z8,d8,low8,r70⟩
  have H8:=H7.next (a':=a8) (w':=w8) z8 d8 (fun t ht=>low8 t (by
   have:∀ l:List Nat,(∀ x ∈ l,x < 67)→memB t l=true→t < 67:=by
    intro l
    induction l with
    | nil=>intro _ h;cases h
    | cons x r ih=>
     intro hx h
     unfold memB at h
     cases e:Nat.beq t x with
     | true=>have:=Nat.eq_of_beq_eq_true e;have:=hx x (List.mem_cons_self ..);omega
     | false=>rw [e] at h;exact ih (fun y hy=>hx y (List.mem_cons_of_mem _ hy)) h
   exact this _ (by decide) ht)) (Fut.refl _ _) (by omega)
  have hgp:pGet (pkOf l) (pPut (pkOf l) (pGet (pkOf l) es + 1) es)=pGet (pkOf l) es + 1:=(pPut_put (v:=0)).2.2.2
  rw [hgp] at r70
  have h20:=(low8 20 (by decide)).trans h20
  have hb8:a8.eval (.tmp 10) = .pointer (some ⟨b,0,none⟩):=(low8 10 (by decide)).trans hb7
  have hmem:(pGet (pkOf l) es + 1 == 1) = !decide (pkOf l ∈ all):=by
   by_cases hm:pkOf l ∈ all
   ·have:pGet (pkOf l) es≠0:=fun e=>(g2.1 e) hm
    rw [decide_eq_true hm]
    simp;omega
   ·rw [decide_eq_false hm,g2.2 hm];rfl
  rw [hmem] at r70
  have I8:=I.step (pkOf l)
  have hge8:=H8.ge
  refine wp_cond_split r70 (fun ht=>?_) (fun hf2=>wp_skip ?_)
  ·have hnm:decide (pkOf l ∈ all)=false:=by simpa using ht
   refine wp_mono (bd_push (t5:=6) (ty:=109) (xs:=all.map pkU) (u:=pkU (pkOf l)) (ex:=[(10,.rptr PPC [.i (pkOf l).1,.i (pkOf l).2])]) (by kernel_rfl) (by kernel_rfl) (by kernel_rfl) H8.size H8.e6 H8.d6 (fun p hp=>?_) ?_) ?_
   ·have hp:p=(10,.rptr PPC [.i (pkOf l).1,.i (pkOf l).2]):=by simpa using hp
    subst hp
    refine ⟨by show (10:Nat)≠6;decide,?_⟩
    obtain ⟨b',g1,g2,g3,g4⟩:=B10
    refine ⟨b',0,by show a8.eval (.tmp 10)=_;rw [low8 10 (by decide)];exact g1,⟨g3,fun e=>?_⟩,RepCs.mono ⟨fun _ h=>h.elim,fun _ h=>h.elim⟩ PPC _ _ _ rfl g4⟩
    have:=lt6 b' e;omega
   ·rw [bd20_tree]
    have:(decide ((all.map pkU).length + 1≤room) && true)=true:=by rw [decide_eq_true (by unfold room;rw [List.length_map];have:=I.len;omega)];rfl
    rw [this,cond_true]
    exact ⟨rfl,rfl⟩
   rintro ex a9 w9 ⟨rfl,z9,d9,q9,F9,v6',r6',D9,b9⟩
   show Qp .normal a9 w9
   rw [hQp,hst,hnm,cond_false]
   rw [hnm,cond_false] at I8
   have kp:∀ t,memB t [1,2,5,7,18,19,20]=true→a9.eval (.tmp t)=a8.eval (.tmp t):=fun t ht=>freeOf_ev (l:=[1,2,5,7,18,19,20]) (by kernel_rfl) q9 ht
   refine ⟨rfl,(kp 20 rfl).trans h20,_,v5,v6',?_,I8,by show out.length≤j + 1;omega⟩
   exact
    {size:=z9,calm:=d9.trans H8.calm,e1:=(kp 1 rfl).trans H8.e1,e2:=(kp 2 rfl).trans H8.e2,e18:=(kp 18 rfl).trans H8.e18,e19:=(kp 19 rfl).trans H8.e19,e7:=(kp 7 rfl).trans H8.e7
     old:=fun b hb hn=>(F9.block b (by omega) fun e=>by have:=H8.b6 b e;omega).trans (H8.old b hb hn)
     ge:=Nat.le_trans hge8 F9.size
     fut:=H8.fut.trans F9 (fun _ h=>h) (fun b hb e=>by have:=H8.b6 b e;have:=S.lo;omega)
     mapB:=(F9.block Bm (by omega) fun e=>by have:=H8.b6 Bm e;omega).trans H8.mapB
     e5:=(kp 5 rfl).trans H8.e5
     e6:=r6'
     d5:=H8.d5.same fun b hb=>F9.block b (H8.d5.lt hb) fun e=>H8.sep b hb e
     b5:=H8.b5
     d6:=by
      have e:(all ++ [pkOf l]).map pkU=all.map pkU ++ [pkU (pkOf l)]:=by simp
      rw [e];exact D9
     b6:=fun b hb=>(b9 b hb).elim (H8.b6 b) fun h=>by omega
     sep:=fun b hb e=>by
      rcases b9 b e with h | h
      ·exact H8.sep b hb h
      ·have:=H8.d5.lt hb;omega }
  ·have hm:decide (pkOf l ∈ all)=true:=by simpa using hf2
   show Qp .normal a8 w8
   rw [hQp,hst,hm,cond_true]
   rw [hm,cond_true] at I8
   exact ⟨rfl,h20,_,_,_,H8,I8,by show out.length≤j + 1;omega⟩
end
end Go.Mat

namespace Go.Mat
open Go Go.Den Go.Proofs Go.RowKit
set_option maxRecDepth 100000
theorem results_tmp {fn:Func} {tmps:Array Value} {x:Nat} {w:World} (hr:fn.results = #[.tmp x]):(results fn tmps).run PR w = .ok (tmps.getD x undef) w:=by
 have h0:(resOf tmps (.tmp x)).run PR w = .ok (tmps.getD x undef) w:=rfl
 rw [results_of,hr,Array.mapM_eq_mapM_toList]
 simp [h0]
theorem bd_0:RegIs (pieceS bdC [0]) [(some 2,.box 41 (.tmp 0)),(some 4,.assign (.const (.slice none 0 0)))]:=⟨regId (pieceS bdC [0]),regOps (pieceS bdC [0]),by kernel_rfl,by kernel_rfl,by kernel_rfl⟩
theorem bd_1:RegIs (pieceS bdC [1,0]) [(some 5,.assign (.const (.slice none 0 0)))]:=⟨regId (pieceS bdC [1,0]),regOps (pieceS bdC [1,0]),by kernel_rfl,by kernel_rfl,by kernel_rfl⟩
theorem bd_2:RegIs (pieceS bdC [1,1,0]) [(some 6,.assign (.const (.slice none 0 0)))]:=⟨regId (pieceS bdC [1,1,0]),regOps (pieceS bdC [1,1,0]),by kernel_rfl,by kernel_rfl,by kernel_rfl⟩
theorem bd_3:RegIs (pieceS bdC [1,1,1,0]) [(some 16,.makeMap 107 none),(some 7,.assign (.tmp 16))]:=⟨regId (pieceS bdC [1,1,1,0]),regOps (pieceS bdC [1,1,1,0]),by kernel_rfl,by kernel_rfl,by kernel_rfl⟩
theorem bd_22:RegIs (pieceS bdC [1,1,1,1,1,0]) [(some 76,.move (.tmp 5)),(some 4,.assign (.tmp 76))]:=⟨regId (pieceS bdC [1,1,1,1,1,0]),regOps (pieceS bdC [1,1,1,1,1,0]),by kernel_rfl,by kernel_rfl,by kernel_rfl⟩
theorem args2 {w:World} {Z:Nat→Prop} {c z s T Sh M Qc F:U} {svs:List SV} {vs:List Value} (hs:unflats PR [41,25] [[c,z,s,T,Sh,M,Qc],[F]]=some svs) (h:RepSVs w Z none_ svs vs) :
  ∃ vs7 vF,vs=[.agg vs7,vF]∧RepL w Z MTC vs7.toList [c,z,s,T,Sh,M,Qc]∧RepC w Z (.sl false [.int .u8]) vF F:=by
 have e:unflats PR [41,25] [[c,z,s,T,Sh,M,Qc],[F]]=some [.agg (vals MTC [c,z,s,T,Sh,M,Qc]),.val (.sl false [.int .u8]) F]:=by kernel_rfl
 rw [e] at hs
 cases hs
 obtain ⟨x1,t1,rfl,⟨a1,rfl,h1⟩,x2,t2,rfl,h2,h3⟩:=h
 have h3:t2=[]:=h3
 subst h3
 exact ⟨a1,x2,rfl,RepSVs.repL h1,h2⟩
theorem makeMap_op {o:Oper} {a:Act} {w:World} {K:Act→World→Prop} {Q:Exit→Act→World→Prop} {t kt vt:TypeId} (hu:PR.underlying t=some (.map kt vt)) (ho:o.op = .makeMap t none) (hk:K (a.put o.dst (.map (some w.heap.size))) (w.alloc (.map #[] 0))):o.wp PR a w K Q:=by
 refine wp_value (v:=.map (some w.heap.size)) (w':=w.alloc (.map #[] 0)) ?_ hk
 simp only [execOp,ho,Instr.makeMap,newObj]
 rfl
theorem bad_ok:SpecFP PR 39 badP badS:=fun fn us hfn hP=>by
 have hf:PR.funcs[(39:Nat)]? = some Try.f39:=by kernel_rfl
 rw [hf] at hfn;cases hfn
 have hb:Try.f39.body=some (bodyOf Try.f39):=by kernel_rfl
 have hnt:Try.f39.ntmps=77:=by kernel_rfl
 have hpar:Try.f39.params.toList=[41,25]:=by kernel_rfl
 have hres:Try.f39.results = #[.tmp 4]:=by kernel_rfl
 have hrt:Try.f39.resultTypes.toList=[82]:=by kernel_rfl
 refine ⟨by rw [hb];rfl,by kernel_rfl,?_⟩
 intro w0 Z vs hZ hsh ⟨svs,hsvs,hrep⟩
 rw [hpar] at hsh hsvs
 obtain ⟨u1,u2,rfl,l1,l2⟩:=shape2 (m:=true) (cs:=MTC) (m2:=false) (cs2:=[.sl false [.int .u8]]) (by kernel_rfl) (by kernel_rfl) hsh
 obtain ⟨c,z,s,T,Sh,M,Qc,rfl⟩:=len7 l1
 obtain ⟨F,rfl⟩:=len1 l2
 obtain ⟨vs7,vF,rfl,h7,hF⟩:=args2 hsvs hrep
 obtain ⟨hE,hLl⟩:=hP
 have hLl:(linesOf (.i (-1)) T.list ++ shotLines 0 Sh.list).length≤536870912:=hLl
 clear hsvs hrep hsh l1 l2
 refine calls_of_wp hf hb ?_
 rw [bd_code,hnt]
 generalize ha0:({ tmps:=[Value.agg vs7,vF].toArray ++ Array.replicate (77 - ([Value.agg vs7,vF].toArray:Array Value).size) undef,defers:=[] }:Act)=a0
 have a0s:a0.tmps.size=77:=by rw [← ha0];simp
 have a00:a0.eval (.tmp 0) = .agg vs7:=by rw [← ha0];simp [Act.eval,Array.getD_eq_getD_getElem?]
 have a01:a0.eval (.tmp 1)=vF:=by rw [← ha0];simp [Act.eval,Array.getD_eq_getD_getElem?]
 have a0d:a0.defers=[]:=by rw [← ha0]
 clear ha0
 refine wp_seq (wp_regIs bd_0 ?_)
 simp only [wpL]
 intro o hd ho
 refine op_box ho ?_
 rw [hd]
 clear hd ho o
 intro o hd ho
 refine op_assign ho ?_
 rw [hd]
 clear hd ho o
 refine wp_seq (wp_regIs bd_1 ?_)
 simp only [wpL]
 intro o hd ho
 refine op_assign ho ?_
 rw [hd]
 clear hd ho o
 refine wp_seq (wp_regIs bd_2 ?_)
 simp only [wpL]
 intro o hd ho
 refine op_assign ho ?_
 rw [hd]
 clear hd ho o
 refine wp_seq (wp_regIs bd_3 ?_)
 simp only [wpL]
 intro o hd ho
 refine makeMap_op pm_ok.map ho ?_
 rw [hd]
 clear hd ho o
 intro o hd ho
 refine op_assign ho ?_
 rw [hd]
 clear hd ho o
 have hc0:(a0.eval (.tmp 0)).cells=vs7:=by rw [a00];rfl
 rw [hc0]
 simp only [ev_const]
 generalize hw1:w0.alloc (.cells vs7 41)=w1
 generalize hw2:w1.alloc (.map #[] 0)=w2
 have s1:w1.heap.size=w0.heap.size + 1:=by rw [← hw1];simp
 have s2:w2.heap.size=w0.heap.size + 2:=by rw [← hw2];simp [s1]
 have p1:w1.heap[w0.heap.size]? = some (.cells vs7 41 (0,0)):=by rw [← hw1];exact heap_alloc_new w0 _
 have p2:w2.heap[w0.heap.size + 1]? = some (.map #[] 0):=by rw [← hw2,← s1];exact heap_alloc_new w1 _
 have o1:∀ b,b < w0.heap.size→w1.heap[b]? = w0.heap[b]?:=fun b hb=>by rw [← hw1];exact heap_alloc_old _ _ hb
 have o2:∀ b,b < w0.heap.size + 1→w2.heap[b]? = w1.heap[b]?:=fun b hb=>by rw [← hw2];exact heap_alloc_old _ _ (by omega)
 have F2:Fut (fun _=>False) w0 w2:=⟨by rw [← hw2,← hw1];rfl,by rw [← hw2,← hw1];rfl,by rw [← hw2,← hw1];rfl,by omega,fun k hk _=>by rw [o2 k (by omega),o1 k hk]⟩
 have hm2:(((((a0.put (some 2) (.pointer (some ⟨w0.heap.size,0,none⟩))).put (some 4) (.slice none 0 0)).put (some 5) (.slice none 0 0)).put (some 6) (.slice none 0 0)).put (some 16) (.map (some w1.heap.size))).eval (.tmp 16) = .map (some w1.heap.size):=ev_hit (by simp only [size_put];omega)
 rw [hm2,s1]
 generalize ha1:((((((a0.put (some 2) (.pointer (some ⟨w0.heap.size,0,none⟩))).put (some 4) (.slice none 0 0)).put (some 5) (.slice none 0 0)).put (some 6) (.slice none 0 0)).put (some 16) (.map (some (w0.heap.size + 1)))).put (some 7) (.map (some (w0.heap.size + 1))))=a1
 have a1s:a1.tmps.size=77:=by rw [← ha1];simp only [size_put];exact a0s
 have a1d:a1.defers=[]:=by rw [← ha1];simp only [defers_put];exact a0d
 have e1:a1.eval (.tmp 1)=vF:=by rw [← ha1];simp (disch:=first | omega | (simp only [size_put];omega)) only [ev_skip,ev_hit,a01]
 have e2:a1.eval (.tmp 2) = .pointer (some ⟨w0.heap.size,0,none⟩):=by rw [← ha1];simp (disch:=first | omega | (simp only [size_put];omega)) only [ev_skip,ev_hit]
 have e5:a1.eval (.tmp 5) = .slice none 0 0:=by rw [← ha1];simp (disch:=first | omega | (simp only [size_put];omega)) only [ev_skip,ev_hit]
 have e6:a1.eval (.tmp 6) = .slice none 0 0:=by rw [← ha1];simp (disch:=first | omega | (simp only [size_put];omega)) only [ev_skip,ev_hit]
 have e7:a1.eval (.tmp 7) = .map (some (w0.heap.size + 1)):=by rw [← ha1];simp (disch:=first | omega | (simp only [size_put];omega)) only [ev_skip,ev_hit]
 clear ha1 hm2 hc0 a00 a01 a0d a0s
 obtain ⟨Z1,hZ1⟩:∃ Z1:Nat→Prop,Z1=fun b=>b < w2.heap.size∧b≠w0.heap.size + 1:=⟨_,rfl⟩
 have hZZ:∀ b,Z b→Z1 b:=fun b hb=>by rw [hZ1];have:=hZ b hb;exact ⟨by omega,by omega⟩
 have St:Stays w0 w2 Z Z1:=⟨hZZ,fun b hb=>F2.block b (hZ b hb) id⟩
 have hN1:Z1 w0.heap.size:=by rw [hZ1];exact ⟨by omega,by omega⟩
 have hmeta:RepCs w2 Z1 MTC w0.heap.size 0 [c,z,s,T,Sh,M,Qc]:=RepL.cells (RepL.mono St h7) fun j u hj=>by
  rw [cell_of_row w2 _ _ vs7 41 (0,0) ((o2 _ (by omega)).trans p1),Nat.zero_add,← hj,Array.getElem?_toList]
 generalize hLd:linesOf (.i (-1)) T.list ++ shotLines 0 Sh.list=L at hLl
 refine wp_seq (wp_seq (it_regionS KE4_ok (fun _ _ h=>h) (n:=77) (G:=fun _=>.pointer none) (Z:=Z1) (env:=[(2,.rptr MTC [c,z,s,T,Sh,M,Qc])]) (k:=fun σ=>get σ.env 18=vt LNC (.l L)∧get σ.env 19=vi (.i (L.length:Int))∧get σ.env 20=vi (.i 0)) (by kernel_rfl) (by kernel_rfl) a1s (slots_of fun p hp=>?_) (fun b hb=>by rw [hZ1] at hb;exact hb.1) (fun _=>rfl) ?_ ?_))
 ·have hp:p=(2,.rptr MTC [c,z,s,T,Sh,M,Qc]):=by simpa using hp
  subst hp
  exact ⟨_,0,e2,hN1,hmeta⟩
 ·rw [bd4_tree,hLd]
  exact ⟨hE,rfl,rfl,rfl⟩
 rintro σ a2 w3 Z2 G2 ⟨k1,k2,k3⟩ S' q2
 have F3:Fut (fun _=>False) w2 w3:=S'.fut
 have r18:=S'.slot 18
 have r19:=S'.slot 19
 have r20:=S'.slot 20
 rw [k1] at r18
 rw [k2] at r19
 rw [k3] at r20
 have hsz3:=F3.size
 have kp:∀ t,memB t [1,2,5,6,7]=true→a2.eval (.tmp t)=a1.eval (.tmp t):=fun t ht=>freeOf_ev (l:=[1,2,5,6,7]) (by kernel_rfl) q2 ht
 have St3:Stays w2 w3 Z1 Z2:=⟨S'.sub,fun b hb=>F3.block b (by rw [hZ1] at hb;exact hb.1) id⟩
 have B0:Bd0 w0 w3 (w0.heap.size + 1) Z2 vF (a2.eval (.tmp 18)) c z s T Sh M Qc F L:=
  {lo:=by omega,hi:=by omega
   zs:=fun b hb=>⟨S'.lt b hb,fun e=>by
    rcases S'.new b hb with h | h | h | h
    ·rw [hZ1] at h;exact h.2 e
    ·exact h
    ·exact h
    ·have h:w2.heap.size≤b:=h;omega⟩
   file:=RepC.mono St3 _ _ _ (RepC.mono St _ _ _ hF)
   lines:=r18
   meta_:=RepCs.mono St3 MTC _ _ _ (F3.block _ (by omega) id) hmeta
   zn:=S'.sub _ hN1 }
 have hI:BdI w0 w3 (w0.heap.size + 1) vF (a2.eval (.tmp 18)) (.slice none 0 0) (.slice none 0 0) L.length [] [] [] a2 w3:=
  {size:=S'.size,calm:=S'.calm.trans a1d,e1:=(kp 1 rfl).trans e1,e2:=(kp 2 rfl).trans e2,e18:=rfl,e19:=r19.1,e7:=(kp 7 rfl).trans e7,old:=fun _ _ _=>rfl,ge:=Nat.le_refl _,fut:=F2.trans F3 (fun _ h=>h) (fun _ _ h=>h)
   mapB:=(F3.block _ (by omega) id).trans p2,e5:=(kp 5 rfl).trans e5,e6:=(kp 6 rfl).trans e6,d5:=DRow.nil _ _ _,b5:=fun b h=>(by cases h),d6:=DRow.nil _ _ _,b6:=fun b h=>(by cases h),sep:=fun b h=>(by cases h) }
 generalize hvL:a2.eval (.tmp 18)=vL at B0 hI
 clear S' q2 kp k1 k2 k3 r18 r19 hmeta St3
 obtain ⟨st,hst⟩:∃ st:Nat→List U × List PK,st=fun j=>(L.take j).foldl (badStep F.list c.int) ([],[]):=⟨_,rfl⟩
 have hstep:∀ j,j < L.length→st (j + 1)=badStep F.list c.int (st j) (U.at L j):=fun j hj=>by
  rw [hst]
  show (L.take (j + 1)).foldl _ _=_
  rw [List.take_add_one,List.getElem?_eq_getElem hj,List.foldl_append,at_get hj]
  rfl
 refine wp_range (t:=20) (fun j a w=>a.eval (.tmp 20) = .int .i64 (j:Nat)∧∃ es v5 v6,BdI w0 w3 (w0.heap.size + 1) vF vL v5 v6 L.length (st j).1 (st j).2 es a w∧MapInv es (st j).2 j∧(st j).1.length≤j)
  (fun j a w=>a.eval (.tmp 20) = .int .i64 (j:Nat)∧∃ es v5 v6,BdI w0 w3 (w0.heap.size + 1) vF vL v5 v6 L.length (st (j + 1)).1 (st (j + 1)).2 es a w∧MapInv es (st (j + 1)).2 (j + 1)∧(st (j + 1)).1.length≤j + 1) L.length (fun j a w h=>h.1) (Nat.zero_le _) ?_ ?_ ?_ ?_ ?_
 ·have h0:st 0=([],[]):=by rw [hst];rfl
  rw [h0]
  exact ⟨r20.1,[],_,_,hI,⟨fun _=>by simp [pHas],fun _ h=>by simp at h,Nat.le_refl _⟩,Nat.le_refl _⟩
 ·rintro j a w hj ⟨h20,es,v5,v6,H,I,hl⟩
  refine wp_mono (bd_read (C:=KW) (ex:=[(20,vi (.i (j:Int))),(19,vi (.i (L.length:Int)))]) (k:=fun σ=>get σ.env 21=vb (.b (decide ((j:Int) < (L.length:Int))))) rfl KW_ok (fun _ _ h=>h) (by kernel_rfl) (by kernel_rfl) (by kernel_rfl) H B0 (fun p hp=>?_) (by rw [bd5_tree];rfl)) ?_
  ·rcases List.mem_cons.1 hp with rfl | hp
   ·exact r_int h20 (by omega) (by omega)
   ·have hp:p=(19,vi (.i (L.length:Int))):=by simpa using hp
    subst hp
    exact r_int H.e19 (by omega) (by omega)
  rintro ex a' w' ⟨rfl,H',F',q',σ,Z',G',hk,S'⟩
  have r21:=S'.slot 21
  rw [hk] at r21
  have r21:a'.eval (.tmp 21) = .bool (decide ((j:Int) < (L.length:Int))):=r21
  refine ⟨rfl,?_,(freeOf_ev (l:=[20]) (by kernel_rfl) q' rfl).trans h20,es,v5,v6,H',I,hl⟩
  rw [r21]
  congr 1
  simp
 ·rintro j a w hj ⟨h20,es,v5,v6,H,I,hl⟩
  have main:=bd_round H B0 hj hLl I hl h20
  rw [← show st (j + 1)=badStep F.list c.int ((st j).1,(st j).2) (U.at L j) from hstep j hj] at main
  exact wp_mono main fun e a' w' ⟨h1,h2,es',v5',v6',h3,h4,h5⟩=>⟨h1,h2,es',v5',v6',h3,h4,h5⟩
 ·rintro j a w hj ⟨h20,es,v5,v6,H,I,hl⟩
  refine wp_mono (bd_read (C:=KW) (ex:=[(20,vi (.i (j:Int)))]) (k:=fun σ=>get σ.env 20=vi (.i ((j + 1:Nat):Int))) rfl KW_ok (fun _ _ h=>h) (by kernel_rfl) (by kernel_rfl) (by kernel_rfl) H B0 (fun p hp=>?_) ?_) ?_
  ·have hp:p=(20,vi (.i (j:Int))):=by simpa using hp
   subst hp
   exact r_int h20 (by omega) (by omega)
  ·rw [bd21_tree]
   have hw:IntKind.i64.wrap ((U.i (j:Int)).int + 1)=((j + 1:Nat):Int):=by
    show IntKind.i64.wrap ((j:Int) + 1)=_
    rw [i64_in (by omega) (by omega)];omega
   rw [hw];rfl
  rintro ex a' w' ⟨rfl,H',F',q',σ,Z',G',hk,S'⟩
  have r20:=S'.slot 20
  rw [hk] at r20
  exact ⟨rfl,r20.1,es,v5,v6,H',I,hl⟩
 ·rintro a w ⟨h20,es,v5,v6,H,I,hl⟩
  have hfin:(st L.length).1=(badL F.list c.int L).1:=by rw [hst];show ((L.take L.length).foldl (badStep F.list c.int) ([],[])).1=_;rw [List.take_length];rfl
  refine wp_seq (wp_regIs bd_22 ?_)
  simp only [wpL]
  intro o hd ho
  refine op_move ho ?_
  rw [hd]
  clear hd ho o
  intro o hd ho
  refine op_assign ho ?_
  rw [hd]
  clear hd ho o
  refine wp_ret ?_
  have hs:=H.size
  have hge:=H.ge
  have e4:((a.put (some 76) (a.eval (.tmp 5))).put (some 4) ((a.put (some 76) (a.eval (.tmp 5))).eval (.tmp 76))).eval (.tmp 4)=v5:=by
   rw [ev_hit (by rw [size_put];omega),ev_hit (by omega)];exact H.e5
  refine ⟨by simp only [defers_put];exact H.calm,_,results_tmp hres,_,fun b=>Z b∨v5.ownBlock=some b,rfl,H.fut,fun b hb=>.inl hb,fun b hb=>?_,fun b hb=>?_,[vt PPC (.l (badL F.list c.int L).1)],?_,?_⟩
  ·rcases hb with hb | hb
   ·exact .inl hb
   ·have:=H.b5 b hb
    exact .inr ⟨by omega,H.d5.plain hb⟩
  ·rcases hb with hb | hb
   ·have:=hZ b hb;omega
   ·exact H.d5.lt hb
  ·rw [hrt]
   show unflats PR [82] [[.l (badL F.list c.int (linesOf (.i (-1)) T.list ++ shotLines 0 Sh.list)).1]]=_
   rw [hLd]
   kernel_rfl
  ·show RepC w _ (.sl true PPC) (((a.put (some 76) (a.eval (.tmp 5))).put (some 4) ((a.put (some 76) (a.eval (.tmp 5))).eval (.tmp 76))).eval (.tmp 4)) _
   rw [e4,← hfin]
   exact H.d5.rep fun b hb=>.inr hb
end Go.Mat

namespace Go.Mat
open Go Go.Den Go.Proofs Go.RowKit
set_option maxRecDepth 100000
def copyS:List (List U)→List (List U):=fun us=>[[.l (nth (.i 0) (nth [] us 0) 0).list]]
theorem copy_spec {f:FuncId} {fn:Func} {us:List (List U)} (hcp:CopyOk f) (hbody:fn.body.isNone=false) (hname:(fn.name == "runtime.NumGoroutine")=false) (hpar:fn.params.toList=[36]) (hrt:fn.resultTypes.toList=[36]) (hP:setP us):FnOk PR f fn us (copyS us):=by
 refine ⟨hbody,hname,?_⟩
 intro w Z vs hZ hsh ⟨svs,hsvs,hrep⟩
 rw [hpar] at hsh hsvs
 obtain ⟨u1,rfl,l1⟩:=shape1 (m:=true) (cs:=[TRC]) (by kernel_rfl) hsh
 obtain ⟨T,rfl⟩:=len1 l1
 have hP:tabP T.list:=hP
 have e:unflats PR [36] [[T]]=some [.agg [.val TRC T]]:=by kernel_rfl
 rw [e] at hsvs
 cases hsvs
 obtain ⟨x1,t1,rfl,⟨a1,rfl,v,t,h1,hv,ht⟩,h2⟩:=hrep
 have ht:t=[]:=ht
 subst ht
 have h2:t1=[]:=h2
 subst h2
 have ha1:a1 = #[v]:=by apply Array.ext';simpa using h1
 subst ha1
 refine (hcp w Z v T hv hZ hP.1 hP.2).mono ?_
 rintro e w' ⟨v',rows,rfl,F,D⟩
 refine ⟨_,fun b=>Z b∨v'.ownBlock=some b∨∃ (j:Nat) (r:Value),rows[j]? = some r∧r.ownBlock=some b,rfl,F,fun b hb=>.inl hb,fun b hb=>?_,fun b hb=>?_,[.agg [.val TRC (.l T.list)]],?_,?_⟩
 ·rcases hb with hb | hb | ⟨j,r,hr,hb⟩
  ·exact .inl hb
  ·exact .inr ⟨D.home b hb,own_plain D.own hb⟩
  ·exact .inr ⟨(D.rowF j r b hr hb).1,(D.row j r hr).plain hb⟩
 ·rcases hb with hb | hb | ⟨j,r,hr,hb⟩
  ·exact Nat.lt_of_lt_of_le (hZ b hb) F.size
  ·exact (D.own.lt b hb).2
  ·exact (D.row j r hr).lt hb
 ·rw [hrt];rfl
 ·exact ⟨#[v'],rfl,v',[],rfl,own_rep (fun _ h=>h) (fun b h=>.inr (.inl (by rw [← blk_own D.own];exact h))) (by rw [← D.len];exact D.own) (D.reps fun j r b hr hb=>.inr (.inr ⟨j,r,hr,hb⟩)),rfl⟩
theorem copied_ok:SpecFP PR 67 setP copyS:=fun fn us hfn hP=>by
 have hf:PR.funcs[(67:Nat)]? = some Try.f67:=by kernel_rfl
 rw [hf] at hfn;cases hfn
 exact copy_spec copied_deep (by kernel_rfl) (by kernel_rfl) (by kernel_rfl) (by kernel_rfl) hP
end Go.Mat

namespace Go.Mat
open Go Go.Den Go.Proofs
def cutP:List (List U)→Prop:=fun us=>setP us∧(nth (.i 0) (nth [] us 1) 0).int=4096
noncomputable def cutLoop:LoopF:=fun _ svs os k=>match svs,os with
 | [.val (.int .i64) n,.ptr p q,.ptr p4 q4],[.box [.val (.sl false [.sl true x1]) T],.box [.own o],.arr t []]=>(n.int=4096∧x1=EC∧p=256∧q=0∧p4=512∧q4=0∧o=514∧t=64)∧k (.exit 0) ⟨[(2,.ptr 256 0),(4,.ptr 512 0)],[(256,.box [.val (.sl false [.sl true EC]) T]),(512,.box [.own 514]),(514,.arr 64 [])]⟩
 | _,_=>False
noncomputable def cutC:Ctx:=mkC PR eqs0 (fnsConsP 67 setP copyS fnsNil) trsNil (loopCons 0 [5,2,4] [256,512,514] cutLoop noLoops) (outCons 0 [2,4] [256,512,514] noOut) noOut
theorem cut_round (pan:KP) (μ:Mu) (N:Nat) (k:KE) (n T:U):(exec (cutC.panics pan) (loopBody Try.f42 0) 0 ⟨[(5,vi n),(2,.ptr 256 0),(4,.ptr 512 0)],[(256,.box [.val TRC T]),(512,.box [.own 514]),(514,.arr 64 [])]⟩ (again PR (some ([2,4],[256,512,514])) none pan [5,2,4] [256,512,514] cutLoop μ N k))=(bif decide (n.int < bif decide ((4096:Int) < IntKind.wrap IntKind.i64 ((↑(List.length T.list):Int) * 8)) then (4096:Int) else IntKind.wrap IntKind.i64 ((↑(List.length T.list):Int) * 8)) then False
 else k (Ex.exit 0) (St.mk [(2,SV.ptr 256 0),(4,SV.ptr 512 0)] [(256,Obj.box [SV.val (Ct.sl false [Ct.sl true EC]) T]),(512,Obj.box [SV.own 514]),(514,Obj.arr 64 [])])):=by kernel_rfl
theorem cut_tree (R:RF) (T n:U):(run cutC Try.f42 [[T],[n]] R)=(((bif decide (n.int < 0) then (0:Int) else n.int)=4096∧EC=EC∧nat_lit 256=nat_lit 256∧nat_lit 0=nat_lit 0∧nat_lit 512=nat_lit 512∧nat_lit 0=nat_lit 0∧nat_lit 514=nat_lit 514
 ∧ nat_lit 64=nat_lit 64)∧setP [[T]]∧R [[U.l T.list]]):=by kernel_rfl
end Go.Mat

namespace Go.Mat
open Go Go.Den Go.Proofs
set_option maxRecDepth 100000
theorem cut_loop:LoopOk cutC 0 (loopBody Try.f42 0):=by
 refine loopOk_of (F:=cutLoop) (ts:=[5,2,4]) (os:=[256,512,514]) rfl (fun _ _=>0) ?_
 intro pan svs os k ho1 ho2 h
 unfold cutLoop at h
 split at h
 ·rename_i n p q p4 q4 x1 T o t
  obtain ⟨⟨hn,rfl,rfl,rfl,rfl,rfl,rfl,rfl⟩,hk⟩:=h
  refine .eq (cut_round pan _ _ k n T) ?_
  refine bd (fun hlt=>?_) (fun _=>hk)
  rw [hn] at hlt
  exfalso
  generalize IntKind.i64.wrap ((T.list.length:Int) * 8)=x at hlt
  cases hx:decide ((4096:Int) < x) with
  | true=>rw [hx,cond_true] at hlt;omega
  | false=>rw [hx,cond_false] at hlt;have:=of_decide_eq_false hx;omega
 ·exact h.elim
theorem cut_ok:SpecFP PR 42 cutP copyS:=fun fn us hfn hP=>by
 have hf:PR.funcs[(42:Nat)]? = some Try.f42:=by kernel_rfl
 rw [hf] at hfn;cases hfn
 refine fn_okH (C:=cutC) (mkC_ok eqs0_ok mixed_ok (.consP copied_ok .nil) .nil) hf (by kernel_rfl) (loops_one (by kernel_rfl) cut_loop) fun hok=>?_
 obtain ⟨u1,u2,rfl,l1,l2⟩:=shape2 (m:=true) (cs:=[TRC]) (m2:=false) (cs2:=[.int .i64]) (by kernel_rfl) (by kernel_rfl) hok.1
 obtain ⟨T,rfl⟩:=len1 l1
 obtain ⟨n,rfl⟩:=len1 l2
 obtain ⟨h1,h2⟩:=hP
 have h2:n.int=4096:=h2
 refine .eq (cut_tree _ T n) ⟨⟨?_,by trivial,by trivial,by trivial,by trivial,by trivial,by trivial,by trivial⟩,h1,rfl⟩
 rw [h2];rfl
end Go.Mat

namespace Go.Mat
open Go Go.Den Go.Proofs
def plS (L i:U):Int:=U.int (nth (.i 0) (U.list (nth (.i 0) L.list (Int.toNat i.int))) 0)
def plC (L i:U):Int:=U.int (nth (.i 0) (List.tail (U.list (nth (.i 0) L.list (Int.toNat i.int)))) 0)
abbrev shT (x:U):U:=nth (.i 0) x.list.tail.tail 0
def shSet (x:U) (T:List U):U:=.l (patchU x.list 2 [.l T])
def woStep (a b d e g:U) (st:List U × List U) (p:U):List U × List U:=
 bif decide ((U.at p.list 0).int < 0) then (setX st.1 (nth (.i 0) p.list.tail 0).int a b d e g,st.2)
 else (st.1,st.2.set (U.at p.list 0).int.toNat (shSet (U.at st.2 (U.at p.list 0).int.toNat) (setX (shT (U.at st.2 (U.at p.list 0).int.toNat)).list (nth (.i 0) p.list.tail 0).int a b d e g)))
def woOf (a b d e g:U) (T X ps:List U):List U × List U:=ps.foldl (woStep a b d e g) (T,X)
def woOk (T X ps:List U):Prop:=(tabP T∧∀ x,x ∈ X→tabP (shT x).list)∧X.length≤1073741824∧∀ p,p ∈ ps→(U.at p.list 0).int < (X.length:Int)
noncomputable def woLoop:LoopF:=fun _ svs os k=>match svs,os with
 | [.val (.int .i64) i,.val (.int .i64) n,.val (.sl true x0) L,.ptr p1 q1,.ptr p2 q2,.ptr p3 q3],[.box [.val (.int .i64) c,.val (.int .i64) z,.val .str s,.val (.sl false [.sl true x1]) T,.own o,.val (.sl true x2) M,.val (.sl false [.int .i64]) Q],.arr t X,.box [.val (.int .i64) a,.val (.int .i64) b,.val (.int .i64) d,.val (.int .i64) e,.val (.int .u32) g],
   .box [.val (.int .i64) r1,.val (.int .i64) r2,.val .str r3,.own o1,.own o2,.own o3,.own o4],.arr t4 [],.arr t3 [],.arr t2 [],.arr t1 []]=>
  ((x0=PPC∧p1=384∧q1=0∧p2=640∧q2=0∧p3=768∧q3=0∧x1=EC∧o=2064∧x2=BC∧t=73)∧(o1=776∧o2=778∧o3=780∧o4=782∧t4=3∧t3=77∧t2=73∧t1=64)∧
    T = .l T.list∧n.int=(L.list.length:Int)∧0≤i.int∧i.int≤n.int∧L.list.length≤1073741824∧woOk T.list X (L.list.drop i.int.toNat))∧
  k (.exit 0) ⟨[(3,.ptr 384 0),(6,.ptr 768 0)],[(384,.box [vi c,vi z,vs s,.val TRC (.l (woOf a b d e g T.list X (L.list.drop i.int.toNat)).1),.own 2064,vt BC M,vl (.int .i64) Q]),(2064,.arr 73 (woOf a b d e g T.list X (L.list.drop i.int.toNat)).2),
   (768,.box [vi r1,vi r2,vs r3,.own 776,.own 778,.own 780,.own 782]),(782,.arr 3 []),(780,.arr 77 []),(778,.arr 73 []),(776,.arr 64 [])]⟩
 | _,_=>False
noncomputable def woC:Ctx:=mkC PR eqs0 (fnsConsP 42 cutP copyS (fnsConsP 64 setP setS fnsNil)) (trsCons 63 [] (cloneF SC 73) trsNil)
 (loopCons 0 [20,19,18,3,5,6] [384,2064,640,768,782,780,778,776] woLoop noLoops) (outCons 0 [3,6] [384,2064,768,782,780,778,776] noOut) noOut
noncomputable def woF:Tr:=fun args objs k=>match args,objs with
 | [.agg [.val (.int .i64) c,.val (.int .i64) z,.val .str s,.val (.sl false [.sl true x1]) T,.val (.sl true x3) Sh,.val (.sl true x2) M,.val (.sl false [.int .i64]) Q],.val (.sl true x0) L,.agg [.val (.int .i64) a,.val (.int .i64) b,.val (.int .i64) d,.val (.int .i64) e,.val (.int .u32) g]],[]=>
  ((x1=EC∧x3=SC∧x2=BC∧x0=PPC)∧L.list.length≤1073741824∧woOk T.list Sh.list L.list)∧
  k (.ret [.agg [vi c,vi z,vs s,.val TRC (.l (woOf a b d e g T.list Sh.list L.list).1),.own 2097152,vt BC M,vl (.int .i64) Q]]) [(2097152,.arr 73 (woOf a b d e g T.list Sh.list L.list).2)]
 | _,_=>False
theorem wo_round (pan:KP) (μ:Mu) (N:Nat) (k:KE) (i n L c z s T M Q a b d e g r1 r2 r3:U) (X:List U):(exec (woC.panics pan) (loopBody Try.f41 0) 0 ⟨[(20,vi i),(19,vi n),(18,vt PPC L),(3,.ptr 384 0),(5,.ptr 640 0),(6,.ptr 768 0)],[(384,.box [vi c,vi z,vs s,.val TRC T,.own 2064,vt BC M,vl (.int .i64) Q]),(2064,.arr 73 X),(640,.box [vi a,vi b,vi d,vi e,.val (.int .u32) g]),(768,.box [vi r1,vi r2,vs r3,.own 776,.own 778,.own 780,.own 782]),(782,.arr 3 []),(780,.arr 77 []),(778,.arr 73 []),(776,.arr 64 [])]⟩ (again PR (some ([3,6],[384,2064,768,782,780,778,776])) none pan [20,19,18,3,5,6] [384,2064,640,768,782,780,778,776] woLoop μ N k))=(bif decide (i.int < n.int) then bif decide ((0:Int)≤i.int∧i.int < (L.list.length:Int)) then bif decide (plS L i < 0) then setP [[T],[nth (U.i 0) (List.tail (U.list (nth (U.i 0) L.list (Int.toNat i.int)))) (0:Nat)],[a,b,d,e,g]]∧bif Nat.blt (μ [vi (U.i (IntKind.wrap .i64 (i.int + 1))),vi n,.val (.sl true PPC) L,.ptr 384 0,.ptr 640 0,.ptr 768 0] [.box [vi c,vi z,.val .str s,.val (.sl false [.sl true EC]) (U.l (setX T.list (plC L i) a b d e g)),.own 2064,.val (.sl true [.str,Ct.bool,Ct.sl true PPC]) M,.val (.sl false [.int .i64]) Q],.arr 73 X,.box [vi a,vi b,vi d,vi e,.val (.int .u32) g],.box [vi r1,vi r2,.val .str r3,.own 776,.own 778,.own 780,.own 782],.arr 3 [],.arr 77 [],.arr 73 [],.arr 64 []]) N then ((PPC=PPC∧nat_lit 384=nat_lit 384∧nat_lit 0=nat_lit 0∧nat_lit 640=nat_lit 640∧nat_lit 0=nat_lit 0∧nat_lit 768=nat_lit 768∧nat_lit 0=nat_lit 0∧EC=EC∧nat_lit 2064=nat_lit 2064∧[Ct.str,Ct.bool,Ct.sl true PPC]=[.str,Ct.bool,Ct.sl true PPC]∧nat_lit 73=nat_lit 73)∧(776=nat_lit 776∧nat_lit 778=nat_lit 778∧nat_lit 780=nat_lit 780∧nat_lit 782=nat_lit 782∧nat_lit 3=nat_lit 3∧nat_lit 77=nat_lit 77∧nat_lit 73=nat_lit 73∧nat_lit 64=nat_lit 64)∧U.l (setX T.list (plC L i) a b d e g)=U.l (setX T.list (plC L i) a b d e g)∧n.int=(L.list.length:Int)∧(0:Int)≤IntKind.wrap .i64 (i.int + 1)∧IntKind.wrap .i64 (i.int + 1)≤n.int∧L.list.length≤(1073741824:Nat)∧woOk (setX T.list (plC L i) a b d e g) X (List.drop (Int.toNat (IntKind.wrap .i64 (i.int + 1))) L.list))∧k (Ex.exit 0) (St.mk [(3,.ptr 384 0),(6,.ptr 768 0)] [(384,.box [vi c,vi z,.val .str s,.val (.sl false [.sl true EC]) (U.l (Prod.fst (woOf a b d e g (setX T.list (plC L i) a b d e g) X (List.drop (Int.toNat (IntKind.wrap .i64 (i.int + 1))) L.list)))),.own 2064,.val (.sl true [.str,Ct.bool,Ct.sl true PPC]) M,.val (.sl false [.int .i64]) Q]),(2064,.arr 73 (Prod.snd (woOf a b d e g (setX T.list (plC L i) a b d e g) X (List.drop (Int.toNat (IntKind.wrap .i64 (i.int + 1))) L.list)))),(768,.box [vi r1,vi r2,.val .str r3,.own 776,.own 778,.own 780,.own 782]),(782,.arr 3 []),(780,.arr 77 []),(778,.arr 73 []),(776,.arr 64 [])]) else False else bif decide ((0:Int)≤plS L i∧plS L i < (X.length:Int)) then Alt (bif Nat.blt (Int.toNat (plS L i)) (List.length X) then (fun T=>Alt T T) (setP [[nth (U.i 0) (List.tail (List.tail (U.list (nth (U.i 0) X (Int.toNat (plS L i)))))) (0:Nat)],[nth (U.i 0) (List.tail (U.list (nth (U.i 0) L.list (Int.toNat i.int)))) (0:Nat)],[a,b,d,e,g]]∧bif Nat.blt (Int.toNat (plS L i)) (List.length X) then bif Nat.blt (μ [vi (U.i (IntKind.wrap .i64 (i.int + 1))),vi n,.val (.sl true PPC) L,.ptr 384 0,.ptr 640 0,.ptr 768 0] [.box [vi c,vi z,.val .str s,.val (.sl false [.sl true EC]) T,.own 2064,.val (.sl true [.str,Ct.bool,Ct.sl true PPC]) M,.val (.sl false [.int .i64]) Q],.arr 73 (List.set X (Int.toNat (plS L i)) (U.l (patchU (U.list (nth (U.i 0) X (Int.toNat (plS L i)))) 2 [U.l (setX (U.list (nth (U.i 0) (List.tail (List.tail (U.list (nth (U.i 0) X (Int.toNat (plS L i)))))) (0:Nat))) (plC L i) a b d e g)]))),.box [vi a,vi b,vi d,vi e,.val (.int .u32) g],.box [vi r1,vi r2,.val .str r3,.own 776,.own 778,.own 780,.own 782],.arr 3 [],.arr 77 [],.arr 73 [],.arr 64 []]) N then ((PPC=PPC∧nat_lit 384=nat_lit 384∧nat_lit 0=nat_lit 0∧nat_lit 640=nat_lit 640∧nat_lit 0=nat_lit 0∧nat_lit 768=nat_lit 768∧nat_lit 0=nat_lit 0∧EC=EC∧nat_lit 2064=nat_lit 2064∧[Ct.str,Ct.bool,Ct.sl true PPC]=[.str,Ct.bool,Ct.sl true PPC]∧nat_lit 73=nat_lit 73)∧(776=nat_lit 776∧nat_lit 778=nat_lit 778∧nat_lit 780=nat_lit 780∧nat_lit 782=nat_lit 782∧nat_lit 3=nat_lit 3∧nat_lit 77=nat_lit 77∧nat_lit 73=nat_lit 73∧nat_lit 64=nat_lit 64)∧T=U.l T.list∧n.int=(L.list.length:Int)∧(0:Int)≤IntKind.wrap .i64 (i.int + 1)∧IntKind.wrap .i64 (i.int + 1)≤n.int∧L.list.length≤(1073741824:Nat)∧woOk T.list (List.set X (Int.toNat (plS L i)) (U.l (patchU (U.list (nth (U.i 0) X (Int.toNat (plS L i)))) 2 [U.l (setX (U.list (nth (U.i 0) (List.tail (List.tail (U.list (nth (U.i 0) X (Int.toNat (plS L i)))))) (0:Nat))) (plC L i) a b d e g)]))) (List.drop (Int.toNat (IntKind.wrap .i64 (i.int + 1))) L.list))∧k (Ex.exit 0) (St.mk [(3,.ptr 384 0),(6,.ptr 768 0)] [(384,.box [vi c,vi z,.val .str s,.val (.sl false [.sl true EC]) (U.l (Prod.fst (woOf a b d e g T.list (List.set X (Int.toNat (plS L i)) (U.l (patchU (U.list (nth (U.i 0) X (Int.toNat (plS L i)))) 2 [U.l (setX (U.list (nth (U.i 0) (List.tail (List.tail (U.list (nth (U.i 0) X (Int.toNat (plS L i)))))) (0:Nat))) (plC L i) a b d e g)]))) (List.drop (Int.toNat (IntKind.wrap .i64 (i.int + 1))) L.list)))),.own 2064,.val (.sl true [.str,Ct.bool,Ct.sl true PPC]) M,.val (.sl false [.int .i64]) Q]),(2064,.arr 73 (Prod.snd (woOf a b d e g T.list (List.set X (Int.toNat (plS L i)) (U.l (patchU (U.list (nth (U.i 0) X (Int.toNat (plS L i)))) 2 [U.l (setX (U.list (nth (U.i 0) (List.tail (List.tail (U.list (nth (U.i 0) X (Int.toNat (plS L i)))))) (0:Nat))) (plC L i) a b d e g)]))) (List.drop (Int.toNat (IntKind.wrap .i64 (i.int + 1))) L.list)))),(768,.box [vi r1,vi r2,.val .str r3,.own 776,.own 778,.own 780,.own 782]),(782,.arr 3 []),(780,.arr 77 []),(778,.arr 73 []),(776,.arr 64 [])]) else False else False) else False) ((fun T=>Alt (Alt T T) (Alt T T)) (bif Nat.blt (Int.toNat (plS L i)) (List.length X) then setP [[nth (U.i 0) (List.tail (List.tail (U.list (nth (U.i 0) X (Int.toNat (plS L i)))))) (0:Nat)],[nth (U.i 0) (List.tail (U.list (nth (U.i 0) L.list (Int.toNat i.int)))) (0:Nat)],[a,b,d,e,g]]∧bif Nat.blt (Int.toNat (plS L i)) (List.length X) then bif Nat.blt (μ [vi (U.i (IntKind.wrap .i64 (i.int + 1))),vi n,.val (.sl true PPC) L,.ptr 384 0,.ptr 640 0,.ptr 768 0] [.box [vi c,vi z,.val .str s,.val (.sl false [.sl true EC]) T,.own 2064,.val (.sl true [.str,Ct.bool,Ct.sl true PPC]) M,.val (.sl false [.int .i64]) Q],.arr 73 (List.set X (Int.toNat (plS L i)) (U.l (patchU (U.list (nth (U.i 0) X (Int.toNat (plS L i)))) 2 [U.l (setX (U.list (nth (U.i 0) (List.tail (List.tail (U.list (nth (U.i 0) X (Int.toNat (plS L i)))))) (0:Nat))) (plC L i) a b d e g)]))),.box [vi a,vi b,vi d,vi e,.val (.int .u32) g],.box [vi r1,vi r2,.val .str r3,.own 776,.own 778,.own 780,.own 782],.arr 3 [],.arr 77 [],.arr 73 [],.arr 64 []]) N then ((PPC=PPC∧nat_lit 384=nat_lit 384∧nat_lit 0=nat_lit 0∧nat_lit 640=nat_lit 640∧nat_lit 0=nat_lit 0∧nat_lit 768=nat_lit 768∧nat_lit 0=nat_lit 0∧EC=EC∧nat_lit 2064=nat_lit 2064∧[Ct.str,Ct.bool,Ct.sl true PPC]=[.str,Ct.bool,Ct.sl true PPC]∧nat_lit 73=nat_lit 73)∧(776=nat_lit 776∧nat_lit 778=nat_lit 778∧nat_lit 780=nat_lit 780∧nat_lit 782=nat_lit 782∧nat_lit 3=nat_lit 3∧nat_lit 77=nat_lit 77∧nat_lit 73=nat_lit 73∧nat_lit 64=nat_lit 64)∧T=U.l T.list∧n.int=(L.list.length:Int)∧(0:Int)≤IntKind.wrap .i64 (i.int + 1)∧IntKind.wrap .i64 (i.int + 1)≤n.int∧L.list.length≤(1073741824:Nat)∧woOk T.list (List.set X (Int.toNat (plS L i)) (U.l (patchU (U.list (nth (U.i 0) X (Int.toNat (plS L i)))) 2 [U.l (setX (U.list (nth (U.i 0) (List.tail (List.tail (U.list (nth (U.i 0) X (Int.toNat (plS L i)))))) (0:Nat))) (plC L i) a b d e g)]))) (List.drop (Int.toNat (IntKind.wrap .i64 (i.int + 1))) L.list))∧k (Ex.exit 0) (St.mk [(3,.ptr 384 0),(6,.ptr 768 0)] [(384,.box [vi c,vi z,.val .str s,.val (.sl false [.sl true EC]) (U.l (Prod.fst (woOf a b d e g T.list (List.set X (Int.toNat (plS L i)) (U.l (patchU (U.list (nth (U.i 0) X (Int.toNat (plS L i)))) 2 [U.l (setX (U.list (nth (U.i 0) (List.tail (List.tail (U.list (nth (U.i 0) X (Int.toNat (plS L i)))))) (0:Nat))) (plC L i) a b d e g)]))) (List.drop (Int.toNat (IntKind.wrap .i64 (i.int + 1))) L.list)))),.own 2064,.val (.sl true [.str,Ct.bool,Ct.sl true PPC]) M,.val (.sl false [.int .i64]) Q]),(2064,.arr 73 (Prod.snd (woOf a b d e g T.list (List.set X (Int.toNat (plS L i)) (U.l (patchU (U.list (nth (U.i 0) X (Int.toNat (plS L i)))) 2 [U.l (setX (U.list (nth (U.i 0) (List.tail (List.tail (U.list (nth (U.i 0) X (Int.toNat (plS L i)))))) (0:Nat))) (plC L i) a b d e g)]))) (List.drop (Int.toNat (IntKind.wrap .i64 (i.int + 1))) L.list)))),(768,.box [vi r1,vi r2,.val .str r3,.own 776,.own 778,.own 780,.own 782]),(782,.arr 3 []),(780,.arr 77 []),(778,.arr 73 []),(776,.arr 64 [])]) else False else False else False)) else False else False else k (Ex.exit 0) (St.mk [(3,.ptr 384 0),(6,.ptr 768 0)] [(384,.box [vi c,vi z,.val .str s,.val (.sl false [.sl true EC]) T,.own 2064,.val (.sl true [.str,Ct.bool,Ct.sl true PPC]) M,.val (.sl false [.int .i64]) Q]),(2064,.arr 73 X),(768,.box [vi r1,vi r2,.val .str r3,.own 776,.own 778,.own 780,.own 782]),(782,.arr 3 []),(780,.arr 77 []),(778,.arr 73 []),(776,.arr 64 [])])):=by kernel_rfl
theorem wo_tree (R:RT) (L c z s T Sh M Q a b d e g:U):(runD woC Try.f41 [.agg [vi c,vi z,vs s,.val TRC T,vt SC Sh,vt BC M,vl (.int .i64) Q],vt PPC L,.agg (vals EC [a,b,d,e,g])] [] R)=(cutP [[T],[U.i 4096]]∧([Ct.str,.int .i64,Ct.sl false [Ct.sl true EC]]=[.str,.int .i64,Ct.sl false [.sl true EC]]∧Sh.list.length≤(1073741824:Nat))∧((PPC=PPC∧nat_lit 384=nat_lit 384∧nat_lit 0=nat_lit 0∧nat_lit 640=nat_lit 640∧nat_lit 0=nat_lit 0∧nat_lit 768=nat_lit 768∧nat_lit 0=nat_lit 0∧EC=EC∧nat_lit 2064=nat_lit 2064∧[Ct.str,Ct.bool,Ct.sl true PPC]=[.str,Ct.bool,Ct.sl true PPC]∧nat_lit 73=nat_lit 73)∧(776=nat_lit 776∧nat_lit 778=nat_lit 778∧nat_lit 780=nat_lit 780∧nat_lit 782=nat_lit 782∧nat_lit 3=nat_lit 3∧nat_lit 77=nat_lit 77∧nat_lit 73=nat_lit 73∧nat_lit 64=nat_lit 64)∧U.l T.list=U.l T.list∧(L.list.length:Int)=(L.list.length:Int)∧(0:Int)≤0∧(0:Int)≤(L.list.length:Int)∧L.list.length≤(1073741824:Nat)∧woOk T.list Sh.list (List.drop (Int.toNat 0) L.list))∧R (Out.ret [.agg [vi c,vi z,.val .str s,.val (.sl false [.sl true EC]) (U.l (Prod.fst (woOf a b d e g T.list Sh.list (List.drop (Int.toNat 0) L.list)))),.own 2097152,.val (.sl true [.str,Ct.bool,Ct.sl true PPC]) M,.val (.sl false [.int .i64]) Q]]) [(2097152,.arr 73 (Prod.snd (woOf a b d e g T.list Sh.list (List.drop (Int.toNat 0) L.list))))]):=by kernel_rfl
end Go.Mat

namespace Go.Mat
open Go Go.Den Go.Proofs
set_option maxRecDepth 100000
theorem trimN_take:∀ (n:Nat) (xs:List U),∃ k,trimN n xs=xs.take k
 | 0,xs=>⟨xs.length,by rw [List.take_length];rfl⟩
 | n + 1,xs=>by
  unfold trimN
  cases h:((U.at xs n).list.length:Int) == 0 with
  | true=>
   rw [cond_true]
   obtain ⟨k,hk⟩:=trimN_take n (xs.take n)
   exact ⟨min k n,by rw [hk,List.take_take]⟩
  | false=>rw [cond_false];exact ⟨xs.length,by rw [List.take_length]⟩
theorem at_nil_len {xs:List U} {j:Nat} (h:xs.length≤j):(U.at xs j).list.length=0:=by rw [at_over h];rfl
theorem tabP_take {T:List U} (h:tabP T) (k:Nat):tabP (T.take k):=by
 refine ⟨by rw [List.length_take];have:=h.1;omega,fun j hj=>?_⟩
 rw [List.length_take] at hj
 rw [at_take (by omega)]
 exact h.2 j (by omega)
theorem tabP_set {T:List U} {k:Nat} {R:List U} (h:tabP T) (hR:R.length≤1048576):tabP (T.set k (.l R)):=by
 by_cases hk:k < T.length
 ·refine ⟨by rw [List.length_set];exact h.1,fun j hj=>?_⟩
  rw [List.length_set] at hj
  rw [at_set hk]
  split
  ·exact hR
  ·exact h.2 j hj
 ·rw [List.set_eq_of_length_le (by omega)];exact h
theorem tabP_pad {T:List U} {k:Nat} (h:tabP T) (hk:T.length + k≤1048576):tabP (padR T k):=by
 have hl:(padR T k).length=T.length + k:=by unfold padR;simp
 refine ⟨by omega,fun j hj=>?_⟩
 rw [at_pad (by omega)]
 split
 ·rename_i h';exact h.2 j h'
 ·exact Nat.zero_le _
theorem rows_le {T:List U} (h:tabP T) (j:Nat):(U.at T j).list.length≤1048576:=by
 by_cases hj:j < T.length
 ·exact h.2 j hj
 ·rw [at_nil_len (by omega)];omega
theorem rowOf_le {r:U} (h:r.list.length≤1048576):(rowOf r).length≤1048576:=by
 unfold rowOf
 cases (r.list.length:Int) == 0 with
 | true=>rw [cond_true];show 8≤_;omega
 | false=>rw [cond_false];exact h
theorem keepR_le {R:List U} (h:R.length≤1048576):(keepR R).length≤1048576:=by
 unfold keepR
 cases !anyNN R with
 | true=>rw [cond_true];exact Nat.zero_le _
 | false=>rw [cond_false];exact h
theorem tabP_setR {T:List U} {m:Nat} {e:List U} (h:tabP T) (hm:m < 4096):tabP (setR T m e):=by
 unfold setR
 simp only
 obtain ⟨k,hk⟩:=trimN_take ((padR T (m / 8 + 1 - T.length)).set (m / 8) (.l (keepR (pokeR (rowOf (U.at (padR T (m / 8 + 1 - T.length)) (m / 8))) (m % 8) e)))).length ((padR T (m / 8 + 1 - T.length)).set (m / 8) (.l (keepR (pokeR (rowOf (U.at (padR T (m / 8 + 1 - T.length)) (m / 8))) (m % 8) e))))
 rw [hk]
 have hp:tabP (padR T (m / 8 + 1 - T.length)):=tabP_pad h (by have:=h.1;omega)
 refine tabP_take (tabP_set hp (keepR_le ?_)) k
 unfold pokeR
 rw [List.length_set]
 exact rowOf_le (rows_le hp _)
theorem tabP_setX {T:List U} {i:Int} {a b d e g:U} (h:tabP T):tabP (setX T i a b d e g):=by
 unfold setX
 cases hc:decide (i < 0) || (decide (i ≥ 4096) || !fitsFrom T a.int b.int d.int e.int g.int 7 0) with
 | true=>rw [cond_true];exact h
 | false=>
  rw [cond_false]
  simp only [Bool.or_eq_false_iff,decide_eq_false_iff_not] at hc
  exact tabP_setR h (by omega)
theorem shT_shSet (x:U) (T:List U):shT (shSet x T) = .l T:=rfl
theorem woOk_step {T X ps:List U} {p a b d e g:U} (h:woOk T X (p :: ps)):woOk (woStep a b d e g (T,X) p).1 (woStep a b d e g (T,X) p).2 ps:=by
 obtain ⟨⟨h1,h2⟩,h3,h4⟩:=h
 unfold woStep
 cases hc:decide ((U.at p.list 0).int < 0) with
 | true=>rw [cond_true];exact ⟨⟨tabP_setX h1,h2⟩,h3,fun q hq=>h4 q (List.mem_cons_of_mem _ hq)⟩
 | false=>
  rw [cond_false]
  refine ⟨⟨h1,fun x hx=>?_⟩,by rw [List.length_set];exact h3,fun q hq=>by rw [List.length_set];exact h4 q (List.mem_cons_of_mem _ hq)⟩
  rcases List.mem_or_eq_of_mem_set hx with hx | rfl
  ·exact h2 x hx
  ·rw [shT_shSet]
   have h0:=of_decide_eq_false hc
   have h5:=h4 p (List.mem_cons_self ..)
   have hk:(U.at p.list 0).int.toNat < X.length:=by omega
   refine tabP_setX (h2 _ ?_)
   rw [at_get hk]
   exact List.getElem_mem hk
theorem drop_cons_at {L:List U} {k:Nat} (hk:k < L.length):L.drop k=U.at L k :: L.drop (k + 1):=by rw [List.drop_eq_getElem_cons hk,at_get hk]
theorem wo_loop:LoopOk woC 0 (loopBody Try.f41 0):=by
 refine loopOk_of (F:=woLoop) (ts:=[20,19,18,3,5,6]) (os:=[384,2064,640,768,782,780,778,776]) rfl (fun svs _=>match svs with | .val _ i :: .val _ n :: _=>(n.int - i.int).toNat | _=>0) ?_
 intro pan svs os k ho1 ho2 h
 unfold woLoop at h
 split at h
 ·rename_i i n x0 L p1 q1 p2 q2 p3 q3 c z s x1 T o x2 M Q t X a b d e g r1 r2 r3 o1 o2 o3 o4 t4 t3 t2 t1
  obtain ⟨⟨⟨rfl,rfl,rfl,rfl,rfl,rfl,rfl,rfl,rfl,rfl,rfl⟩,⟨rfl,rfl,rfl,rfl,rfl,rfl,rfl,rfl⟩,hT,hn,h0,hin,hL,hok⟩,hk⟩:=h
  refine .eq (wo_round pan _ _ k i n L c z s T M Q a b d e g r1 r2 r3 X) ?_
  simp only [Alt_self]
  refine bd (fun hlt=>?_) (fun hlt=>?_)
  ·have hi:i.int.toNat < L.list.length:=by omega
   have hwi:IntKind.wrap .i64 (i.int + 1)=i.int + 1:=i64_in (by omega) (by omega)
   have hc:(i.int + 1).toNat=i.int.toNat + 1:=by omega
   have hdr:=drop_cons_at hi
   rw [hdr] at hk hok
   have hok':=woOk_step (a:=a) (b:=b) (d:=d) (e:=e) (g:=g) hok
   obtain ⟨⟨g1,g2⟩,g3,g4⟩:=hok
   have hp:=g4 _ (List.mem_cons_self ..)
   have hpe:(U.at (U.at L.list i.int.toNat).list 0).int=plS L i:=rfl
   have hpc:(nth (.i 0) (U.at L.list i.int.toNat).list.tail 0).int=plC L i:=rfl
   rw [hpe] at hp
   refine dt ⟨h0,by omega⟩ ?_
   refine bd (fun hneg=>?_) (fun hneg=>?_)
   ·have hst:woStep a b d e g (T.list,X) (U.at L.list i.int.toNat)=(setX T.list (plC L i) a b d e g,X):=by
     unfold woStep
     rw [hpe,decide_eq_true hneg,cond_true,hpc]
    have hof:woOf a b d e g T.list X (U.at L.list i.int.toNat :: L.list.drop (i.int.toNat + 1))=woOf a b d e g (setX T.list (plC L i) a b d e g) X (L.list.drop (i.int.toNat + 1)):=by
     unfold woOf
     rw [List.foldl_cons,hst]
    rw [hst] at hok'
    rw [hof] at hk
    rw [hwi,hc]
    exact ⟨g1,blt (by simp only [U.int_i];omega) ⟨⟨⟨by trivial,by trivial,by trivial,by trivial,by trivial,by trivial,by trivial,by trivial,by trivial,by trivial,by trivial⟩,⟨by trivial,by trivial,by trivial,by trivial,by trivial,by trivial,by trivial,by trivial⟩,by trivial,hn,by omega,by omega,hL,hok'⟩,hk⟩⟩
   ·have hkx:(plS L i).toNat < X.length:=by omega
    have hst:woStep a b d e g (T.list,X) (U.at L.list i.int.toNat)=(T.list,X.set (plS L i).toNat (shSet (U.at X (plS L i).toNat) (setX (shT (U.at X (plS L i).toNat)).list (plC L i) a b d e g))):=by
     unfold woStep
     rw [hpe,decide_eq_false hneg,cond_false,hpc]
    have hof:woOf a b d e g T.list X (U.at L.list i.int.toNat :: L.list.drop (i.int.toNat + 1))=woOf a b d e g T.list (X.set (plS L i).toNat (shSet (U.at X (plS L i).toNat) (setX (shT (U.at X (plS L i).toNat)).list (plC L i) a b d e g))) (L.list.drop (i.int.toNat + 1)):=by
     unfold woOf
     rw [List.foldl_cons,hst]
    rw [hst] at hok'
    rw [hof] at hk
    have hsp:setP [[nth (U.i 0) (List.tail (List.tail (U.list (nth (U.i 0) X (Int.toNat (plS L i)))))) (0:Nat)],[nth (U.i 0) (List.tail (U.list (nth (U.i 0) L.list (Int.toNat i.int)))) (0:Nat)],[a,b,d,e,g]]:=by
     show tabP (shT (U.at X (plS L i).toNat)).list
     refine g2 _ ?_
     rw [at_get hkx]
     exact List.getElem_mem hkx
    refine dt ⟨by omega,by omega⟩ (blt hkx ⟨hsp,blt hkx ?_⟩)
    rw [hwi,hc]
    exact blt (by simp only [U.int_i];omega) ⟨⟨⟨by trivial,by trivial,by trivial,by trivial,by trivial,by trivial,by trivial,by trivial,by trivial,by trivial,by trivial⟩,⟨by trivial,by trivial,by trivial,by trivial,by trivial,by trivial,by trivial,by trivial⟩,hT,hn,by omega,by omega,hL,hok'⟩,hk⟩
  ·have hd:L.list.drop i.int.toNat=[]:=List.drop_eq_nil_of_le (by omega)
   rw [hd] at hk
   have h1:woOf a b d e g T.list X []=(T.list,X):=rfl
   rw [h1,← hT] at hk
   exact hk
 ·exact h.elim
theorem wo_ok:SpecT PR 41 woF:=fun fn hfn=>by
 have hf:PR.funcs[(41:Nat)]? = some Try.f41:=by kernel_rfl
 rw [hf] at hfn;cases hfn
 refine fnT_okH (C:=woC) (mkC_ok eqs0_ok mixed_ok (.consP cut_ok (.consP tset_ok .nil)) (.cons cls_ok .nil)) hf (by kernel_rfl) (loops_one (by kernel_rfl) wo_loop) fun vs objs R h1 h2 h=>?_
 clear h1 h2
 unfold woF at h
 split at h
 ·rename_i c z s x1 T x3 Sh x2 M Q x0 L a b d e g
  obtain ⟨⟨⟨rfl,rfl,rfl,rfl⟩,hL,hok⟩,h⟩:=h
  exact .eq (wo_tree R L c z s T Sh M Q a b d e g) ⟨⟨hok.1.1,rfl⟩,⟨by trivial,hok.2.1⟩,⟨⟨by trivial,by trivial,by trivial,by trivial,by trivial,by trivial,by trivial,by trivial,by trivial,by trivial,by trivial⟩,⟨by trivial,by trivial,by trivial,by trivial,by trivial,by trivial,by trivial,by trivial⟩,by trivial,by trivial,by omega,by omega,hL,hok⟩,h⟩
 ·exact h.elim
end Go.Mat

namespace Go.Mat
open Go Go.Den Go.Proofs
set_option maxRecDepth 100000
def inFit (x:Int):Prop:=0≤x∧x≤65536
def entFit (e:U):Prop:=inFit (U.at e.list 1).int∧inFit (U.at e.list 2).int
structure GT (T:List U):Prop where
 len:T.length≤512
 row:∀ j,j < T.length→(U.at T j).list.length=0∨(U.at T j).list.length=8
 ent:∀ j,j < T.length→∀ k,k < (U.at T j).list.length→entFit (U.at (U.at T j).list k)
theorem may_fit {k st ct sz sm c:Int} (h:mayR k st ct sz sm c=true):inFit st∧inFit ct:=by
 unfold mayR at h
 unfold inFit
 split at h
 ·cases h
 ·split at h
  ·simp only [decide_eq_true_eq] at h;omega
  ·have key:placeR st ct=true→(0≤st∧st≤65536)∧0≤ct∧ct≤65536:=fun h=>by
    unfold placeR at h
    simp only [Bool.and_eq_true,decide_eq_true_eq] at h
    omega
   split at h
   ·rw [Bool.and_eq_true] at h;exact key h.2
   ·split at h
    ·rw [Bool.and_eq_true] at h;exact key h.2
    ·cases h
theorem ents_fit {n c i:Int}:∀ {l:List U} {k:Int},entsR n c i k l=true→∀ j,j < l.length→entFit (U.at l j)
 | [],_,_,j,hj=>by simp at hj
 | e :: r,k,h,j,hj=>by
  rw [entsR,Bool.and_eq_true] at h
  cases j with
  | zero=>
   have h1:=h.1
   unfold entOk at h1
   rw [Bool.and_eq_true] at h1
   exact may_fit h1.1
  | succ j=>exact ents_fit h.2 j (by simpa using hj)
theorem leaves_ents {n c:Int}:∀ {T:List U} {i:Int},leavesR n c i T=true→∀ j,j < T.length→∀ k,k < (U.at T j).list.length→entFit (U.at (U.at T j).list k)
 | [],_,_,j,hj=>by simp at hj
 | l :: r,i,h,j,hj=>by
  unfold leavesR at h
  split at h
  ·rename_i h0
   cases j with
   | zero=>intro k hk;have hk:k < l.list.length:=hk;rw [h0.1] at hk;simp at hk
   | succ j=>exact leaves_ents h j (by simpa using hj)
  ·simp only [Bool.and_eq_true] at h
   cases j with
   | zero=>
    have h1:=h.1
    unfold leafR at h1
    simp only [Bool.and_eq_true,decide_eq_true_eq] at h1
    exact ents_fit h1.1.2
   | succ j=>exact leaves_ents h.2 j (by simpa using hj)
theorem GT.of_right {T:List U} {n c:Int} (hl:T.length≤1099511627776) (h:tableR T n c=true):GT T:=by
 unfold tableR at h
 split at h
 ·cases h
 ·rename_i hn
  refine ⟨?_,leaves_rows h,leaves_ents h⟩
  by_cases hT:T=[]
  ·subst hT;exact Nat.zero_le _
  ·have:=leaves_low (n:=n) (c:=c) (by omega) T 0 (by omega) (by omega) h hT
   omega
theorem GT.tab {T:List U} (h:GT T):tabP T:=⟨by have:=h.len;omega,fun j hj=>by have:=h.row j hj;omega⟩
theorem GT.take {T:List U} (h:GT T) (k:Nat):GT (T.take k):=by
 refine ⟨by rw [List.length_take];have:=h.len;omega,fun j hj=>?_,fun j hj=>?_⟩<;>
 ·rw [List.length_take] at hj
  rw [at_take (by omega)]
  first | exact h.row j (by omega) | exact h.ent j (by omega)
theorem GT.pad {T:List U} {k:Nat} (h:GT T) (hk:T.length + k≤512):GT (padR T k):=by
 have hl:(padR T k).length=T.length + k:=by unfold padR;simp
 refine ⟨by omega,fun j hj=>?_,fun j hj q hq=>?_⟩
 ·rw [at_pad (by omega)]
  split
  ·rename_i h';exact h.row j h'
  ·exact .inl rfl
 ·rw [at_pad (by omega)] at hq ⊢
  split at hq
  ·rename_i h';rw [if_pos h'];exact h.ent j h' q hq
  ·simp at hq
theorem GT.set {T:List U} {k:Nat} {R:List U} (h:GT T) (hR:R.length=0∨R.length=8) (hE:∀ q,q < R.length→entFit (U.at R q)):GT (T.set k (.l R)):=by
 by_cases hk:k < T.length
 ·refine ⟨by rw [List.length_set];exact h.len,fun j hj=>?_,fun j hj q hq=>?_⟩
  ·rw [List.length_set] at hj
   rw [at_set hk]
   split
   ·exact hR
   ·exact h.row j hj
  ·rw [List.length_set] at hj
   rw [at_set hk] at hq ⊢
   split at hq
   ·rename_i e;rw [if_pos e];exact hE q hq
   ·rename_i e;rw [if_neg e];exact h.ent j hj q hq
 ·rw [List.set_eq_of_length_le (by omega)];exact h
theorem zero_fit:∀ q,q < zeroRow.length→entFit (U.at zeroRow q):=by
 intro q hq
 have hq:q < 8:=hq
 have key:∀ n:Nat,n < 8→entFit (U.at zeroRow n):=by
  intro n hn
  match n,hn with
  | 0,_=>exact ⟨⟨by decide,by decide⟩,by decide,by decide⟩
  | 1,_=>exact ⟨⟨by decide,by decide⟩,by decide,by decide⟩
  | 2,_=>exact ⟨⟨by decide,by decide⟩,by decide,by decide⟩
  | 3,_=>exact ⟨⟨by decide,by decide⟩,by decide,by decide⟩
  | 4,_=>exact ⟨⟨by decide,by decide⟩,by decide,by decide⟩
  | 5,_=>exact ⟨⟨by decide,by decide⟩,by decide,by decide⟩
  | 6,_=>exact ⟨⟨by decide,by decide⟩,by decide,by decide⟩
  | 7,_=>exact ⟨⟨by decide,by decide⟩,by decide,by decide⟩
  | n + 8,h=>omega
 exact key q hq
theorem GT.setR {T:List U} {m:Nat} {a b d e g:U} (h:GT T) (hm:m < 4096) (hb:inFit b.int) (hd:inFit d.int):GT (setR T m [a,b,d,e,g]):=by
 have hp:GT (padR T (m / 8 + 1 - T.length)):=h.pad (by have:=h.len;omega)
 have hpl:m / 8 < (padR T (m / 8 + 1 - T.length)).length:=by unfold padR;simp;omega
 have hr:=hp.row _ hpl
 have hrl:=rowOf_len hr
 have hro:∀ q,q < (rowOf (U.at (padR T (m / 8 + 1 - T.length)) (m / 8))).length→entFit (U.at (rowOf (U.at (padR T (m / 8 + 1 - T.length)) (m / 8))) q):=by
  intro q hq
  unfold rowOf at hq ⊢
  cases hc:((U.at (padR T (m / 8 + 1 - T.length)) (m / 8)).list.length:Int) == 0 with
  | true=>rw [hc,cond_true] at hq;rw [cond_true];exact zero_fit q hq
  | false=>rw [hc,cond_false] at hq;rw [cond_false];exact hp.ent _ hpl q hq
 unfold Mat.setR
 simp only
 generalize rowOf (U.at (padR T (m / 8 + 1 - T.length)) (m / 8))=R at hrl hro
 have hpk:∀ q,q < (pokeR R (m % 8) [a,b,d,e,g]).length→entFit (U.at (pokeR R (m % 8) [a,b,d,e,g]) q):=by
  intro q hq
  unfold pokeR at hq ⊢
  rw [List.length_set] at hq
  rw [at_set (by omega)]
  split
  ·exact ⟨hb,hd⟩
  ·exact hro q hq
 have hpkl:(pokeR R (m % 8) [a,b,d,e,g]).length=8:=by unfold pokeR;rw [List.length_set];exact hrl
 have hkl:(keepR (pokeR R (m % 8) [a,b,d,e,g])).length=0∨(keepR (pokeR R (m % 8) [a,b,d,e,g])).length=8:=by
  unfold keepR
  cases !anyNN (pokeR R (m % 8) [a,b,d,e,g]) with
  | true=>exact .inl rfl
  | false=>exact .inr hpkl
 have hkf:∀ q,q < (keepR (pokeR R (m % 8) [a,b,d,e,g])).length→entFit (U.at (keepR (pokeR R (m % 8) [a,b,d,e,g])) q):=by
  intro q hq
  unfold keepR at hq ⊢
  cases hc:!anyNN (pokeR R (m % 8) [a,b,d,e,g]) with
  | true=>rw [hc,cond_true] at hq;simp at hq
  | false=>rw [hc,cond_false] at hq;rw [cond_false];exact hpk q hq
 obtain ⟨k,hk⟩:=trimN_take ((padR T (m / 8 + 1 - T.length)).set (m / 8) (.l (keepR (pokeR R (m % 8) [a,b,d,e,g])))).length ((padR T (m / 8 + 1 - T.length)).set (m / 8) (.l (keepR (pokeR R (m % 8) [a,b,d,e,g]))))
 rw [hk]
 exact (hp.set hkl hkf).take k
theorem GT.setX {T:List U} {i:Int} {a b d e g:U} (h:GT T) (hb:inFit b.int) (hd:inFit d.int):GT (setX T i a b d e g):=by
 unfold Mat.setX
 cases hc:decide (i < 0) || (decide (i ≥ 4096) || !fitsFrom T a.int b.int d.int e.int g.int 7 0) with
 | true=>rw [cond_true];exact h
 | false=>
  rw [cond_false]
  simp only [Bool.or_eq_false_iff,decide_eq_false_iff_not] at hc
  exact h.setR (by omega) hb hd
structure GM (T S:List U):Prop where
 t:GT T
 s:S.length≤8
 st:∀ x,x ∈ S→GT (shT x).list
theorem GM.of_right {c z s T S M Q:U} (h:metaR c z s T S M Q=true) (hT:T.list.length≤1099511627776) (hS:∀ x,x ∈ S.list→(shT x).list.length≤1099511627776):GM T.list S.list∧Q.list.length≤65536∧M.list.length≤8:=by
 unfold metaR at h
 simp only [Bool.and_eq_true,decide_eq_true_eq] at h
 obtain ⟨⟨⟨⟨⟨⟨⟨⟨⟨⟨⟨⟨h1,h2⟩,h3⟩,h4⟩,h5⟩,h6⟩,h7⟩,h8⟩,h9⟩,h10⟩,h11⟩,h12⟩,h13⟩:=h
 refine ⟨⟨GT.of_right hT h5,h6,?_⟩,h8,h7⟩
 have key:∀ l:List U,shotsR c.int l=true→(∀ x,x ∈ l→(shT x).list.length≤1099511627776)→∀ x,x ∈ l→GT (shT x).list:=by
  intro l
  induction l with
  | nil=>intro _ _ x hx;cases hx
  | cons y r ih=>
   intro hr hl x hx
   rw [shotsR,Bool.and_eq_true,Bool.and_eq_true] at hr
   rcases List.mem_cons.1 hx with rfl | hx
   ·refine GT.of_right (hl _ (List.mem_cons_self ..)) (n:=(e1 x).int / 2 ^ c.int.toNat) (c:=c.int) ?_
    have e:shT x=e2 x:=by show nth _ x.list.tail.tail 0=_;rw [nth_tail,nth_tail]
    rw [e];exact hr.1.2
   ·exact ih hr.2 (fun x hx=>hl x (List.mem_cons_of_mem _ hx)) x hx
 exact key _ h9 hS
theorem GM.step {T S ps:List U} {p a b d e g:U} (h:GM T S) (hb:inFit b.int) (hd:inFit d.int) (hp:(U.at p.list 0).int < (S.length:Int)):GM (woStep a b d e g (T,S) p).1 (woStep a b d e g (T,S) p).2∧(woStep a b d e g (T,S) p).2.length=S.length:=by
 unfold woStep
 cases hc:decide ((U.at p.list 0).int < 0) with
 | true=>rw [cond_true];exact ⟨⟨h.t.setX hb hd,h.s,h.st⟩,rfl⟩
 | false=>
  rw [cond_false]
  have h0:=of_decide_eq_false hc
  have hk:(U.at p.list 0).int.toNat < S.length:=by omega
  refine ⟨⟨h.t,by rw [List.length_set];exact h.s,fun x hx=>?_⟩,by rw [List.length_set]⟩
  rcases List.mem_or_eq_of_mem_set hx with hx | rfl
  ·exact h.st x hx
  ·rw [shT_shSet]
   refine GT.setX (h.st _ ?_) hb hd
   rw [at_get hk]
   exact List.getElem_mem hk
theorem GM.wo {a b d e g:U} (hb:inFit b.int) (hd:inFit d.int):∀ {ps T S:List U},GM T S→(∀ p,p ∈ ps→(U.at p.list 0).int < (S.length:Int))→GM (woOf a b d e g T S ps).1 (woOf a b d e g T S ps).2∧(woOf a b d e g T S ps).2.length=S.length
 | [],_,_,h,_=>⟨h,rfl⟩
 | p :: ps,T,S,h,hp=>by
  obtain ⟨h1,h2⟩:=h.step (ps:=ps) (a:=a) (e:=e) (g:=g) hb hd (hp p (List.mem_cons_self ..))
  have e0:woOf a b d e g T S (p :: ps)=woOf a b d e g (woStep a b d e g (T,S) p).1 (woStep a b d e g (T,S) p).2 ps:=rfl
  rw [e0]
  obtain ⟨h3,h4⟩:=GM.wo hb hd h1 (fun q hq=>by rw [h2];exact hp q (List.mem_cons_of_mem _ hq))
  exact ⟨h3,h4.trans h2⟩
theorem GM.ok {T S ps:List U} (h:GM T S) (hp:∀ p,p ∈ ps→(U.at p.list 0).int < (S.length:Int)):woOk T S ps:=⟨⟨h.t.tab,fun x hx=>(h.st x hx).tab⟩,by have:=h.s;omega,hp⟩
theorem ent_at {T:List U} (h:GT T) (k:Nat):inFit (entF 1 T (k:Int)).int∧inFit (entF 2 T (k:Int)).int:=by
 have hn:decide ((k:Int) < 0)=false:=decide_eq_false (by omega)
 have e:∀ j,entF j T (k:Int)=nth (.i 0) (entU T k).list j:=fun j=>by unfold entF;rw [hn,cond_false];rfl
 rw [e,e]
 by_cases h1:k / 8 < T.length
 ·by_cases h2:k % 8 < (U.at T (k / 8)).list.length
  ·exact h.ent _ h1 _ h2
  ·have:entU T k = .i 0:=at_over (by show (U.at T (k / 8)).list.length≤k % 8;omega)
   rw [this];exact ⟨⟨by decide,by decide⟩,by decide,by decide⟩
 ·have:entU T k = .i 0:=by
   unfold entU
   have:nth (.i 0) T (k / 8) = .i 0:=at_over (by omega)
   rw [this];simp [U.list]
  rw [this];exact ⟨⟨by decide,by decide⟩,by decide,by decide⟩
theorem fitL_of:∀ {L:List U},(∀ l,l ∈ L→inFit (lnSt l).int∧inFit (lnCt l).int)→fitL L=true
 | [],_=>rfl
 | l :: r,h=>by
  obtain ⟨⟨h1,h2⟩,h3,h4⟩:=h l (List.mem_cons_self ..)
  rw [fitL,fitL_of fun x hx=>h x (List.mem_cons_of_mem _ hx),decide_eq_true h1,decide_eq_true h2,decide_eq_true h3,decide_eq_true h4]
  rfl
theorem mem_linesOf {s:U} {T:List U} {l:U} (h:l ∈ linesOf s T):∃ k,l = .l (lineU s T k):=by
 unfold linesOf linesTo at h
 obtain ⟨x,hx,rfl⟩:=List.mem_map.1 h
 obtain ⟨i,_,rfl⟩:=List.mem_map.1 hx
 exact ⟨i,rfl⟩
theorem linesOf_le (s:U) (T:List U):(linesOf s T).length≤8 * T.length:=by unfold linesOf;rw [List.length_map];exact linesTo_len s T _
theorem mem_shotLines:∀ {S:List U} {i:Int} {l:U},l ∈ shotLines i S→∃ j x,x ∈ S∧i≤j∧j < i + S.length∧l ∈ linesOf (.i j) (shT x).list
 | [],_,_,h=>by cases h
 | x :: r,i,l,h=>by
  rw [shotLines,List.mem_append] at h
  rcases h with h | h
  ·refine ⟨i,x,List.mem_cons_self ..,by omega,by simp;omega,?_⟩
   have e:shT x=nth (.i 0) x.list 2:=by show nth _ x.list.tail.tail 0=_;rw [nth_tail,nth_tail]
   rw [e];exact h
  ·obtain ⟨j,y,h1,h2,h3,h4⟩:=mem_shotLines h
   exact ⟨j,y,List.mem_cons_of_mem _ h1,by omega,by simp;omega,h4⟩
theorem GM.fit {T S:List U} (h:GM T S):fitL (linesOf (.i (-1)) T ++ shotLines 0 S)=true:=by
 refine fitL_of fun l hl=>?_
 rcases List.mem_append.1 hl with hl | hl
 ·obtain ⟨k,rfl⟩:=mem_linesOf hl
  exact ent_at h.t k
 ·obtain ⟨j,x,h1,_,_,h4⟩:=mem_shotLines hl
  obtain ⟨k,rfl⟩:=mem_linesOf h4
  exact ent_at (h.st x h1) k
theorem GM.places {T S:List U} (_h:GM T S):∀ l,l ∈ linesOf (.i (-1)) T ++ shotLines 0 S→(lnU l 0).int < (S.length:Int):=by
 intro l hl
 rcases List.mem_append.1 hl with hl | hl
 ·obtain ⟨k,rfl⟩:=mem_linesOf hl
  show (-1:Int) < _;omega
 ·obtain ⟨j,x,h1,h2,h3,h4⟩:=mem_shotLines hl
  obtain ⟨k,rfl⟩:=mem_linesOf h4
  show j < (S.length:Int);omega
theorem shots_fit:∀ {S:List U},(∀ x,x ∈ S→GT (shT x).list)→shotsFit S=true∧∀ i,(shotLines i S).length≤4096 * S.length
 | [],_=>⟨rfl,fun _=>Nat.le_refl _⟩
 | x :: r,h=>by
  obtain ⟨h1,h2⟩:=shots_fit fun y hy=>h y (List.mem_cons_of_mem _ hy)
  have hx:=(h x (List.mem_cons_self ..)).len
  have e:shT x=nth (.i 0) x.list 2:=by show nth _ x.list.tail.tail 0=_;rw [nth_tail,nth_tail]
  rw [e] at hx
  refine ⟨by rw [shotsFit,h1,decide_eq_true (by omega)];rfl,fun i=>?_⟩
  rw [shotLines,List.length_append]
  have:=h2 (i + 1)
  have:=linesOf_le (.i i) (nth (.i 0) x.list 2).list
  simp only [List.length_cons]
  omega
theorem GM.each {T S:List U} (h:GM T S):(T.length≤65536∧S.length≤1000∧shotsFit S=true)∧(linesOf (.i (-1)) T ++ shotLines 0 S).length≤36864:=by
 obtain ⟨h1,h2⟩:=shots_fit h.st
 have ht:=h.t.len
 have hs:=h.s
 refine ⟨⟨by omega,by omega,h1⟩,?_⟩
 rw [List.length_append]
 have:=h2 0
 have:=linesOf_le (.i (-1)) T
 omega
theorem badL_mem {F:List U} {c:Int}:∀ (ls:List U) (st:List U × List PK) (p:U),p ∈ (ls.foldl (badStep F c) st).1→p ∈ st.1∨∃ l,l ∈ ls∧p = .l [lnU l 0,lnU l 1]
 | [],_,_,h=>.inl h
 | l :: r,st,p,h=>by
  rcases badL_mem r _ p h with h | ⟨l',h1,h2⟩
  ·unfold badStep at h
   cases hc:wrongB F c l || st.2.any (meetP (pkOf l)) with
   | true=>
    rw [hc,cond_true] at h
    rcases List.mem_append.1 h with h | h
    ·exact .inl h
    ·exact .inr ⟨l,List.mem_cons_self ..,by simpa using h⟩
   | false=>rw [hc,cond_false] at h;exact .inl h
  ·exact .inr ⟨l',List.mem_cons_of_mem _ h1,h2⟩
theorem badL_len {F:List U} {c:Int}:∀ (ls:List U) (st:List U × List PK),(ls.foldl (badStep F c) st).1.length≤st.1.length + ls.length
 | [],_=>Nat.le_refl _
 | l :: r,st=>by
  have:=badL_len (F:=F) (c:=c) r (badStep F c st l)
  have h2:(badStep F c st l).1.length≤st.1.length + 1:=by
   unfold badStep
   cases wrongB F c l || st.2.any (meetP (pkOf l)) with
   | true=>rw [cond_true];simp
   | false=>rw [cond_false];simp
  simp only [List.foldl_cons,List.length_cons]
  omega
theorem GM.bad {T S F:List U} {c:Int} (h:GM T S):(badL F c (linesOf (.i (-1)) T ++ shotLines 0 S)).1.length≤36864∧∀ p,p ∈ (badL F c (linesOf (.i (-1)) T ++ shotLines 0 S)).1→(U.at p.list 0).int < (S.length:Int):=by
 refine ⟨?_,fun p hp=>?_⟩
 ·have:=badL_len (F:=F) (c:=c) (linesOf (.i (-1)) T ++ shotLines 0 S) ([],[])
  have:=h.each.2
  have e:(badL F c (linesOf (.i (-1)) T ++ shotLines 0 S)).1=((linesOf (.i (-1)) T ++ shotLines 0 S).foldl (badStep F c) ([],[])).1:=rfl
  rw [e]
  simp only [List.length_nil] at *
  omega
 ·rcases badL_mem _ _ p hp with h' | ⟨l,hl,rfl⟩
  ·cases h'
  ·exact h.places l hl
end Go.Mat

namespace Go.Mat
open Go Go.Den Go.Proofs
def whU (F:U):List U:=List.take (min (List.length F.list / (16:Nat)) (65536:Nat) * (16:Nat)) F.list
def bdU (c z s T Sh M Q F:U):List U:=Prod.fst (badL (whU F) c.int (linesX [[c,z,s,T,Sh,M,Q],[U.l (whU F)]]))
def woU (c z s T Sh M Q F:U):List U × List U:=woOf (U.i 1) (U.i 0) (U.i 0) (U.i 0) (U.i 0) T.list Sh.list (bdU c z s T Sh M Q F)
def szU (F:U):Int:=IntKind.wrap IntKind.i64 (Int.tdiv (List.length (whU F):Int) 16)
def flBad (p:U):U:=.l [.i 1,nth (.i 0) p.list.tail 0,nth (.i 0) p.list 0]
def flCnt (size:Int) (Q:List U) (i:Int) (x:U):List U:=
 bif decide ((bif decide (i < (Q.length:Int)) then (U.at Q i.toNat).int else 0) < (bif decide (i ≥ size) then 0 else x.int)) then [.l [.i 2,.i i,.i 0]]
 else bif decide ((bif decide (i < (Q.length:Int)) then (U.at Q i.toNat).int else 0) > (bif decide (i ≥ size) then 0 else x.int)) then [.l [.i 3,.i i,.i 0]] else []
def flCnts (size:Int) (Q:List U):Int→List U→List U
 | _,[]=>[]
 | i,x :: r=>flCnt size Q i x ++ flCnts size Q (i + 1) r
noncomputable def faLoop0:LoopF:=fun _ svs os k=>match svs,os with
 | [.val (.int .i64) i,.val (.int .i64) n,.val (.sl true x0) L,.own o,.ptr p q,.val (.sl false [.int .u8]) F,.val (.sl true x4) L5],[.arr t X,.box [.val (.int .i64) c,.val (.int .i64) z,.val .str s,.val (.sl false [.sl true x1]) T,.val (.sl true x3) Sh,.val (.sl true x2) M,.val (.sl false [.int .i64]) Q]]=>
  ((x0=PPC∧o=892∧p=256∧q=0∧x4=PPC∧t=47∧x1=EC∧x3=SC∧x2=BC)∧n.int=(L.list.length:Int)∧0≤i.int∧i.int≤n.int∧X.length + L.list.length≤1073741823 + i.int.toNat)∧
  k (.exit 0) ⟨[(6,.own 892),(2,.ptr 256 0),(1,.val (.sl false [.int .u8]) F),(5,vt PPC L5)],[(892,.arr 47 (X ++ (L.list.drop i.int.toNat).map flBad)),(256,.box [vi c,vi z,vs s,.val TRC T,vt SC Sh,vt BC M,vl (.int .i64) Q])]⟩
 | _,_=>False
noncomputable def faLoop2:LoopF:=fun _ svs os k=>match svs,os with
 | [.val (.int .i64) i,.val (.int .i64) n,.val (.sl false [.int .i64]) L,.own o,.ptr p q,.val (.int .i64) sz],[.arr t X,.box [.val (.int .i64) c,.val (.int .i64) z,.val .str s,.val (.sl false [.sl true x1]) T,.val (.sl true x3) Sh,.val (.sl true x2) M,.val (.sl false [.int .i64]) Q]]=>
  ((i = .i i.int∧o=892∧p=256∧q=0∧t=47∧x1=EC∧x3=SC∧x2=BC)∧n.int=(L.list.length:Int)∧0≤i.int∧i.int≤n.int∧X.length + L.list.length≤1073741823 + i.int.toNat)∧
  k (.exit 2) ⟨[(6,.own 892)],[(892,.arr 47 (X ++ flCnts sz.int Q.list i.int (L.list.drop i.int.toNat)))]⟩
 | _,_=>False
noncomputable def faC:Ctx:=mkC PR eqs0 (fnsCons 37 metaS (fnsCons 38 wholeS (fnsConsP 39 badP badS (fnsConsP 40 ofP ofS fnsNil)))) (trsCons 41 [] woF trsNil)
 (loopCons 0 [24,23,22,6,2,1,5] [892,256] faLoop0 (loopCons 2 [52,51,50,6,2,9] [892,256] faLoop2 noLoops)) (outCons 0 [6,2,1,5] [892,256] (outCons 2 [6] [892] noOut)) noOut
theorem fa_round0 (pan:KP) (μ:Mu) (N:Nat) (k:KE) (i n L F L5 c z s T Sh M Q:U) (X:List U):(exec (faC.panics pan) (loopBody Try.f15 0) 0 ⟨[(24,vi i),(23,vi n),(22,vt PPC L),(6,.own 892),(2,.ptr 256 0),(1,.val (.sl false [.int .u8]) F),(5,vt PPC L5)],[(892,.arr 47 X),(256,.box [vi c,vi z,vs s,.val TRC T,vt SC Sh,vt BC M,vl (.int .i64) Q])]⟩ (again PR (some ([6,2,1,5],[892,256])) none pan [24,23,22,6,2,1,5] [892,256] faLoop0 μ N k))=(bif decide (i.int < n.int) then bif decide ((0:Int)≤i.int∧i.int < (L.list.length:Int)) then bif decide (List.length X + 1≤room) && true then bif Nat.blt (μ [vi (U.i (IntKind.wrap .i64 (i.int + 1))),vi n,.val (.sl true PPC) L,.own 892,.ptr 256 0,.val (.sl false [.int .u8]) F,.val (.sl true PPC) L5] [.arr 47 (X ++ [U.l [U.i 1,nth (U.i 0) (List.tail (U.list (nth (U.i 0) L.list (Int.toNat i.int)))) (0:Nat),nth (U.i 0) (U.list (nth (U.i 0) L.list (Int.toNat i.int))) (0:Nat)]]),.box [vi c,vi z,.val .str s,.val (.sl false [.sl true EC]) T,.val (.sl true [.str,.int .i64,Ct.sl false [.sl true EC]]) Sh,.val (.sl true [.str,Ct.bool,Ct.sl true PPC]) M,.val (.sl false [.int .i64]) Q]]) N then ((PPC=PPC∧nat_lit 892=nat_lit 892∧nat_lit 256=nat_lit 256∧nat_lit 0=nat_lit 0∧PPC=PPC∧nat_lit 47=nat_lit 47∧EC=EC∧[Ct.str,.int .i64,Ct.sl false [Ct.sl true EC]]=[.str,.int .i64,Ct.sl false [.sl true EC]]∧[Ct.str,Ct.bool,Ct.sl true PPC]=[.str,Ct.bool,Ct.sl true PPC])∧n.int=(L.list.length:Int)∧(0:Int)≤IntKind.wrap .i64 (i.int + 1)∧IntKind.wrap .i64 (i.int + 1)≤n.int∧List.length (X ++ [U.l [U.i 1,nth (U.i 0) (List.tail (U.list (nth (U.i 0) L.list (Int.toNat i.int)))) (0:Nat),nth (U.i 0) (U.list (nth (U.i 0) L.list (Int.toNat i.int))) (0:Nat)]]) + L.list.length≤(1073741823:Nat) + Int.toNat (IntKind.wrap .i64 (i.int + 1)))∧k (Ex.exit 0) (St.mk [(6,.own 892),(2,.ptr 256 0),(1,.val (.sl false [.int .u8]) F),(5,.val (.sl true PPC) L5)] [(892,.arr 47 (X ++ [U.l [U.i 1,nth (U.i 0) (List.tail (U.list (nth (U.i 0) L.list (Int.toNat i.int)))) (0:Nat),nth (U.i 0) (U.list (nth (U.i 0) L.list (Int.toNat i.int))) (0:Nat)]] ++ List.map flBad (List.drop (Int.toNat (IntKind.wrap .i64 (i.int + 1))) L.list))),(256,.box [vi c,vi z,.val .str s,.val (.sl false [.sl true EC]) T,.val (.sl true [.str,.int .i64,Ct.sl false [.sl true EC]]) Sh,.val (.sl true [.str,Ct.bool,Ct.sl true PPC]) M,.val (.sl false [.int .i64]) Q])]) else False else False else False else k (Ex.exit 0) (St.mk [(6,.own 892),(2,.ptr 256 0),(1,.val (.sl false [.int .u8]) F),(5,.val (.sl true PPC) L5)] [(892,.arr 47 X),(256,.box [vi c,vi z,.val .str s,.val (.sl false [.sl true EC]) T,.val (.sl true [.str,.int .i64,Ct.sl false [.sl true EC]]) Sh,.val (.sl true [.str,Ct.bool,Ct.sl true PPC]) M,.val (.sl false [.int .i64]) Q])])):=by kernel_rfl
theorem fa_round2 (pan:KP) (μ:Mu) (N:Nat) (k:KE) (i n L sz c z s T Sh M Q:U) (X:List U):(exec (faC.panics pan) (loopBody Try.f15 1) 2 ⟨[(52,vi i),(51,vi n),(50,.val (.sl false [.int .i64]) L),(6,.own 892),(2,.ptr 256 0),(9,vi sz)],[(892,.arr 47 X),(256,.box [vi c,vi z,vs s,.val TRC T,vt SC Sh,vt BC M,vl (.int .i64) Q])]⟩ (again PR (some ([6],[892])) none pan [52,51,50,6,2,9] [892,256] faLoop2 μ N k))=(bif decide (i.int < n.int) then bif decide ((0:Int)≤i.int∧i.int < (L.list.length:Int)) then bif decide (i.int ≥ sz.int) then bif decide (i.int < (Q.list.length:Int)) then bif decide ((0:Int)≤i.int∧i.int < (Q.list.length:Int)) then bif decide (U.int (nth (U.i 0) Q.list (Int.toNat i.int)) < 0) then bif decide (List.length X + 1≤room) && true then bif Nat.blt (μ [vi (U.i (IntKind.wrap .i64 (i.int + 1))),vi n,.val (.sl false [.int .i64]) L,.own 892,.ptr 256 0,vi sz] [.arr 47 (X ++ [U.l [U.i 2,i,U.i 0]]),.box [vi c,vi z,.val .str s,.val (.sl false [.sl true EC]) T,.val (.sl true [.str,.int .i64,Ct.sl false [.sl true EC]]) Sh,.val (.sl true [.str,Ct.bool,Ct.sl true PPC]) M,.val (.sl false [.int .i64]) Q]]) N then ((U.i (IntKind.wrap .i64 (i.int + 1))=U.i (IntKind.wrap .i64 (i.int + 1))∧nat_lit 892=nat_lit 892∧nat_lit 256=nat_lit 256∧nat_lit 0=nat_lit 0∧nat_lit 47=nat_lit 47∧EC=EC∧[Ct.str,.int .i64,Ct.sl false [Ct.sl true EC]]=[.str,.int .i64,Ct.sl false [.sl true EC]]∧[Ct.str,Ct.bool,Ct.sl true PPC]=[.str,Ct.bool,Ct.sl true PPC])∧n.int=(L.list.length:Int)∧(0:Int)≤IntKind.wrap .i64 (i.int + 1)∧IntKind.wrap .i64 (i.int + 1)≤n.int∧List.length (X ++ [U.l [U.i 2,i,U.i 0]]) + L.list.length≤(1073741823:Nat) + Int.toNat (IntKind.wrap .i64 (i.int + 1)))∧k (Ex.exit 2) (St.mk [(6,.own 892)] [(892,.arr 47 (X ++ [U.l [U.i 2,i,U.i 0]] ++ flCnts sz.int Q.list (IntKind.wrap .i64 (i.int + 1)) (List.drop (Int.toNat (IntKind.wrap .i64 (i.int + 1))) L.list)))]) else False else False else bif decide (U.int (nth (U.i 0) Q.list (Int.toNat i.int)) > 0) then bif decide (List.length X + 1≤room) && true then bif Nat.blt (μ [vi (U.i (IntKind.wrap .i64 (i.int + 1))),vi n,.val (.sl false [.int .i64]) L,.own 892,.ptr 256 0,vi sz] [.arr 47 (X ++ [U.l [U.i 3,i,U.i 0]]),.box [vi c,vi z,.val .str s,.val (.sl false [.sl true EC]) T,.val (.sl true [.str,.int .i64,Ct.sl false [.sl true EC]]) Sh,.val (.sl true [.str,Ct.bool,Ct.sl true PPC]) M,.val (.sl false [.int .i64]) Q]]) N then ((U.i (IntKind.wrap .i64 (i.int + 1))=U.i (IntKind.wrap .i64 (i.int + 1))∧nat_lit 892=nat_lit 892∧nat_lit 256=nat_lit 256∧nat_lit 0=nat_lit 0∧nat_lit 47=nat_lit 47∧EC=EC∧[Ct.str,.int .i64,Ct.sl false [Ct.sl true EC]]=[.str,.int .i64,Ct.sl false [.sl true EC]]∧[Ct.str,Ct.bool,Ct.sl true PPC]=[.str,Ct.bool,Ct.sl true PPC])∧n.int=(L.list.length:Int)∧(0:Int)≤IntKind.wrap .i64 (i.int + 1)∧IntKind.wrap .i64 (i.int + 1)≤n.int∧List.length (X ++ [U.l [U.i 3,i,U.i 0]]) + L.list.length≤(1073741823:Nat) + Int.toNat (IntKind.wrap .i64 (i.int + 1)))∧k (Ex.exit 2) (St.mk [(6,.own 892)] [(892,.arr 47 (X ++ [U.l [U.i 3,i,U.i 0]] ++ flCnts sz.int Q.list (IntKind.wrap .i64 (i.int + 1)) (List.drop (Int.toNat (IntKind.wrap .i64 (i.int + 1))) L.list)))]) else False else False else bif Nat.blt (μ [vi (U.i (IntKind.wrap .i64 (i.int + 1))),vi n,.val (.sl false [.int .i64]) L,.own 892,.ptr 256 0,vi sz] [.arr 47 X,.box [vi c,vi z,.val .str s,.val (.sl false [.sl true EC]) T,.val (.sl true [.str,.int .i64,Ct.sl false [.sl true EC]]) Sh,.val (.sl true [.str,Ct.bool,Ct.sl true PPC]) M,.val (.sl false [.int .i64]) Q]]) N then ((U.i (IntKind.wrap .i64 (i.int + 1))=U.i (IntKind.wrap .i64 (i.int + 1))∧nat_lit 892=nat_lit 892∧nat_lit 256=nat_lit 256∧nat_lit 0=nat_lit 0∧nat_lit 47=nat_lit 47∧EC=EC∧[Ct.str,.int .i64,Ct.sl false [Ct.sl true EC]]=[.str,.int .i64,Ct.sl false [.sl true EC]]∧[Ct.str,Ct.bool,Ct.sl true PPC]=[.str,Ct.bool,Ct.sl true PPC])∧n.int=(L.list.length:Int)∧(0:Int)≤IntKind.wrap .i64 (i.int + 1)∧IntKind.wrap .i64 (i.int + 1)≤n.int∧List.length X + L.list.length≤(1073741823:Nat) + Int.toNat (IntKind.wrap .i64 (i.int + 1)))∧k (Ex.exit 2) (St.mk [(6,.own 892)] [(892,.arr 47 (X ++ flCnts sz.int Q.list (IntKind.wrap .i64 (i.int + 1)) (List.drop (Int.toNat (IntKind.wrap .i64 (i.int + 1))) L.list)))]) else False else False else bif Nat.blt (μ [vi (U.i (IntKind.wrap .i64 (i.int + 1))),vi n,.val (.sl false [.int .i64]) L,.own 892,.ptr 256 0,vi sz] [.arr 47 X,.box [vi c,vi z,.val .str s,.val (.sl false [.sl true EC]) T,.val (.sl true [.str,.int .i64,Ct.sl false [.sl true EC]]) Sh,.val (.sl true [.str,Ct.bool,Ct.sl true PPC]) M,.val (.sl false [.int .i64]) Q]]) N then ((U.i (IntKind.wrap .i64 (i.int + 1))=U.i (IntKind.wrap .i64 (i.int + 1))∧nat_lit 892=nat_lit 892∧nat_lit 256=nat_lit 256∧nat_lit 0=nat_lit 0∧nat_lit 47=nat_lit 47∧EC=EC∧[Ct.str,.int .i64,Ct.sl false [Ct.sl true EC]]=[.str,.int .i64,Ct.sl false [.sl true EC]]∧[Ct.str,Ct.bool,Ct.sl true PPC]=[.str,Ct.bool,Ct.sl true PPC])∧n.int=(L.list.length:Int)∧(0:Int)≤IntKind.wrap .i64 (i.int + 1)∧IntKind.wrap .i64 (i.int + 1)≤n.int∧List.length X + L.list.length≤(1073741823:Nat) + Int.toNat (IntKind.wrap .i64 (i.int + 1)))∧k (Ex.exit 2) (St.mk [(6,.own 892)] [(892,.arr 47 (X ++ flCnts sz.int Q.list (IntKind.wrap .i64 (i.int + 1)) (List.drop (Int.toNat (IntKind.wrap .i64 (i.int + 1))) L.list)))]) else False else bif decide (i.int < (Q.list.length:Int)) then bif decide ((0:Int)≤i.int∧i.int < (Q.list.length:Int)) then bif decide (U.int (nth (U.i 0) Q.list (Int.toNat i.int)) < U.int (nth (U.i 0) L.list (Int.toNat i.int))) then bif decide (List.length X + 1≤room) && true then bif Nat.blt (μ [vi (U.i (IntKind.wrap .i64 (i.int + 1))),vi n,.val (.sl false [.int .i64]) L,.own 892,.ptr 256 0,vi sz] [.arr 47 (X ++ [U.l [U.i 2,i,U.i 0]]),.box [vi c,vi z,.val .str s,.val (.sl false [.sl true EC]) T,.val (.sl true [.str,.int .i64,Ct.sl false [.sl true EC]]) Sh,.val (.sl true [.str,Ct.bool,Ct.sl true PPC]) M,.val (.sl false [.int .i64]) Q]]) N then ((U.i (IntKind.wrap .i64 (i.int + 1))=U.i (IntKind.wrap .i64 (i.int + 1))∧nat_lit 892=nat_lit 892∧nat_lit 256=nat_lit 256∧nat_lit 0=nat_lit 0∧nat_lit 47=nat_lit 47∧EC=EC∧[Ct.str,.int .i64,Ct.sl false [Ct.sl true EC]]=[.str,.int .i64,Ct.sl false [.sl true EC]]∧[Ct.str,Ct.bool,Ct.sl true PPC]=[.str,Ct.bool,Ct.sl true PPC])∧n.int=(L.list.length:Int)∧(0:Int)≤IntKind.wrap .i64 (i.int + 1)∧IntKind.wrap .i64 (i.int + 1)≤n.int∧List.length (X ++ [U.l [U.i 2,i,U.i 0]]) + L.list.length≤(1073741823:Nat) + Int.toNat (IntKind.wrap .i64 (i.int + 1)))∧k (Ex.exit 2) (St.mk [(6,.own 892)] [(892,.arr 47 (X ++ [U.l [U.i 2,i,U.i 0]] ++ flCnts sz.int Q.list (IntKind.wrap .i64 (i.int + 1)) (List.drop (Int.toNat (IntKind.wrap .i64 (i.int + 1))) L.list)))]) else False else False else bif decide (U.int (nth (U.i 0) Q.list (Int.toNat i.int)) > U.int (nth (U.i 0) L.list (Int.toNat i.int))) then bif decide (List.length X + 1≤room) && true then bif Nat.blt (μ [vi (U.i (IntKind.wrap .i64 (i.int + 1))),vi n,.val (.sl false [.int .i64]) L,.own 892,.ptr 256 0,vi sz] [.arr 47 (X ++ [U.l [U.i 3,i,U.i 0]]),.box [vi c,vi z,.val .str s,.val (.sl false [.sl true EC]) T,.val (.sl true [.str,.int .i64,Ct.sl false [.sl true EC]]) Sh,.val (.sl true [.str,Ct.bool,Ct.sl true PPC]) M,.val (.sl false [.int .i64]) Q]]) N then ((U.i (IntKind.wrap .i64 (i.int + 1))=U.i (IntKind.wrap .i64 (i.int + 1))∧nat_lit 892=nat_lit 892∧nat_lit 256=nat_lit 256∧nat_lit 0=nat_lit 0∧nat_lit 47=nat_lit 47∧EC=EC∧[Ct.str,.int .i64,Ct.sl false [Ct.sl true EC]]=[.str,.int .i64,Ct.sl false [.sl true EC]]∧[Ct.str,Ct.bool,Ct.sl true PPC]=[.str,Ct.bool,Ct.sl true PPC])∧n.int=(L.list.length:Int)∧(0:Int)≤IntKind.wrap .i64 (i.int + 1)∧IntKind.wrap .i64 (i.int + 1)≤n.int∧List.length (X ++ [U.l [U.i 3,i,U.i 0]]) + L.list.length≤(1073741823:Nat) + Int.toNat (IntKind.wrap .i64 (i.int + 1)))∧k (Ex.exit 2) (St.mk [(6,.own 892)] [(892,.arr 47 (X ++ [U.l [U.i 3,i,U.i 0]] ++ flCnts sz.int Q.list (IntKind.wrap .i64 (i.int + 1)) (List.drop (Int.toNat (IntKind.wrap .i64 (i.int + 1))) L.list)))]) else False else False else bif Nat.blt (μ [vi (U.i (IntKind.wrap .i64 (i.int + 1))),vi n,.val (.sl false [.int .i64]) L,.own 892,.ptr 256 0,vi sz] [.arr 47 X,.box [vi c,vi z,.val .str s,.val (.sl false [.sl true EC]) T,.val (.sl true [.str,.int .i64,Ct.sl false [.sl true EC]]) Sh,.val (.sl true [.str,Ct.bool,Ct.sl true PPC]) M,.val (.sl false [.int .i64]) Q]]) N then ((U.i (IntKind.wrap .i64 (i.int + 1))=U.i (IntKind.wrap .i64 (i.int + 1))∧nat_lit 892=nat_lit 892∧nat_lit 256=nat_lit 256∧nat_lit 0=nat_lit 0∧nat_lit 47=nat_lit 47∧EC=EC∧[Ct.str,.int .i64,Ct.sl false [Ct.sl true EC]]=[.str,.int .i64,Ct.sl false [.sl true EC]]∧[Ct.str,Ct.bool,Ct.sl true PPC]=[.str,Ct.bool,Ct.sl true PPC])∧n.int=(L.list.length:Int)∧(0:Int)≤IntKind.wrap .i64 (i.int + 1)∧IntKind.wrap .i64 (i.int + 1)≤n.int∧List.length X + L.list.length≤(1073741823:Nat) + Int.toNat (IntKind.wrap .i64 (i.int + 1)))∧k (Ex.exit 2) (St.mk [(6,.own 892)] [(892,.arr 47 (X ++ flCnts sz.int Q.list (IntKind.wrap .i64 (i.int + 1)) (List.drop (Int.toNat (IntKind.wrap .i64 (i.int + 1))) L.list)))]) else False else False else bif decide ((0:Int) < U.int (nth (U.i 0) L.list (Int.toNat i.int))) then bif decide (List.length X + 1≤room) && true then bif Nat.blt (μ [vi (U.i (IntKind.wrap .i64 (i.int + 1))),vi n,.val (.sl false [.int .i64]) L,.own 892,.ptr 256 0,vi sz] [.arr 47 (X ++ [U.l [U.i 2,i,U.i 0]]),.box [vi c,vi z,.val .str s,.val (.sl false [.sl true EC]) T,.val (.sl true [.str,.int .i64,Ct.sl false [.sl true EC]]) Sh,.val (.sl true [.str,Ct.bool,Ct.sl true PPC]) M,.val (.sl false [.int .i64]) Q]]) N then ((U.i (IntKind.wrap .i64 (i.int + 1))=U.i (IntKind.wrap .i64 (i.int + 1))∧nat_lit 892=nat_lit 892∧nat_lit 256=nat_lit 256∧nat_lit 0=nat_lit 0∧nat_lit 47=nat_lit 47∧EC=EC∧[Ct.str,.int .i64,Ct.sl false [Ct.sl true EC]]=[.str,.int .i64,Ct.sl false [.sl true EC]]∧[Ct.str,Ct.bool,Ct.sl true PPC]=[.str,Ct.bool,Ct.sl true PPC])∧n.int=(L.list.length:Int)∧(0:Int)≤IntKind.wrap .i64 (i.int + 1)∧IntKind.wrap .i64 (i.int + 1)≤n.int∧List.length (X ++ [U.l [U.i 2,i,U.i 0]]) + L.list.length≤(1073741823:Nat) + Int.toNat (IntKind.wrap .i64 (i.int + 1)))∧k (Ex.exit 2) (St.mk [(6,.own 892)] [(892,.arr 47 (X ++ [U.l [U.i 2,i,U.i 0]] ++ flCnts sz.int Q.list (IntKind.wrap .i64 (i.int + 1)) (List.drop (Int.toNat (IntKind.wrap .i64 (i.int + 1))) L.list)))]) else False else False else bif decide ((0:Int) > U.int (nth (U.i 0) L.list (Int.toNat i.int))) then bif decide (List.length X + 1≤room) && true then bif Nat.blt (μ [vi (U.i (IntKind.wrap .i64 (i.int + 1))),vi n,.val (.sl false [.int .i64]) L,.own 892,.ptr 256 0,vi sz] [.arr 47 (X ++ [U.l [U.i 3,i,U.i 0]]),.box [vi c,vi z,.val .str s,.val (.sl false [.sl true EC]) T,.val (.sl true [.str,.int .i64,Ct.sl false [.sl true EC]]) Sh,.val (.sl true [.str,Ct.bool,Ct.sl true PPC]) M,.val (.sl false [.int .i64]) Q]]) N then ((U.i (IntKind.wrap .i64 (i.int + 1))=U.i (IntKind.wrap .i64 (i.int + 1))∧nat_lit 892=nat_lit 892∧nat_lit 256=nat_lit 256∧nat_lit 0=nat_lit 0∧nat_lit 47=nat_lit 47∧EC=EC∧[Ct.str,.int .i64,Ct.sl false [Ct.sl true EC]]=[.str,.int .i64,Ct.sl false [.sl true EC]]∧[Ct.str,Ct.bool,Ct.sl true PPC]=[.str,Ct.bool,Ct.sl true PPC])∧n.int=(L.list.length:Int)∧(0:Int)≤IntKind.wrap .i64 (i.int + 1)∧IntKind.wrap .i64 (i.int + 1)≤n.int∧List.length (X ++ [U.l [U.i 3,i,U.i 0]]) + L.list.length≤(1073741823:Nat) + Int.toNat (IntKind.wrap .i64 (i.int + 1)))∧k (Ex.exit 2) (St.mk [(6,.own 892)] [(892,.arr 47 (X ++ [U.l [U.i 3,i,U.i 0]] ++ flCnts sz.int Q.list (IntKind.wrap .i64 (i.int + 1)) (List.drop (Int.toNat (IntKind.wrap .i64 (i.int + 1))) L.list)))]) else False else False else bif Nat.blt (μ [vi (U.i (IntKind.wrap .i64 (i.int + 1))),vi n,.val (.sl false [.int .i64]) L,.own 892,.ptr 256 0,vi sz] [.arr 47 X,.box [vi c,vi z,.val .str s,.val (.sl false [.sl true EC]) T,.val (.sl true [.str,.int .i64,Ct.sl false [.sl true EC]]) Sh,.val (.sl true [.str,Ct.bool,Ct.sl true PPC]) M,.val (.sl false [.int .i64]) Q]]) N then ((U.i (IntKind.wrap .i64 (i.int + 1))=U.i (IntKind.wrap .i64 (i.int + 1))∧nat_lit 892=nat_lit 892∧nat_lit 256=nat_lit 256∧nat_lit 0=nat_lit 0∧nat_lit 47=nat_lit 47∧EC=EC∧[Ct.str,.int .i64,Ct.sl false [Ct.sl true EC]]=[.str,.int .i64,Ct.sl false [.sl true EC]]∧[Ct.str,Ct.bool,Ct.sl true PPC]=[.str,Ct.bool,Ct.sl true PPC])∧n.int=(L.list.length:Int)∧(0:Int)≤IntKind.wrap .i64 (i.int + 1)∧IntKind.wrap .i64 (i.int + 1)≤n.int∧List.length X + L.list.length≤(1073741823:Nat) + Int.toNat (IntKind.wrap .i64 (i.int + 1)))∧k (Ex.exit 2) (St.mk [(6,.own 892)] [(892,.arr 47 (X ++ flCnts sz.int Q.list (IntKind.wrap .i64 (i.int + 1)) (List.drop (Int.toNat (IntKind.wrap .i64 (i.int + 1))) L.list)))]) else False else False else k (Ex.exit 2) (St.mk [(6,.own 892)] [(892,.arr 47 X)])):=by kernel_rfl
theorem fa_tree (R:RF) (c z s T Sh M Q F:U):(run faC Try.f15 [[c,z,s,T,Sh,M,Q],[F]] R)=(bif !metaR c z s T Sh M Q then R [[U.l []]] else badP [[c,z,s,T,Sh,M,Q],[U.l (whU F)]]∧((PPC=PPC∧nat_lit 892=nat_lit 892∧nat_lit 256=nat_lit 256∧nat_lit 0=nat_lit 0∧PPC=PPC∧nat_lit 47=nat_lit 47∧EC=EC∧[Ct.str,.int .i64,Ct.sl false [Ct.sl true EC]]=[.str,.int .i64,Ct.sl false [.sl true EC]]∧[Ct.str,Ct.bool,Ct.sl true PPC]=[.str,Ct.bool,Ct.sl true PPC])∧(↑(List.length (bdU c z s T Sh M Q F)):Int)=(↑(List.length (bdU c z s T Sh M Q F)):Int)∧(0:Int)≤0∧(0:Int)≤(↑(List.length (bdU c z s T Sh M Q F)):Int)∧(0:Nat) + List.length (bdU c z s T Sh M Q F)≤(1073741823:Nat) + Int.toNat 0)∧((EC=EC∧[Ct.str,.int .i64,Ct.sl false [Ct.sl true EC]]=[.str,.int .i64,Ct.sl false [.sl true EC]]∧[Ct.str,Ct.bool,Ct.sl true PPC]=[.str,Ct.bool,Ct.sl true PPC]∧PPC=PPC)∧List.length (bdU c z s T Sh M Q F)≤(1073741824:Nat)∧woOk T.list Sh.list (bdU c z s T Sh M Q F))∧ofP [[c,z,s,U.l (Prod.fst (woU c z s T Sh M Q F)),U.l (Prod.snd (woU c z s T Sh M Q F)),M,Q],[U.i (bif decide (szU F < (Q.list.length:Int)) then (Q.list.length:Int) else szU F)]]∧((U.i (0:Int)=U.i 0∧nat_lit 892=nat_lit 892∧nat_lit 256=nat_lit 256∧nat_lit 0=nat_lit 0∧nat_lit 47=nat_lit 47∧EC=EC∧[Ct.str,.int .i64,Ct.sl false [Ct.sl true EC]]=[.str,.int .i64,Ct.sl false [.sl true EC]]∧[Ct.str,Ct.bool,Ct.sl true PPC]=[.str,Ct.bool,Ct.sl true PPC])∧(↑(List.length (bif decide ((bif decide (szU F < (Q.list.length:Int)) then (Q.list.length:Int) else szU F) < 0) then [] else bif decide ((65536:Int) < bif decide (szU F < (Q.list.length:Int)) then (Q.list.length:Int) else szU F) then [] else ofV (linesM [[c,z,s,U.l (Prod.fst (woU c z s T Sh M Q F)),U.l (Prod.snd (woU c z s T Sh M Q F)),M,Q],[U.i (bif decide (szU F < (Q.list.length:Int)) then (Q.list.length:Int) else szU F)]]) (Int.toNat (bif decide (szU F < (Q.list.length:Int)) then (Q.list.length:Int) else szU F)))):Int)=(↑(List.length (bif decide ((bif decide (szU F < (Q.list.length:Int)) then (Q.list.length:Int) else szU F) < 0) then [] else bif decide ((65536:Int) < bif decide (szU F < (Q.list.length:Int)) then (Q.list.length:Int) else szU F) then [] else ofV (linesM [[c,z,s,U.l (Prod.fst (woU c z s T Sh M Q F)),U.l (Prod.snd (woU c z s T Sh M Q F)),M,Q],[U.i (bif decide (szU F < (Q.list.length:Int)) then (Q.list.length:Int) else szU F)]]) (Int.toNat (bif decide (szU F < (Q.list.length:Int)) then (Q.list.length:Int) else szU F)))):Int)∧(0:Int)≤0∧(0:Int)≤(↑(List.length (bif decide ((bif decide (szU F < (Q.list.length:Int)) then (Q.list.length:Int) else szU F) < 0) then [] else bif decide ((65536:Int) < bif decide (szU F < (Q.list.length:Int)) then (Q.list.length:Int) else szU F) then [] else ofV (linesM [[c,z,s,U.l (Prod.fst (woU c z s T Sh M Q F)),U.l (Prod.snd (woU c z s T Sh M Q F)),M,Q],[U.i (bif decide (szU F < (Q.list.length:Int)) then (Q.list.length:Int) else szU F)]]) (Int.toNat (bif decide (szU F < (Q.list.length:Int)) then (Q.list.length:Int) else szU F)))):Int)∧List.length ([] ++ List.map flBad (List.drop (Int.toNat 0) (bdU c z s T Sh M Q F))) + List.length (bif decide ((bif decide (szU F < (Q.list.length:Int)) then (Q.list.length:Int) else szU F) < 0) then [] else bif decide ((65536:Int) < bif decide (szU F < (Q.list.length:Int)) then (Q.list.length:Int) else szU F) then [] else ofV (linesM [[c,z,s,U.l (Prod.fst (woU c z s T Sh M Q F)),U.l (Prod.snd (woU c z s T Sh M Q F)),M,Q],[U.i (bif decide (szU F < (Q.list.length:Int)) then (Q.list.length:Int) else szU F)]]) (Int.toNat (bif decide (szU F < (Q.list.length:Int)) then (Q.list.length:Int) else szU F)))≤(1073741823:Nat) + Int.toNat 0)∧R [[U.l ([] ++ List.map flBad (List.drop (Int.toNat 0) (bdU c z s T Sh M Q F)) ++ flCnts (szU F) Q.list 0 (List.drop (Int.toNat 0) (bif decide ((bif decide (szU F < (Q.list.length:Int)) then (Q.list.length:Int) else szU F) < 0) then [] else bif decide ((65536:Int) < bif decide (szU F < (Q.list.length:Int)) then (Q.list.length:Int) else szU F) then [] else ofV (linesM [[c,z,s,U.l (Prod.fst (woU c z s T Sh M Q F)),U.l (Prod.snd (woU c z s T Sh M Q F)),M,Q],[U.i (bif decide (szU F < (Q.list.length:Int)) then (Q.list.length:Int) else szU F)]]) (Int.toNat (bif decide (szU F < (Q.list.length:Int)) then (Q.list.length:Int) else szU F)))))]]):=by kernel_rfl
end Go.Mat

namespace Go.Mat
open Go Go.Den Go.Proofs
set_option maxRecDepth 100000
theorem fa_loop0:LoopOk faC 0 (loopBody Try.f15 0):=by
 refine loopOk_of (F:=faLoop0) (ts:=[24,23,22,6,2,1,5]) (os:=[892,256]) rfl (fun svs _=>match svs with | .val _ i :: .val _ n :: _=>(n.int - i.int).toNat | _=>0) ?_
 intro pan svs os k ho1 ho2 h
 unfold faLoop0 at h
 split at h
 ·rename_i i n x0 L o p q F x4 L5 t X c z s x1 T x3 Sh x2 M Q
  obtain ⟨⟨⟨rfl,rfl,rfl,rfl,rfl,rfl,rfl,rfl,rfl⟩,hn,h0,hin,hX⟩,hk⟩:=h
  refine .eq (fa_round0 pan _ _ k i n L F L5 c z s T Sh M Q X) ?_
  refine bd (fun hlt=>?_) (fun hlt=>?_)
  ·have hi:i.int.toNat < L.list.length:=by omega
   have hwi:IntKind.wrap .i64 (i.int + 1)=i.int + 1:=i64_in (by omega) (by have:L.list.length≤maxLen:=ho1.2.2.1.1;unfold maxLen at this;omega)
   have hc:(i.int + 1).toNat=i.int.toNat + 1:=by omega
   rw [drop_cons_at hi,List.map_cons] at hk
   refine dt ⟨h0,by omega⟩ (broom (by unfold room;omega) rfl ?_)
   rw [hwi,hc]
   exact blt (by simp only [U.int_i];omega) ⟨⟨⟨by trivial,by trivial,by trivial,by trivial,by trivial,by trivial,by trivial,by trivial,by trivial⟩,hn,by omega,by omega,by rw [List.length_append,List.length_singleton];omega⟩,by rw [List.append_assoc];exact hk⟩
  ·have hd:L.list.drop i.int.toNat=[]:=List.drop_eq_nil_of_le (by omega)
   rw [hd,List.map_nil,List.append_nil] at hk
   exact hk
 ·exact h.elim
theorem fa_loop2:LoopOk faC 2 (loopBody Try.f15 1):=by
 refine loopOk_of (F:=faLoop2) (ts:=[52,51,50,6,2,9]) (os:=[892,256]) rfl (fun svs _=>match svs with | .val _ i :: .val _ n :: _=>(n.int - i.int).toNat | _=>0) ?_
 intro pan svs os k ho1 ho2 h
 unfold faLoop2 at h
 split at h
 ·rename_i i n L o p q sz t X c z s x1 T x3 Sh x2 M Q
  obtain ⟨⟨⟨hii,rfl,rfl,rfl,rfl,rfl,rfl,rfl⟩,hn,h0,hin,hX⟩,hk⟩:=h
  refine .eq (fa_round2 pan _ _ k i n L sz c z s T Sh M Q X) ?_
  refine bd (fun hlt=>?_) (fun hlt=>?_)
  ·have hi:i.int.toNat < L.list.length:=by omega
   have hwi:IntKind.wrap .i64 (i.int + 1)=i.int + 1:=i64_in (by omega) (by have:L.list.length≤maxLen:=ho1.2.2.1.1;unfold maxLen at this;omega)
   have hc:(i.int + 1).toNat=i.int.toNat + 1:=by omega
   have hcn:flCnts sz.int Q.list i.int (U.at L.list i.int.toNat :: L.list.drop (i.int.toNat + 1))=flCnt sz.int Q.list i.int (U.at L.list i.int.toNat) ++ flCnts sz.int Q.list (i.int + 1) (L.list.drop (i.int.toNat + 1)):=rfl
   rw [drop_cons_at hi,hcn] at hk
   rw [hwi,hc]
   have hxe:nth (.i 0) L.list i.int.toNat=U.at L.list i.int.toNat:=rfl
   have hqe:nth (.i 0) Q.list i.int.toNat=U.at Q.list i.int.toNat:=rfl
   have hie:∀ k:Int,U.l [U.i k,i,U.i 0]=U.l [U.i k,.i i.int,U.i 0]:=fun k=>by rw [← hii]
   rw [hxe,hqe,hie 2,hie 3]
   generalize hx:U.at L.list i.int.toNat=x at hk
   have hr:X.length + 1≤room:=by unfold room;omega
   refine dt ⟨h0,by omega⟩ ?_
   refine bd (fun hs=>?_) (fun hs=>?_)
   ·refine bd (fun hq=>dt ⟨h0,hq⟩ ?_) (fun hq=>?_)
    ·refine bd (fun ha=>broom hr rfl ?_) (fun ha=>bd (fun hb=>broom hr rfl ?_) (fun hb=>?_))
     ·exact blt (by simp only [U.int_i];omega) ⟨⟨⟨by trivial,by trivial,by trivial,by trivial,by trivial,by trivial,by trivial,by trivial⟩,hn,by omega,by omega,by rw [List.length_append,List.length_singleton];omega⟩,by have hY:=(by unfold flCnt;rw [decide_eq_true hs,decide_eq_true hq,cond_true,cond_true,decide_eq_true ha];rfl:flCnt sz.int Q.list i.int x=[.l [.i 2,.i i.int,.i 0]]);rw [hY] at hk;rw [List.append_assoc];exact hk⟩
     ·exact blt (by simp only [U.int_i];omega) ⟨⟨⟨by trivial,by trivial,by trivial,by trivial,by trivial,by trivial,by trivial,by trivial⟩,hn,by omega,by omega,by rw [List.length_append,List.length_singleton];omega⟩,by have hY:=(by unfold flCnt;rw [decide_eq_true hs,decide_eq_true hq,cond_true,cond_true,decide_eq_false ha,decide_eq_true hb];rfl:flCnt sz.int Q.list i.int x=[.l [.i 3,.i i.int,.i 0]]);rw [hY] at hk;rw [List.append_assoc];exact hk⟩
     ·exact blt (by simp only [U.int_i];omega) ⟨⟨⟨by trivial,by trivial,by trivial,by trivial,by trivial,by trivial,by trivial,by trivial⟩,hn,by omega,by omega,by omega⟩,by have hY:=(by unfold flCnt;rw [decide_eq_true hs,decide_eq_true hq,cond_true,cond_true,decide_eq_false ha,decide_eq_false hb];rfl:flCnt sz.int Q.list i.int x=[]);rw [hY] at hk;rw [List.nil_append] at hk;exact hk⟩
    ·exact blt (by simp only [U.int_i];omega) ⟨⟨⟨by trivial,by trivial,by trivial,by trivial,by trivial,by trivial,by trivial,by trivial⟩,hn,by omega,by omega,by omega⟩,by have hY:=(by unfold flCnt;rw [decide_eq_true hs,decide_eq_false hq,cond_true,cond_false];rfl:flCnt sz.int Q.list i.int x=[]);rw [hY] at hk;rw [List.nil_append] at hk;exact hk⟩
   ·refine bd (fun hq=>dt ⟨h0,hq⟩ ?_) (fun hq=>?_)
    ·refine bd (fun ha=>broom hr rfl ?_) (fun ha=>bd (fun hb=>broom hr rfl ?_) (fun hb=>?_))
     ·exact blt (by simp only [U.int_i];omega) ⟨⟨⟨by trivial,by trivial,by trivial,by trivial,by trivial,by trivial,by trivial,by trivial⟩,hn,by omega,by omega,by rw [List.length_append,List.length_singleton];omega⟩,by have hY:=(by unfold flCnt;rw [decide_eq_false hs,decide_eq_true hq,cond_true,cond_false,decide_eq_true ha];rfl:flCnt sz.int Q.list i.int x=[.l [.i 2,.i i.int,.i 0]]);rw [hY] at hk;rw [List.append_assoc];exact hk⟩
     ·exact blt (by simp only [U.int_i];omega) ⟨⟨⟨by trivial,by trivial,by trivial,by trivial,by trivial,by trivial,by trivial,by trivial⟩,hn,by omega,by omega,by rw [List.length_append,List.length_singleton];omega⟩,by have hY:=(by unfold flCnt;rw [decide_eq_false hs,decide_eq_true hq,cond_true,cond_false,decide_eq_false ha,decide_eq_true hb];rfl:flCnt sz.int Q.list i.int x=[.l [.i 3,.i i.int,.i 0]]);rw [hY] at hk;rw [List.append_assoc];exact hk⟩
     ·exact blt (by simp only [U.int_i];omega) ⟨⟨⟨by trivial,by trivial,by trivial,by trivial,by trivial,by trivial,by trivial,by trivial⟩,hn,by omega,by omega,by omega⟩,by have hY:=(by unfold flCnt;rw [decide_eq_false hs,decide_eq_true hq,cond_true,cond_false,decide_eq_false ha,decide_eq_false hb];rfl:flCnt sz.int Q.list i.int x=[]);rw [hY] at hk;rw [List.nil_append] at hk;exact hk⟩
    ·refine bd (fun ha=>broom hr rfl ?_) (fun ha=>bd (fun hb=>broom hr rfl ?_) (fun hb=>?_))
     ·exact blt (by simp only [U.int_i];omega) ⟨⟨⟨by trivial,by trivial,by trivial,by trivial,by trivial,by trivial,by trivial,by trivial⟩,hn,by omega,by omega,by rw [List.length_append,List.length_singleton];omega⟩,by have hY:=(by unfold flCnt;rw [decide_eq_false hs,decide_eq_false hq,cond_false,cond_false,decide_eq_true ha];rfl:flCnt sz.int Q.list i.int x=[.l [.i 2,.i i.int,.i 0]]);rw [hY] at hk;rw [List.append_assoc];exact hk⟩
     ·exact blt (by simp only [U.int_i];omega) ⟨⟨⟨by trivial,by trivial,by trivial,by trivial,by trivial,by trivial,by trivial,by trivial⟩,hn,by omega,by omega,by rw [List.length_append,List.length_singleton];omega⟩,by have hY:=(by unfold flCnt;rw [decide_eq_false hs,decide_eq_false hq,cond_false,cond_false,decide_eq_false ha,decide_eq_true hb];rfl:flCnt sz.int Q.list i.int x=[.l [.i 3,.i i.int,.i 0]]);rw [hY] at hk;rw [List.append_assoc];exact hk⟩
     ·exact blt (by simp only [U.int_i];omega) ⟨⟨⟨by trivial,by trivial,by trivial,by trivial,by trivial,by trivial,by trivial,by trivial⟩,hn,by omega,by omega,by omega⟩,by have hY:=(by unfold flCnt;rw [decide_eq_false hs,decide_eq_false hq,cond_false,cond_false,decide_eq_false ha,decide_eq_false hb];rfl:flCnt sz.int Q.list i.int x=[]);rw [hY] at hk;rw [List.nil_append] at hk;exact hk⟩
  ·have hd:L.list.drop i.int.toNat=[]:=List.drop_eq_nil_of_le (by omega)
   have h1:flCnts sz.int Q.list i.int []=[]:=rfl
   rw [hd,h1,List.append_nil] at hk
   exact hk
 ·exact h.elim
def nU (F Q:U):Int:=bif decide (szU F < (Q.list.length:Int)) then (Q.list.length:Int) else szU F
def okM (c z s T Sh M Q F:U):List U:=linesOf (.i (-1)) (woU c z s T Sh M Q F).1 ++ shotLines 0 (woU c z s T Sh M Q F).2
def faV (c z s T Sh M Q F:U):List U:=(bdU c z s T Sh M Q F).map flBad ++ flCnts (szU F) Q.list 0 (ofV (okM c z s T Sh M Q F) (nU F Q).toNat)
def faS:List (List U)→List (List U):=fun us=>match us with
 | [[c,z,s,T,Sh,M,Q],[F]]=>[[.l (bif metaR c z s T Sh M Q then faV c z s T Sh M Q F else [])]]
 | _=>[]
def mgP (T Sh:U):Prop:=T.list.length≤1099511627776∧∀ x,x ∈ Sh.list→(shT x).list.length≤1099511627776
def faP:List (List U)→Prop:=fun us=>mgP (nth (.i 0) (nth [] us 0) 3) (nth (.i 0) (nth [] us 0) 4)
theorem whU_len (F:U):(whU F).length≤1048576:=by unfold whU;rw [List.length_take];omega
theorem szU_in (F:U):0≤szU F∧szU F≤65536:=by
 have h:=whU_len F
 have e:szU F=((whU F).length:Int) / 16:=by
  unfold szU
  rw [Int.tdiv_eq_ediv_of_nonneg (by omega)]
  exact i64_in (by omega) (by omega)
 omega
theorem nU_in {F Q:U} (h:Q.list.length≤65536):0≤nU F Q∧nU F Q≤65536:=by
 have:=szU_in F
 unfold nU
 by_cases h1:szU F < (Q.list.length:Int)
 ·rw [decide_eq_true h1,cond_true];omega
 ·rw [decide_eq_false h1,cond_false];omega
theorem ofV_len (L:List U) (n:Nat):(ofV L n).length=n:=by unfold ofV;rw [List.length_map,List.length_range]
theorem fa_ok:SpecFP PR 15 faP faS:=fun fn us hfn hpre=>by
 have hf:PR.funcs[(15:Nat)]? = some Try.f15:=by kernel_rfl
 rw [hf] at hfn;cases hfn
 refine fn_okH (C:=faC) (mkC_ok eqs0_ok mixed_ok (.cons meta_ok (.cons whole_ok (.consP bad_ok (.consP of_ok .nil)))) (.cons wo_ok .nil)) hf (by kernel_rfl) (loops_two (by kernel_rfl) fa_loop0 fa_loop2) fun hok=>?_
 have hp:Try.f15.params.toList=[41,25]:=by kernel_rfl
 rw [hp] at hok
 obtain ⟨u,u2,rfl,h1,h2⟩:=shape2 (by kernel_rfl:Cs PR 41=some (true,[.int .i64,.int .i64,.str,.sl false [.sl true EC],.sl true SC,.sl true BC,.sl false [.int .i64]])) (by kernel_rfl:Cs PR 25=some (false,[.sl false [.int .u8]])) hok.1
 obtain ⟨c,z,s,T,Sh,M,Q,rfl⟩:∃ a b c d e f g,u=[a,b,c,d,e,f,g]:=match u,h1 with | [a,b,c,d,e,f,g],_=>⟨a,b,c,d,e,f,g,rfl⟩
 obtain ⟨F,rfl⟩:=len1 h2
 clear hok h1 h2
 have hpre:mgP T Sh:=hpre
 refine .eq (fa_tree _ c z s T Sh M Q F) ?_
 rw [show faS [[c,z,s,T,Sh,M,Q],[F]]=[[.l (bif metaR c z s T Sh M Q then faV c z s T Sh M Q F else [])]] from rfl]
 refine bi (fun hr=>by rw [nt hr];rfl) (fun hr=>?_)
 rw [nf hr,cond_true]
 obtain ⟨hG,hQ,_⟩:=GM.of_right (nf hr) hpre.1 hpre.2
 obtain ⟨b1,b2⟩:=GM.bad (F:=whU F) (c:=c.int) hG
 have hbe:bdU c z s T Sh M Q F=(badL (whU F) c.int (linesOf (.i (-1)) T.list ++ shotLines 0 Sh.list)).1:=rfl
 rw [← hbe] at b1 b2
 have i0:inFit (U.i 0).int:=⟨by decide,by decide⟩
 obtain ⟨hW,hWl⟩:=GM.wo (a:=.i 1) (e:=.i 0) (g:=.i 0) i0 i0 hG b2
 have hwe:woU c z s T Sh M Q F=woOf (.i 1) (.i 0) (.i 0) (.i 0) (.i 0) T.list Sh.list (bdU c z s T Sh M Q F):=rfl
 rw [← hwe] at hW hWl
 obtain ⟨n0,n1⟩:=nU_in (F:=F) hQ
 have hne:(bif decide (szU F < (Q.list.length:Int)) then (Q.list.length:Int) else szU F)=nU F Q:=rfl
 have hlm:linesM [[c,z,s,.l (woU c z s T Sh M Q F).1,.l (woU c z s T Sh M Q F).2,M,Q],[.i (nU F Q)]]=okM c z s T Sh M Q F:=rfl
 rw [hne,hlm,decide_eq_false (by omega:¬ nU F Q < 0),decide_eq_false (by omega:¬ 65536 < nU F Q)]
 simp only [cond_false,ofV_len,Int.toNat_zero,List.drop_zero,List.nil_append,List.length_map]
 refine ⟨⟨hG.each.1,?_⟩,⟨⟨by trivial,by trivial,by trivial,by trivial,by trivial,by trivial,by trivial,by trivial,by trivial⟩,by trivial,by omega,by omega,by omega⟩,⟨⟨by trivial,by trivial,by trivial,by trivial⟩,by omega,hG.ok b2⟩,⟨hW.each.1,hW.fit⟩,⟨⟨by trivial,by trivial,by trivial,by trivial,by trivial,by trivial,by trivial,by trivial⟩,by trivial,by omega,by omega,by omega⟩,rfl⟩
 have:=hG.each.2
 show (linesOf (.i (-1)) T.list ++ shotLines 0 Sh.list).length≤536870912
 omega
end Go.Mat

namespace Go.Mat
open Go Go.Den Go.Proofs
theorem ofT_tree (R:RT) (c z s T S M Q n:U):(runD ofC Try.f40 [.agg [vi c,vi z,vs s,.val TRC T,vt SC S,vt BC M,vl (.int .i64) Q],vi n] [] R)=(bif decide (n.int < 0) then R (Out.ret [.own 2097152]) [(2097152,.arr 3 [])] else bif decide (n.int > 65536) then R (Out.ret [.own 2097152]) [(2097152,.arr 3 [])] else bif decide ((0:Int)≤n.int∧n.int≤n.int∧n.int≤(↑room:Int)) then (2558=nat_lit 2558∧nat_lit 3=nat_lit 3∧EC=EC∧[Ct.str,.int .i64,Ct.sl false [Ct.sl true EC]]=[.str,.int .i64,Ct.sl false [.sl true EC]]∧[Ct.str,Ct.bool,Ct.sl true [.int .i64,.int .i64]]=[.str,Ct.bool,Ct.sl true [.int .i64,.int .i64]]∧nat_lit 256=nat_lit 256∧nat_lit 0=nat_lit 0∧(0:Int)≤0∧(bif decide ((2:Int) < n.int) then (2:Int) else n.int)≤(↑(List.length (List.replicate (Int.toNat n.int) (U.i 0))):Int)∧List.length (List.replicate (Int.toNat n.int) (U.i 0))≤(65536:Nat)∧nrmR (List.replicate (Int.toNat n.int) (U.i 0))∧bndR 1000 (List.drop (Int.toNat 0) (List.replicate (Int.toNat n.int) (U.i 0)))=true)∧eachP [[c,z,s,T,S,M,Q]]∧(2558=nat_lit 2558∧nat_lit 3=nat_lit 3∧LNC=LNC∧(↑(List.length (linesOf (U.i (-1:Int)) T.list ++ shotLines 0 S.list)):Int)=(↑(List.length (linesOf (U.i (-1:Int)) T.list ++ shotLines 0 S.list)):Int)∧(0:Int)≤0∧(0:Int)≤(↑(List.length (linesOf (U.i (-1:Int)) T.list ++ shotLines 0 S.list)):Int)∧List.length (linesOf (U.i (-1:Int)) T.list ++ shotLines 0 S.list)≤(1073741824:Nat)∧n.int=(↑(List.length (addR (inI 0 (bif decide ((2:Int) < n.int) then (2:Int) else n.int)) (0:Nat) (List.replicate (Int.toNat n.int) (U.i 0)))):Int)∧List.length (addR (inI 0 (bif decide ((2:Int) < n.int) then (2:Int) else n.int)) (0:Nat) (List.replicate (Int.toNat n.int) (U.i 0)))≤(65536:Nat)∧nrmR (addR (inI 0 (bif decide ((2:Int) < n.int) then (2:Int) else n.int)) (0:Nat) (List.replicate (Int.toNat n.int) (U.i 0)))∧fitL (List.drop (Int.toNat 0) (linesOf (U.i (-1:Int)) T.list ++ shotLines 0 S.list))=true∧bndR ((1:Int) + 0) (addR (inI 0 (bif decide ((2:Int) < n.int) then (2:Int) else n.int)) (0:Nat) (List.replicate (Int.toNat n.int) (U.i 0)))=true)∧R (Out.ret [.own 2097152]) [(2097152,.arr 3 (addR (coverR (List.drop (Int.toNat 0) (linesOf (U.i (-1:Int)) T.list ++ shotLines 0 S.list))) (0:Nat) (addR (inI 0 (bif decide ((2:Int) < n.int) then (2:Int) else n.int)) (0:Nat) (List.replicate (Int.toNat n.int) (U.i 0)))))] else False):=by kernel_rfl
noncomputable def ofF:Tr:=fun args objs k=>match args,objs with
 | [.agg [.val (.int .i64) c,.val (.int .i64) z,.val .str s,.val (.sl false [.sl true x1]) T,.val (.sl true x3) S,.val (.sl true x2) M,.val (.sl false [.int .i64]) Q],.val (.int .i64) n],[]=>
  ((x1=EC∧x3=SC∧x2=BC)∧(0≤n.int∧n.int≤65536)∧ofP [[c,z,s,T,S,M,Q],[n]])∧
  k (.ret [.own 2097152]) [(2097152,.arr 3 (ofV (linesM [[c,z,s,T,S,M,Q],[n]]) n.int.toNat))]
 | _,_=>False
end Go.Mat

namespace Go.Mat
open Go Go.Den Go.Proofs
set_option maxRecDepth 100000
theorem of_val (L:List U) (m:Nat):addR (coverR L) 0 (addR (inI 0 (bif decide ((2:Int) < (m:Int)) then (2:Int) else (m:Int))) 0 (List.replicate m (.i 0)))=ofV L m:=by
 rw [addR_add,addR_rep]
 unfold ofV
 rw [List.range_eq_range']
 refine List.map_congr_left fun k hk=>?_
 have hk:k < m:=by
  have:=List.mem_range'_1.1 hk
  omega
 congr 2
 unfold inI
 rw [decide_eq_true (by omega:(0:Int)≤(k:Int))]
 by_cases h2:(2:Int) < m
 ·rw [decide_eq_true h2]
  simp only [cond_true,Bool.true_and]
  by_cases h:k < 2
  ·rw [if_pos h,decide_eq_true (by omega:(k:Int) < 2)];rfl
  ·rw [if_neg h,decide_eq_false (by omega:¬ (k:Int) < 2)];rfl
 ·rw [decide_eq_false h2]
  simp only [cond_false,Bool.true_and]
  rw [if_pos (by omega),decide_eq_true (by omega:(k:Int) < (m:Int))];rfl
theorem ofT_ok:SpecT PR 40 ofF:=fun fn hfn=>by
 have hf:PR.funcs[(40:Nat)]? = some Try.f40:=by kernel_rfl
 rw [hf] at hfn;cases hfn
 refine fnT_okH (C:=ofC) (mkC_ok eqs0_ok mixed_ok (.consP each_ok .nil) .nil) hf (by kernel_rfl) (loops_three (by kernel_rfl) of_loop0 of_loop2 of_loop4) fun vs objs R h1 h2 h=>?_
 clear h1 h2
 unfold ofF at h
 split at h
 ·rename_i c sz bk x1 T x3 S x2 M Q n
  obtain ⟨⟨⟨rfl,rfl,rfl⟩,⟨hn0,hn1⟩,hpre⟩,hk⟩:=h
  obtain ⟨hE,hfit⟩:=hpre
  obtain ⟨e1,e2,e3⟩:T.list.length≤65536∧S.list.length≤1000∧shotsFit S.list=true:=hE
  have hfit:fitL (linesOf (.i (-1)) T.list ++ shotLines 0 S.list)=true:=hfit
  have hlen:(linesOf (.i (-1)) T.list ++ shotLines 0 S.list).length≤1073741824:=by
   have h1:=linesOf_len (.i (-1)) T.list
   have h2:=shotLines_len 0 S.list e3
   rw [List.length_append]
   omega
  refine .eq (ofT_tree _ c sz bk T S M Q n) ?_
  have hle:linesM [[c,sz,bk,T,S,M,Q],[n]]=linesOf (.i (-1)) T.list ++ shotLines 0 S.list:=rfl
  rw [hle] at hk
  generalize linesOf (.i (-1)) T.list ++ shotLines 0 S.list=L at hfit hlen hk
  refine bd (fun h1=>absurd h1 (by omega)) (fun h1=>bd (fun h2=>absurd h2 (by omega)) (fun h2=>?_))
  obtain ⟨m,hm⟩:∃ m:Nat,n.int=(m:Int):=⟨n.int.toNat,by omega⟩
  rw [hm,Int.toNat_natCast] at hk
  simp only [Int.toNat_zero,List.drop_zero,hm,Int.toNat_natCast,List.length_replicate,addR_len]
  refine dt ⟨by omega,by omega,by unfold room;omega⟩ ⟨⟨by trivial,by trivial,by trivial,by trivial,by trivial,by trivial,by trivial,by omega,?_,by omega,?_,?_⟩,⟨e1,e2,e3⟩,⟨by trivial,by trivial,by trivial,by trivial,by omega,by omega,hlen,by trivial,by omega,nrm_add _ _,hfit,?_⟩,?_⟩
  ·by_cases h:(2:Int) < m
   ·rw [decide_eq_true h];simp only [cond_true];omega
   ·rw [decide_eq_false h];simp only [cond_false];omega
  ·unfold nrmR
   rw [addR_rep,List.map_const',List.length_range']
  ·refine List.all_eq_true.2 fun x hx=>?_
   rw [(List.mem_replicate.1 hx).2]
   rfl
  ·rw [Int.add_zero,show (1:Int)=0 + 1 from rfl]
   refine bnd_add 0 _ (List.all_eq_true.2 fun x hx=>?_) fun j=>inI_01 _ _ j
   rw [(List.mem_replicate.1 hx).2]
   rfl
  ·rw [of_val];exact hk
 ·exact h.elim
end Go.Mat

namespace Go.Mat
open Go Go.Den Go.Proofs
def mpSet (x:U):U:=.l (patchU x.list 2 [.l (nth (.i 0) x.list.tail.tail 0).list])
def mpL (x:U):List U:=(nth (.i 0) x.list.tail.tail 0).list
noncomputable def mdLoop0:LoopF:=fun _ svs os k=>match svs,os with
 | [.val (.int .i64) i,.val (.int .i64) n,.ptr p q,.val (.sl false [.int .u8]) F,.ptr p4 q4],[.box [.val (.int .i64) c,.val (.int .i64) z,.val .str s,.val (.sl false [.sl true x1]) T,.own o,.val (.sl true x2) M,.val (.sl false [.int .i64]) Q],.arr t X,
   .box [.val (.int .i64) r1,.val (.int .i64) r2,.val .str r3,.own o1,.own o2,.own o3,.own o4],.arr t4 [],.arr t3 [],.arr t2 [],.arr t1 []]=>
  ((p=256∧q=0∧p4=512∧q4=0∧x1=EC∧o=2448∧x2=BC∧t=73)∧(o1=520∧o2=522∧o3=524∧o4=526∧t4=3∧t3=77∧t2=73∧t1=64)∧
    n.int=(X.length:Int)∧0≤i.int∧i.int≤n.int∧X.length≤1073741824∧∀ x,x ∈ X.drop i.int.toNat→tabP (shT x).list)∧
  k (.exit 0) ⟨[(2,.ptr 256 0),(1,.val (.sl false [.int .u8]) F),(4,.ptr 512 0)],[(256,.box [vi c,vi z,vs s,.val TRC T,.own 2448,vt BC M,vl (.int .i64) Q]),(2448,.arr 73 (X.take i.int.toNat ++ (X.drop i.int.toNat).map fun x=>shSet x (shT x).list)),
   (512,.box [vi r1,vi r2,vs r3,.own 520,.own 522,.own 524,.own 526]),(526,.arr 3 []),(524,.arr 77 []),(522,.arr 73 []),(520,.arr 64 [])]⟩
 | _,_=>False
noncomputable def mdLoop2:LoopF:=fun _ svs os k=>match svs,os with
 | [.val (.int .i64) i,.val (.int .i64) n,.ptr p q,.val (.sl false [.int .u8]) F,.ptr p4 q4],[.box [.val (.int .i64) c,.val (.int .i64) z,.val .str s,.val (.sl false [.sl true x1]) T,.own o,.own o5,.val (.sl false [.int .i64]) Q],.arr t X,.arr t5 Y,
   .box [.val (.int .i64) r1,.val (.int .i64) r2,.val .str r3,.own o1,.own o2,.own o3,.own o4],.arr t4 [],.arr t3 [],.arr t2 [],.arr t1 []]=>
  ((p=256∧q=0∧p4=512∧q4=0∧x1=EC∧o=2448∧o5=5264∧t=73∧t5=77)∧(o1=520∧o2=522∧o3=524∧o4=526∧t4=3∧t3=77∧t2=73∧t1=64)∧
    n.int=(Y.length:Int)∧0≤i.int∧i.int≤n.int∧Y.length≤1073741824∧∀ x,x ∈ Y.drop i.int.toNat→(mpL x).length≤1073741824)∧
  k (.exit 2) ⟨[(2,.ptr 256 0),(1,.val (.sl false [.int .u8]) F),(4,.ptr 512 0)],[(256,.box [vi c,vi z,vs s,.val TRC T,.own 2448,.own 5264,vl (.int .i64) Q]),(2448,.arr 73 X),(5264,.arr 77 (Y.take i.int.toNat ++ (Y.drop i.int.toNat).map mpSet)),
   (512,.box [vi r1,vi r2,vs r3,.own 520,.own 522,.own 524,.own 526]),(526,.arr 3 []),(524,.arr 77 []),(522,.arr 73 []),(520,.arr 64 [])]⟩
 | _,_=>False
noncomputable def mdC:Ctx:=mkC PR eqs0 (fnsCons 37 metaS (fnsCons 38 wholeS (fnsConsP 39 badP badS (fnsConsP 42 cutP copyS fnsNil))))
 (trsCons 41 [] woF (trsCons 43 [] (cloneF BC 77) (trsCons 44 [] (frzT PR [2097152] (cloneF [.int .i64,.int .i64] 81)) (trsCons 40 [] ofF trsNil))))
 (loopCons 0 [23,22,2,1,4] [256,2448,512,526,524,522,520] mdLoop0 (loopCons 2 [46,45,2,1,4] [256,2448,5264,512,526,524,522,520] mdLoop2 noLoops)) (outCons 0 [2,1,4] [256,2448,512,526,524,522,520] (outCons 2 [2,1,4] [256,2448,5264,512,526,524,522,520] noOut)) noOut
theorem md_round0 (pan:KP) (μ:Mu) (N:Nat) (k:KE) (i n F c z s T M Q r1 r2 r3:U) (X:List U):(exec (mdC.panics pan) (loopBody Try.f16 0) 0 ⟨[(23,vi i),(22,vi n),(2,.ptr 256 0),(1,.val (.sl false [.int .u8]) F),(4,.ptr 512 0)],[(256,.box [vi c,vi z,vs s,.val TRC T,.own 2448,vt BC M,vl (.int .i64) Q]),(2448,.arr 73 X),(512,.box [vi r1,vi r2,vs r3,.own 520,.own 522,.own 524,.own 526]),(526,.arr 3 []),(524,.arr 77 []),(522,.arr 73 []),(520,.arr 64 [])]⟩ (again PR (some ([2,1,4],[256,2448,512,526,524,522,520])) none pan [23,22,2,1,4] [256,2448,512,526,524,522,520] mdLoop0 μ N k))=(bif decide (i.int < n.int) then Alt (bif decide ((0:Int)≤i.int∧i.int < (X.length:Int)) then bif Nat.blt (Int.toNat i.int) (List.length X) then cutP [[nth (U.i 0) (List.tail (List.tail (U.list (nth (U.i 0) X (Int.toNat i.int))))) (0:Nat)],[U.i 4096]]∧bif decide ((0:Int)≤i.int∧i.int < (X.length:Int)) then bif Nat.blt (Int.toNat i.int) (List.length X) then bif Nat.blt (μ [vi (U.i (IntKind.wrap .i64 (i.int + 1))),vi n,.ptr 256 0,.val (.sl false [.int .u8]) F,.ptr 512 0] [.box [vi c,vi z,.val .str s,.val (.sl false [.sl true EC]) T,.own 2448,.val (.sl true [.str,Ct.bool,Ct.sl true PPC]) M,.val (.sl false [.int .i64]) Q],.arr 73 (List.set X (Int.toNat i.int) (U.l (patchU (U.list (nth (U.i 0) X (Int.toNat i.int))) 2 [U.l (U.list (nth (U.i 0) (List.tail (List.tail (U.list (nth (U.i 0) X (Int.toNat i.int))))) (0:Nat)))]))),.box [vi r1,vi r2,.val .str r3,.own 520,.own 522,.own 524,.own 526],.arr 3 [],.arr 77 [],.arr 73 [],.arr 64 []]) N then ((256=nat_lit 256∧nat_lit 0=nat_lit 0∧nat_lit 512=nat_lit 512∧nat_lit 0=nat_lit 0∧EC=EC∧nat_lit 2448=nat_lit 2448∧[Ct.str,Ct.bool,Ct.sl true PPC]=[.str,Ct.bool,Ct.sl true PPC]∧nat_lit 73=nat_lit 73)∧(520=nat_lit 520∧nat_lit 522=nat_lit 522∧nat_lit 524=nat_lit 524∧nat_lit 526=nat_lit 526∧nat_lit 3=nat_lit 3∧nat_lit 77=nat_lit 77∧nat_lit 73=nat_lit 73∧nat_lit 64=nat_lit 64)∧n.int=(↑(List.length (List.set X (Int.toNat i.int) (U.l (patchU (U.list (nth (U.i 0) X (Int.toNat i.int))) 2 [U.l (U.list (nth (U.i 0) (List.tail (List.tail (U.list (nth (U.i 0) X (Int.toNat i.int))))) (0:Nat)))])))):Int)∧(0:Int)≤IntKind.wrap .i64 (i.int + 1)∧IntKind.wrap .i64 (i.int + 1)≤n.int∧List.length (List.set X (Int.toNat i.int) (U.l (patchU (U.list (nth (U.i 0) X (Int.toNat i.int))) 2 [U.l (U.list (nth (U.i 0) (List.tail (List.tail (U.list (nth (U.i 0) X (Int.toNat i.int))))) (0:Nat)))])))≤(1073741824:Nat)∧∀ (x:U),x ∈ List.drop (Int.toNat (IntKind.wrap .i64 (i.int + 1))) (List.set X (Int.toNat i.int) (U.l (patchU (U.list (nth (U.i 0) X (Int.toNat i.int))) 2 [U.l (U.list (nth (U.i 0) (List.tail (List.tail (U.list (nth (U.i 0) X (Int.toNat i.int))))) (0:Nat)))])))→tabP (U.list (shT x)))∧k (Ex.exit 0) (St.mk [(2,.ptr 256 0),(1,.val (.sl false [.int .u8]) F),(4,.ptr 512 0)] [(256,.box [vi c,vi z,.val .str s,.val (.sl false [.sl true EC]) T,.own 2448,.val (.sl true [.str,Ct.bool,Ct.sl true PPC]) M,.val (.sl false [.int .i64]) Q]),(2448,.arr 73 (List.take (Int.toNat (IntKind.wrap .i64 (i.int + 1))) (List.set X (Int.toNat i.int) (U.l (patchU (U.list (nth (U.i 0) X (Int.toNat i.int))) 2 [U.l (U.list (nth (U.i 0) (List.tail (List.tail (U.list (nth (U.i 0) X (Int.toNat i.int))))) (0:Nat)))]))) ++ List.map (fun x=>shSet x (U.list (shT x))) (List.drop (Int.toNat (IntKind.wrap .i64 (i.int + 1))) (List.set X (Int.toNat i.int) (U.l (patchU (U.list (nth (U.i 0) X (Int.toNat i.int))) 2 [U.l (U.list (nth (U.i 0) (List.tail (List.tail (U.list (nth (U.i 0) X (Int.toNat i.int))))) (0:Nat)))])))))),(512,.box [vi r1,vi r2,.val .str r3,.own 520,.own 522,.own 524,.own 526]),(526,.arr 3 []),(524,.arr 77 []),(522,.arr 73 []),(520,.arr 64 [])]) else False else False else False else False else False) (bif decide ((0:Int)≤i.int∧i.int < (X.length:Int)) then Alt (bif Nat.blt (Int.toNat i.int) (List.length X) then cutP [[nth (U.i 0) (List.tail (List.tail (U.list (nth (U.i 0) X (Int.toNat i.int))))) (0:Nat)],[U.i 4096]]∧bif decide ((0:Int)≤i.int∧i.int < (X.length:Int)) then bif Nat.blt (Int.toNat i.int) (List.length X) then bif Nat.blt (μ [vi (U.i (IntKind.wrap .i64 (i.int + 1))),vi n,.ptr 256 0,.val (.sl false [.int .u8]) F,.ptr 512 0] [.box [vi c,vi z,.val .str s,.val (.sl false [.sl true EC]) T,.own 2448,.val (.sl true [.str,Ct.bool,Ct.sl true PPC]) M,.val (.sl false [.int .i64]) Q],.arr 73 (List.set X (Int.toNat i.int) (U.l (patchU (U.list (nth (U.i 0) X (Int.toNat i.int))) 2 [U.l (U.list (nth (U.i 0) (List.tail (List.tail (U.list (nth (U.i 0) X (Int.toNat i.int))))) (0:Nat)))]))),.box [vi r1,vi r2,.val .str r3,.own 520,.own 522,.own 524,.own 526],.arr 3 [],.arr 77 [],.arr 73 [],.arr 64 []]) N then ((256=nat_lit 256∧nat_lit 0=nat_lit 0∧nat_lit 512=nat_lit 512∧nat_lit 0=nat_lit 0∧EC=EC∧nat_lit 2448=nat_lit 2448∧[Ct.str,Ct.bool,Ct.sl true PPC]=[.str,Ct.bool,Ct.sl true PPC]∧nat_lit 73=nat_lit 73)∧(520=nat_lit 520∧nat_lit 522=nat_lit 522∧nat_lit 524=nat_lit 524∧nat_lit 526=nat_lit 526∧nat_lit 3=nat_lit 3∧nat_lit 77=nat_lit 77∧nat_lit 73=nat_lit 73∧nat_lit 64=nat_lit 64)∧n.int=(↑(List.length (List.set X (Int.toNat i.int) (U.l (patchU (U.list (nth (U.i 0) X (Int.toNat i.int))) 2 [U.l (U.list (nth (U.i 0) (List.tail (List.tail (U.list (nth (U.i 0) X (Int.toNat i.int))))) (0:Nat)))])))):Int)∧(0:Int)≤IntKind.wrap .i64 (i.int + 1)∧IntKind.wrap .i64 (i.int + 1)≤n.int∧List.length (List.set X (Int.toNat i.int) (U.l (patchU (U.list (nth (U.i 0) X (Int.toNat i.int))) 2 [U.l (U.list (nth (U.i 0) (List.tail (List.tail (U.list (nth (U.i 0) X (Int.toNat i.int))))) (0:Nat)))])))≤(1073741824:Nat)∧∀ (x:U),x ∈ List.drop (Int.toNat (IntKind.wrap .i64 (i.int + 1))) (List.set X (Int.toNat i.int) (U.l (patchU (U.list (nth (U.i 0) X (Int.toNat i.int))) 2 [U.l (U.list (nth (U.i 0) (List.tail (List.tail (U.list (nth (U.i 0) X (Int.toNat i.int))))) (0:Nat)))])))→tabP (U.list (shT x)))∧k (Ex.exit 0) (St.mk [(2,.ptr 256 0),(1,.val (.sl false [.int .u8]) F),(4,.ptr 512 0)] [(256,.box [vi c,vi z,.val .str s,.val (.sl false [.sl true EC]) T,.own 2448,.val (.sl true [.str,Ct.bool,Ct.sl true PPC]) M,.val (.sl false [.int .i64]) Q]),(2448,.arr 73 (List.take (Int.toNat (IntKind.wrap .i64 (i.int + 1))) (List.set X (Int.toNat i.int) (U.l (patchU (U.list (nth (U.i 0) X (Int.toNat i.int))) 2 [U.l (U.list (nth (U.i 0) (List.tail (List.tail (U.list (nth (U.i 0) X (Int.toNat i.int))))) (0:Nat)))]))) ++ List.map (fun x=>shSet x (U.list (shT x))) (List.drop (Int.toNat (IntKind.wrap .i64 (i.int + 1))) (List.set X (Int.toNat i.int) (U.l (patchU (U.list (nth (U.i 0) X (Int.toNat i.int))) 2 [U.l (U.list (nth (U.i 0) (List.tail (List.tail (U.list (nth (U.i 0) X (Int.toNat i.int))))) (0:Nat)))])))))),(512,.box [vi r1,vi r2,.val .str r3,.own 520,.own 522,.own 524,.own 526]),(526,.arr 3 []),(524,.arr 77 []),(522,.arr 73 []),(520,.arr 64 [])]) else False else False else False else False) (bif Nat.blt (Int.toNat i.int) (List.length X) then (fun T=>Alt T T) (cutP [[nth (U.i 0) (List.tail (List.tail (U.list (nth (U.i 0) X (Int.toNat i.int))))) (0:Nat)],[U.i 4096]]∧bif decide ((0:Int)≤i.int∧i.int < (X.length:Int)) then bif Nat.blt (Int.toNat i.int) (List.length X) then bif Nat.blt (μ [vi (U.i (IntKind.wrap .i64 (i.int + 1))),vi n,.ptr 256 0,.val (.sl false [.int .u8]) F,.ptr 512 0] [.box [vi c,vi z,.val .str s,.val (.sl false [.sl true EC]) T,.own 2448,.val (.sl true [.str,Ct.bool,Ct.sl true PPC]) M,.val (.sl false [.int .i64]) Q],.arr 73 (List.set X (Int.toNat i.int) (U.l (patchU (U.list (nth (U.i 0) X (Int.toNat i.int))) 2 [U.l (U.list (nth (U.i 0) (List.tail (List.tail (U.list (nth (U.i 0) X (Int.toNat i.int))))) (0:Nat)))]))),.box [vi r1,vi r2,.val .str r3,.own 520,.own 522,.own 524,.own 526],.arr 3 [],.arr 77 [],.arr 73 [],.arr 64 []]) N then ((256=nat_lit 256∧nat_lit 0=nat_lit 0∧nat_lit 512=nat_lit 512∧nat_lit 0=nat_lit 0∧EC=EC∧nat_lit 2448=nat_lit 2448∧[Ct.str,Ct.bool,Ct.sl true PPC]=[.str,Ct.bool,Ct.sl true PPC]∧nat_lit 73=nat_lit 73)∧(520=nat_lit 520∧nat_lit 522=nat_lit 522∧nat_lit 524=nat_lit 524∧nat_lit 526=nat_lit 526∧nat_lit 3=nat_lit 3∧nat_lit 77=nat_lit 77∧nat_lit 73=nat_lit 73∧nat_lit 64=nat_lit 64)∧n.int=(↑(List.length (List.set X (Int.toNat i.int) (U.l (patchU (U.list (nth (U.i 0) X (Int.toNat i.int))) 2 [U.l (U.list (nth (U.i 0) (List.tail (List.tail (U.list (nth (U.i 0) X (Int.toNat i.int))))) (0:Nat)))])))):Int)∧(0:Int)≤IntKind.wrap .i64 (i.int + 1)∧IntKind.wrap .i64 (i.int + 1)≤n.int∧List.length (List.set X (Int.toNat i.int) (U.l (patchU (U.list (nth (U.i 0) X (Int.toNat i.int))) 2 [U.l (U.list (nth (U.i 0) (List.tail (List.tail (U.list (nth (U.i 0) X (Int.toNat i.int))))) (0:Nat)))])))≤(1073741824:Nat)∧∀ (x:U),x ∈ List.drop (Int.toNat (IntKind.wrap .i64 (i.int + 1))) (List.set X (Int.toNat i.int) (U.l (patchU (U.list (nth (U.i 0) X (Int.toNat i.int))) 2 [U.l (U.list (nth (U.i 0) (List.tail (List.tail (U.list (nth (U.i 0) X (Int.toNat i.int))))) (0:Nat)))])))→tabP (U.list (shT x)))∧k (Ex.exit 0) (St.mk [(2,.ptr 256 0),(1,.val (.sl false [.int .u8]) F),(4,.ptr 512 0)] [(256,.box [vi c,vi z,.val .str s,.val (.sl false [.sl true EC]) T,.own 2448,.val (.sl true [.str,Ct.bool,Ct.sl true PPC]) M,.val (.sl false [.int .i64]) Q]),(2448,.arr 73 (List.take (Int.toNat (IntKind.wrap .i64 (i.int + 1))) (List.set X (Int.toNat i.int) (U.l (patchU (U.list (nth (U.i 0) X (Int.toNat i.int))) 2 [U.l (U.list (nth (U.i 0) (List.tail (List.tail (U.list (nth (U.i 0) X (Int.toNat i.int))))) (0:Nat)))]))) ++ List.map (fun x=>shSet x (U.list (shT x))) (List.drop (Int.toNat (IntKind.wrap .i64 (i.int + 1))) (List.set X (Int.toNat i.int) (U.l (patchU (U.list (nth (U.i 0) X (Int.toNat i.int))) 2 [U.l (U.list (nth (U.i 0) (List.tail (List.tail (U.list (nth (U.i 0) X (Int.toNat i.int))))) (0:Nat)))])))))),(512,.box [vi r1,vi r2,.val .str r3,.own 520,.own 522,.own 524,.own 526]),(526,.arr 3 []),(524,.arr 77 []),(522,.arr 73 []),(520,.arr 64 [])]) else False else False else False) else False) else False) else k (Ex.exit 0) (St.mk [(2,.ptr 256 0),(1,.val (.sl false [.int .u8]) F),(4,.ptr 512 0)] [(256,.box [vi c,vi z,.val .str s,.val (.sl false [.sl true EC]) T,.own 2448,.val (.sl true [.str,Ct.bool,Ct.sl true PPC]) M,.val (.sl false [.int .i64]) Q]),(2448,.arr 73 X),(512,.box [vi r1,vi r2,.val .str r3,.own 520,.own 522,.own 524,.own 526]),(526,.arr 3 []),(524,.arr 77 []),(522,.arr 73 []),(520,.arr 64 [])])):=by kernel_rfl
theorem md_round2 (pan:KP) (μ:Mu) (N:Nat) (k:KE) (i n F c z s T Q r1 r2 r3:U) (X Y:List U):(exec (mdC.panics pan) (loopBody Try.f16 1) 2 ⟨[(46,vi i),(45,vi n),(2,.ptr 256 0),(1,.val (.sl false [.int .u8]) F),(4,.ptr 512 0)],[(256,.box [vi c,vi z,vs s,.val TRC T,.own 2448,.own 5264,vl (.int .i64) Q]),(2448,.arr 73 X),(5264,.arr 77 Y),(512,.box [vi r1,vi r2,vs r3,.own 520,.own 522,.own 524,.own 526]),(526,.arr 3 []),(524,.arr 77 []),(522,.arr 73 []),(520,.arr 64 [])]⟩ (again PR (some ([2,1,4],[256,2448,5264,512,526,524,522,520])) none pan [46,45,2,1,4] [256,2448,5264,512,526,524,522,520] mdLoop2 μ N k))=(bif decide (i.int < n.int) then Alt (bif decide ((0:Int)≤i.int∧i.int < (Y.length:Int)) then bif Nat.blt (Int.toNat i.int) (List.length Y) then (PPC=PPC∧List.length (U.list (nth (U.i 0) (List.tail (List.tail (U.list (nth (U.i 0) Y (Int.toNat i.int))))) (0:Nat)))≤(1073741824:Nat))∧bif decide ((0:Int)≤i.int∧i.int < (Y.length:Int)) then bif Nat.blt (Int.toNat i.int) (List.length Y) then bif Nat.blt (μ [vi (U.i (IntKind.wrap .i64 (i.int + 1))),vi n,.ptr 256 0,.val (.sl false [.int .u8]) F,.ptr 512 0] [.box [vi c,vi z,.val .str s,.val (.sl false [.sl true EC]) T,.own 2448,.own 5264,.val (.sl false [.int .i64]) Q],.arr 73 X,.arr 77 (List.set Y (Int.toNat i.int) (U.l (patchU (U.list (nth (U.i 0) Y (Int.toNat i.int))) 2 [U.l (U.list (nth (U.i 0) (List.tail (List.tail (U.list (nth (U.i 0) Y (Int.toNat i.int))))) (0:Nat)))]))),.box [vi r1,vi r2,.val .str r3,.own 520,.own 522,.own 524,.own 526],.arr 3 [],.arr 77 [],.arr 73 [],.arr 64 []]) N then ((256=nat_lit 256∧nat_lit 0=nat_lit 0∧nat_lit 512=nat_lit 512∧nat_lit 0=nat_lit 0∧EC=EC∧nat_lit 2448=nat_lit 2448∧nat_lit 5264=nat_lit 5264∧nat_lit 73=nat_lit 73∧nat_lit 77=nat_lit 77)∧(520=nat_lit 520∧nat_lit 522=nat_lit 522∧nat_lit 524=nat_lit 524∧nat_lit 526=nat_lit 526∧nat_lit 3=nat_lit 3∧nat_lit 77=nat_lit 77∧nat_lit 73=nat_lit 73∧nat_lit 64=nat_lit 64)∧n.int=(↑(List.length (List.set Y (Int.toNat i.int) (U.l (patchU (U.list (nth (U.i 0) Y (Int.toNat i.int))) 2 [U.l (U.list (nth (U.i 0) (List.tail (List.tail (U.list (nth (U.i 0) Y (Int.toNat i.int))))) (0:Nat)))])))):Int)∧(0:Int)≤IntKind.wrap .i64 (i.int + 1)∧IntKind.wrap .i64 (i.int + 1)≤n.int∧List.length (List.set Y (Int.toNat i.int) (U.l (patchU (U.list (nth (U.i 0) Y (Int.toNat i.int))) 2 [U.l (U.list (nth (U.i 0) (List.tail (List.tail (U.list (nth (U.i 0) Y (Int.toNat i.int))))) (0:Nat)))])))≤(1073741824:Nat)∧∀ (x:U),x ∈ List.drop (Int.toNat (IntKind.wrap .i64 (i.int + 1))) (List.set Y (Int.toNat i.int) (U.l (patchU (U.list (nth (U.i 0) Y (Int.toNat i.int))) 2 [U.l (U.list (nth (U.i 0) (List.tail (List.tail (U.list (nth (U.i 0) Y (Int.toNat i.int))))) (0:Nat)))])))→List.length (mpL x)≤(1073741824:Nat))∧k (Ex.exit 2) (St.mk [(2,.ptr 256 0),(1,.val (.sl false [.int .u8]) F),(4,.ptr 512 0)] [(256,.box [vi c,vi z,.val .str s,.val (.sl false [.sl true EC]) T,.own 2448,.own 5264,.val (.sl false [.int .i64]) Q]),(2448,.arr 73 X),(5264,.arr 77 (List.take (Int.toNat (IntKind.wrap .i64 (i.int + 1))) (List.set Y (Int.toNat i.int) (U.l (patchU (U.list (nth (U.i 0) Y (Int.toNat i.int))) 2 [U.l (U.list (nth (U.i 0) (List.tail (List.tail (U.list (nth (U.i 0) Y (Int.toNat i.int))))) (0:Nat)))]))) ++ List.map mpSet (List.drop (Int.toNat (IntKind.wrap .i64 (i.int + 1))) (List.set Y (Int.toNat i.int) (U.l (patchU (U.list (nth (U.i 0) Y (Int.toNat i.int))) 2 [U.l (U.list (nth (U.i 0) (List.tail (List.tail (U.list (nth (U.i 0) Y (Int.toNat i.int))))) (0:Nat)))])))))),(512,.box [vi r1,vi r2,.val .str r3,.own 520,.own 522,.own 524,.own 526]),(526,.arr 3 []),(524,.arr 77 []),(522,.arr 73 []),(520,.arr 64 [])]) else False else False else False else False else False) (bif decide ((0:Int)≤i.int∧i.int < (Y.length:Int)) then Alt (bif Nat.blt (Int.toNat i.int) (List.length Y) then (PPC=PPC∧List.length (U.list (nth (U.i 0) (List.tail (List.tail (U.list (nth (U.i 0) Y (Int.toNat i.int))))) (0:Nat)))≤(1073741824:Nat))∧bif decide ((0:Int)≤i.int∧i.int < (Y.length:Int)) then bif Nat.blt (Int.toNat i.int) (List.length Y) then bif Nat.blt (μ [vi (U.i (IntKind.wrap .i64 (i.int + 1))),vi n,.ptr 256 0,.val (.sl false [.int .u8]) F,.ptr 512 0] [.box [vi c,vi z,.val .str s,.val (.sl false [.sl true EC]) T,.own 2448,.own 5264,.val (.sl false [.int .i64]) Q],.arr 73 X,.arr 77 (List.set Y (Int.toNat i.int) (U.l (patchU (U.list (nth (U.i 0) Y (Int.toNat i.int))) 2 [U.l (U.list (nth (U.i 0) (List.tail (List.tail (U.list (nth (U.i 0) Y (Int.toNat i.int))))) (0:Nat)))]))),.box [vi r1,vi r2,.val .str r3,.own 520,.own 522,.own 524,.own 526],.arr 3 [],.arr 77 [],.arr 73 [],.arr 64 []]) N then ((256=nat_lit 256∧nat_lit 0=nat_lit 0∧nat_lit 512=nat_lit 512∧nat_lit 0=nat_lit 0∧EC=EC∧nat_lit 2448=nat_lit 2448∧nat_lit 5264=nat_lit 5264∧nat_lit 73=nat_lit 73∧nat_lit 77=nat_lit 77)∧(520=nat_lit 520∧nat_lit 522=nat_lit 522∧nat_lit 524=nat_lit 524∧nat_lit 526=nat_lit 526∧nat_lit 3=nat_lit 3∧nat_lit 77=nat_lit 77∧nat_lit 73=nat_lit 73∧nat_lit 64=nat_lit 64)∧n.int=(↑(List.length (List.set Y (Int.toNat i.int) (U.l (patchU (U.list (nth (U.i 0) Y (Int.toNat i.int))) 2 [U.l (U.list (nth (U.i 0) (List.tail (List.tail (U.list (nth (U.i 0) Y (Int.toNat i.int))))) (0:Nat)))])))):Int)∧(0:Int)≤IntKind.wrap .i64 (i.int + 1)∧IntKind.wrap .i64 (i.int + 1)≤n.int∧List.length (List.set Y (Int.toNat i.int) (U.l (patchU (U.list (nth (U.i 0) Y (Int.toNat i.int))) 2 [U.l (U.list (nth (U.i 0) (List.tail (List.tail (U.list (nth (U.i 0) Y (Int.toNat i.int))))) (0:Nat)))])))≤(1073741824:Nat)∧∀ (x:U),x ∈ List.drop (Int.toNat (IntKind.wrap .i64 (i.int + 1))) (List.set Y (Int.toNat i.int) (U.l (patchU (U.list (nth (U.i 0) Y (Int.toNat i.int))) 2 [U.l (U.list (nth (U.i 0) (List.tail (List.tail (U.list (nth (U.i 0) Y (Int.toNat i.int))))) (0:Nat)))])))→List.length (mpL x)≤(1073741824:Nat))∧k (Ex.exit 2) (St.mk [(2,.ptr 256 0),(1,.val (.sl false [.int .u8]) F),(4,.ptr 512 0)] [(256,.box [vi c,vi z,.val .str s,.val (.sl false [.sl true EC]) T,.own 2448,.own 5264,.val (.sl false [.int .i64]) Q]),(2448,.arr 73 X),(5264,.arr 77 (List.take (Int.toNat (IntKind.wrap .i64 (i.int + 1))) (List.set Y (Int.toNat i.int) (U.l (patchU (U.list (nth (U.i 0) Y (Int.toNat i.int))) 2 [U.l (U.list (nth (U.i 0) (List.tail (List.tail (U.list (nth (U.i 0) Y (Int.toNat i.int))))) (0:Nat)))]))) ++ List.map mpSet (List.drop (Int.toNat (IntKind.wrap .i64 (i.int + 1))) (List.set Y (Int.toNat i.int) (U.l (patchU (U.list (nth (U.i 0) Y (Int.toNat i.int))) 2 [U.l (U.list (nth (U.i 0) (List.tail (List.tail (U.list (nth (U.i 0) Y (Int.toNat i.int))))) (0:Nat)))])))))),(512,.box [vi r1,vi r2,.val .str r3,.own 520,.own 522,.own 524,.own 526]),(526,.arr 3 []),(524,.arr 77 []),(522,.arr 73 []),(520,.arr 64 [])]) else False else False else False else False) (bif Nat.blt (Int.toNat i.int) (List.length Y) then (fun T=>Alt T T) ((PPC=PPC∧List.length (U.list (nth (U.i 0) (List.tail (List.tail (U.list (nth (U.i 0) Y (Int.toNat i.int))))) (0:Nat)))≤(1073741824:Nat))∧bif decide ((0:Int)≤i.int∧i.int < (Y.length:Int)) then bif Nat.blt (Int.toNat i.int) (List.length Y) then bif Nat.blt (μ [vi (U.i (IntKind.wrap .i64 (i.int + 1))),vi n,.ptr 256 0,.val (.sl false [.int .u8]) F,.ptr 512 0] [.box [vi c,vi z,.val .str s,.val (.sl false [.sl true EC]) T,.own 2448,.own 5264,.val (.sl false [.int .i64]) Q],.arr 73 X,.arr 77 (List.set Y (Int.toNat i.int) (U.l (patchU (U.list (nth (U.i 0) Y (Int.toNat i.int))) 2 [U.l (U.list (nth (U.i 0) (List.tail (List.tail (U.list (nth (U.i 0) Y (Int.toNat i.int))))) (0:Nat)))]))),.box [vi r1,vi r2,.val .str r3,.own 520,.own 522,.own 524,.own 526],.arr 3 [],.arr 77 [],.arr 73 [],.arr 64 []]) N then ((256=nat_lit 256∧nat_lit 0=nat_lit 0∧nat_lit 512=nat_lit 512∧nat_lit 0=nat_lit 0∧EC=EC∧nat_lit 2448=nat_lit 2448∧nat_lit 5264=nat_lit 5264∧nat_lit 73=nat_lit 73∧nat_lit 77=nat_lit 77)∧(520=nat_lit 520∧nat_lit 522=nat_lit 522∧nat_lit 524=nat_lit 524∧nat_lit 526=nat_lit 526∧nat_lit 3=nat_lit 3∧nat_lit 77=nat_lit 77∧nat_lit 73=nat_lit 73∧nat_lit 64=nat_lit 64)∧n.int=(↑(List.length (List.set Y (Int.toNat i.int) (U.l (patchU (U.list (nth (U.i 0) Y (Int.toNat i.int))) 2 [U.l (U.list (nth (U.i 0) (List.tail (List.tail (U.list (nth (U.i 0) Y (Int.toNat i.int))))) (0:Nat)))])))):Int)∧(0:Int)≤IntKind.wrap .i64 (i.int + 1)∧IntKind.wrap .i64 (i.int + 1)≤n.int∧List.length (List.set Y (Int.toNat i.int) (U.l (patchU (U.list (nth (U.i 0) Y (Int.toNat i.int))) 2 [U.l (U.list (nth (U.i 0) (List.tail (List.tail (U.list (nth (U.i 0) Y (Int.toNat i.int))))) (0:Nat)))])))≤(1073741824:Nat)∧∀ (x:U),x ∈ List.drop (Int.toNat (IntKind.wrap .i64 (i.int + 1))) (List.set Y (Int.toNat i.int) (U.l (patchU (U.list (nth (U.i 0) Y (Int.toNat i.int))) 2 [U.l (U.list (nth (U.i 0) (List.tail (List.tail (U.list (nth (U.i 0) Y (Int.toNat i.int))))) (0:Nat)))])))→List.length (mpL x)≤(1073741824:Nat))∧k (Ex.exit 2) (St.mk [(2,.ptr 256 0),(1,.val (.sl false [.int .u8]) F),(4,.ptr 512 0)] [(256,.box [vi c,vi z,.val .str s,.val (.sl false [.sl true EC]) T,.own 2448,.own 5264,.val (.sl false [.int .i64]) Q]),(2448,.arr 73 X),(5264,.arr 77 (List.take (Int.toNat (IntKind.wrap .i64 (i.int + 1))) (List.set Y (Int.toNat i.int) (U.l (patchU (U.list (nth (U.i 0) Y (Int.toNat i.int))) 2 [U.l (U.list (nth (U.i 0) (List.tail (List.tail (U.list (nth (U.i 0) Y (Int.toNat i.int))))) (0:Nat)))]))) ++ List.map mpSet (List.drop (Int.toNat (IntKind.wrap .i64 (i.int + 1))) (List.set Y (Int.toNat i.int) (U.l (patchU (U.list (nth (U.i 0) Y (Int.toNat i.int))) 2 [U.l (U.list (nth (U.i 0) (List.tail (List.tail (U.list (nth (U.i 0) Y (Int.toNat i.int))))) (0:Nat)))])))))),(512,.box [vi r1,vi r2,.val .str r3,.own 520,.own 522,.own 524,.own 526]),(526,.arr 3 []),(524,.arr 77 []),(522,.arr 73 []),(520,.arr 64 [])]) else False else False else False) else False) else False) else k (Ex.exit 2) (St.mk [(2,.ptr 256 0),(1,.val (.sl false [.int .u8]) F),(4,.ptr 512 0)] [(256,.box [vi c,vi z,.val .str s,.val (.sl false [.sl true EC]) T,.own 2448,.own 5264,.val (.sl false [.int .i64]) Q]),(2448,.arr 73 X),(5264,.arr 77 Y),(512,.box [vi r1,vi r2,.val .str r3,.own 520,.own 522,.own 524,.own 526]),(526,.arr 3 []),(524,.arr 77 []),(522,.arr 73 []),(520,.arr 64 [])])):=by kernel_rfl
theorem md_tree (R:RF) (c z s T Sh M Q F:U):(run mdC Try.f16 [[c,z,s,T,Sh,M,Q],[F]] R)=(bif !metaR c z s T Sh M Q then R [[U.i 0,U.i 0,U.s ⟨#[]⟩,U.l [],U.l [],U.l [],U.l []],[U.i 1]] else (fun T=>Alt T (Alt T T)) (badP [[c,z,s,T,Sh,M,Q],[U.l (whU F)]]∧((EC=EC∧[Ct.str,.int .i64,Ct.sl false [Ct.sl true EC]]=[.str,.int .i64,Ct.sl false [.sl true EC]]∧[Ct.str,Ct.bool,Ct.sl true PPC]=[.str,Ct.bool,Ct.sl true PPC]∧PPC=PPC)∧List.length (bdU c z s T Sh M Q F)≤(1073741824:Nat)∧woOk T.list Sh.list (bdU c z s T Sh M Q F))∧((256=nat_lit 256∧nat_lit 0=nat_lit 0∧nat_lit 512=nat_lit 512∧nat_lit 0=nat_lit 0∧EC=EC∧nat_lit 2448=nat_lit 2448∧[Ct.str,Ct.bool,Ct.sl true PPC]=[.str,Ct.bool,Ct.sl true PPC]∧nat_lit 73=nat_lit 73)∧(520=nat_lit 520∧nat_lit 522=nat_lit 522∧nat_lit 524=nat_lit 524∧nat_lit 526=nat_lit 526∧nat_lit 3=nat_lit 3∧nat_lit 77=nat_lit 77∧nat_lit 73=nat_lit 73∧nat_lit 64=nat_lit 64)∧(↑(List.length (Prod.snd (woU c z s T Sh M Q F))):Int)=(↑(List.length (Prod.snd (woU c z s T Sh M Q F))):Int)∧(0:Int)≤0∧(0:Int)≤(↑(List.length (Prod.snd (woU c z s T Sh M Q F))):Int)∧List.length (Prod.snd (woU c z s T Sh M Q F))≤(1073741824:Nat)∧∀ (x:U),x ∈ List.drop (Int.toNat 0) (Prod.snd (woU c z s T Sh M Q F))→tabP (U.list (shT x)))∧([Ct.str,Ct.bool,Ct.sl true PPC]=[.str,Ct.bool,Ct.sl true PPC]∧M.list.length≤(1073741824:Nat))∧((256=nat_lit 256∧nat_lit 0=nat_lit 0∧nat_lit 512=nat_lit 512∧nat_lit 0=nat_lit 0∧EC=EC∧nat_lit 2448=nat_lit 2448∧nat_lit 5264=nat_lit 5264∧nat_lit 73=nat_lit 73∧nat_lit 77=nat_lit 77)∧(520=nat_lit 520∧nat_lit 522=nat_lit 522∧nat_lit 524=nat_lit 524∧nat_lit 526=nat_lit 526∧nat_lit 3=nat_lit 3∧nat_lit 77=nat_lit 77∧nat_lit 73=nat_lit 73∧nat_lit 64=nat_lit 64)∧(M.list.length:Int)=(M.list.length:Int)∧(0:Int)≤0∧(0:Int)≤(M.list.length:Int)∧M.list.length≤(1073741824:Nat)∧∀ (x:U),x ∈ List.drop (Int.toNat 0) M.list→List.length (mpL x)≤(1073741824:Nat))∧((EC=EC∧[Ct.str,.int .i64,Ct.sl false [Ct.sl true EC]]=[.str,.int .i64,Ct.sl false [.sl true EC]]∧[Ct.str,Ct.bool,Ct.sl true PPC]=[.str,Ct.bool,Ct.sl true PPC])∧((0:Int)≤szU F∧szU F≤65536)∧ofP [[c,z,s,U.l (Prod.fst (woU c z s T Sh M Q F)),U.l (List.take (Int.toNat 0) (Prod.snd (woU c z s T Sh M Q F)) ++ List.map (fun x=>shSet x (U.list (shT x))) (List.drop (Int.toNat 0) (Prod.snd (woU c z s T Sh M Q F)))),U.l (List.take (Int.toNat 0) M.list ++ List.map mpSet (List.drop (Int.toNat 0) M.list)),Q],[U.i (szU F)]])∧R [[c,z,s,U.l (Prod.fst (woU c z s T Sh M Q F)),U.l (List.take (Int.toNat 0) (Prod.snd (woU c z s T Sh M Q F)) ++ List.map (fun x=>shSet x (U.list (shT x))) (List.drop (Int.toNat 0) (Prod.snd (woU c z s T Sh M Q F)))),U.l (List.take (Int.toNat 0) M.list ++ List.map mpSet (List.drop (Int.toNat 0) M.list)),U.l (ofV (linesM [[c,z,s,U.l (Prod.fst (woU c z s T Sh M Q F)),U.l (List.take (Int.toNat 0) (Prod.snd (woU c z s T Sh M Q F)) ++ List.map (fun x=>shSet x (U.list (shT x))) (List.drop (Int.toNat 0) (Prod.snd (woU c z s T Sh M Q F)))),U.l (List.take (Int.toNat 0) M.list ++ List.map mpSet (List.drop (Int.toNat 0) M.list)),Q],[U.i (szU F)]]) (Int.toNat (szU F)))],[U.i 0]])):=by kernel_rfl
theorem mdT_tree (R:RT) (c z s T Sh M Q F:U):(runD mdC Try.f16 [.agg [vi c,vi z,vs s,.val TRC T,vt SC Sh,vt BC M,vl (.int .i64) Q],vl (.int .u8) F] [] R)=(bif !metaR c z s T Sh M Q then R (Out.ret [.agg [vi (U.i 0),vi (U.i 0),.val .str (U.s ⟨#[]⟩),.own 2097152,.own 2097280,.own 2097408,.own 2097536],vi (U.i 1)]) [(2097152,.arr 64 []),(2097280,.arr 73 []),(2097408,.arr 77 []),(2097536,.arr 3 [])] else (fun T=>Alt T (Alt T T)) (badP [[c,z,s,T,Sh,M,Q],[U.l (whU F)]]∧((EC=EC∧[Ct.str,.int .i64,Ct.sl false [Ct.sl true EC]]=[.str,.int .i64,Ct.sl false [.sl true EC]]∧[Ct.str,Ct.bool,Ct.sl true PPC]=[.str,Ct.bool,Ct.sl true PPC]∧PPC=PPC)∧List.length (bdU c z s T Sh M Q F)≤(1073741824:Nat)∧woOk T.list Sh.list (bdU c z s T Sh M Q F))∧((256=nat_lit 256∧nat_lit 0=nat_lit 0∧nat_lit 512=nat_lit 512∧nat_lit 0=nat_lit 0∧EC=EC∧nat_lit 2448=nat_lit 2448∧[Ct.str,Ct.bool,Ct.sl true PPC]=[.str,Ct.bool,Ct.sl true PPC]∧nat_lit 73=nat_lit 73)∧(520=nat_lit 520∧nat_lit 522=nat_lit 522∧nat_lit 524=nat_lit 524∧nat_lit 526=nat_lit 526∧nat_lit 3=nat_lit 3∧nat_lit 77=nat_lit 77∧nat_lit 73=nat_lit 73∧nat_lit 64=nat_lit 64)∧(↑(List.length (Prod.snd (woU c z s T Sh M Q F))):Int)=(↑(List.length (Prod.snd (woU c z s T Sh M Q F))):Int)∧(0:Int)≤0∧(0:Int)≤(↑(List.length (Prod.snd (woU c z s T Sh M Q F))):Int)∧List.length (Prod.snd (woU c z s T Sh M Q F))≤(1073741824:Nat)∧∀ (x:U),x ∈ List.drop (Int.toNat 0) (Prod.snd (woU c z s T Sh M Q F))→tabP (U.list (shT x)))∧([Ct.str,Ct.bool,Ct.sl true PPC]=[.str,Ct.bool,Ct.sl true PPC]∧M.list.length≤(1073741824:Nat))∧((256=nat_lit 256∧nat_lit 0=nat_lit 0∧nat_lit 512=nat_lit 512∧nat_lit 0=nat_lit 0∧EC=EC∧nat_lit 2448=nat_lit 2448∧nat_lit 5264=nat_lit 5264∧nat_lit 73=nat_lit 73∧nat_lit 77=nat_lit 77)∧(520=nat_lit 520∧nat_lit 522=nat_lit 522∧nat_lit 524=nat_lit 524∧nat_lit 526=nat_lit 526∧nat_lit 3=nat_lit 3∧nat_lit 77=nat_lit 77∧nat_lit 73=nat_lit 73∧nat_lit 64=nat_lit 64)∧(M.list.length:Int)=(M.list.length:Int)∧(0:Int)≤0∧(0:Int)≤(M.list.length:Int)∧M.list.length≤(1073741824:Nat)∧∀ (x:U),x ∈ List.drop (Int.toNat 0) M.list→List.length (mpL x)≤(1073741824:Nat))∧((EC=EC∧[Ct.str,.int .i64,Ct.sl false [Ct.sl true EC]]=[.str,.int .i64,Ct.sl false [.sl true EC]]∧[Ct.str,Ct.bool,Ct.sl true PPC]=[.str,Ct.bool,Ct.sl true PPC])∧((0:Int)≤szU F∧szU F≤65536)∧ofP [[c,z,s,U.l (Prod.fst (woU c z s T Sh M Q F)),U.l (List.take (Int.toNat 0) (Prod.snd (woU c z s T Sh M Q F)) ++ List.map (fun x=>shSet x (U.list (shT x))) (List.drop (Int.toNat 0) (Prod.snd (woU c z s T Sh M Q F)))),U.l (List.take (Int.toNat 0) M.list ++ List.map mpSet (List.drop (Int.toNat 0) M.list)),Q],[U.i (szU F)]])∧R (Out.ret [.agg [vi c,vi z,.val .str s,.val (.sl false [.sl true EC]) (U.l (Prod.fst (woU c z s T Sh M Q F))),.val (.sl true [.str,.int .i64,Ct.sl false [.sl true EC]]) (U.l (List.take (Int.toNat 0) (Prod.snd (woU c z s T Sh M Q F)) ++ List.map (fun x=>shSet x (U.list (shT x))) (List.drop (Int.toNat 0) (Prod.snd (woU c z s T Sh M Q F))))),.val (.sl true [.str,Ct.bool,Ct.sl true PPC]) (U.l (List.take (Int.toNat 0) M.list ++ List.map mpSet (List.drop (Int.toNat 0) M.list))),.own 2097152],vi (U.i 0)]) [(2097152,.arr 3 (ofV (linesM [[c,z,s,U.l (Prod.fst (woU c z s T Sh M Q F)),U.l (List.take (Int.toNat 0) (Prod.snd (woU c z s T Sh M Q F)) ++ List.map (fun x=>shSet x (U.list (shT x))) (List.drop (Int.toNat 0) (Prod.snd (woU c z s T Sh M Q F)))),U.l (List.take (Int.toNat 0) M.list ++ List.map mpSet (List.drop (Int.toNat 0) M.list)),Q],[U.i (szU F)]]) (Int.toNat (szU F))))])):=by kernel_rfl
end Go.Mat
