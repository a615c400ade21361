/- A part of the proof of this: behind a mending there are no faults; what was not bad shows the same; a meta without bad entries keeps them all. Conditions: none. Joined of F112, B113, F113, B115, F114, F115, F119, B130, F130, B131, F131, B132, DenRR, F132, F133. -/
import Derived.Test.YtjleagfibbbjnaaC5
import Derived.KernelRfl
namespace Go.Mat
open Go Go.Den Go.Proofs
set_option maxRecDepth 100000
abbrev cutSh (x:U):U:=shSet x (shT x).list
theorem map_step {f:U→U} {X:List U} {i:Nat} (hi:i < X.length):(X.set i (f (U.at X i))).take (i + 1) ++ ((X.set i (f (U.at X i))).drop (i + 1)).map f=X.take i ++ (X.drop i).map f:=by
 rw [drop_cons_at hi,List.map_cons]
 have h1:(X.set i (f (U.at X i))).drop (i + 1)=X.drop (i + 1):=by rw [List.drop_set_of_lt (by omega)]
 have h2:(X.set i (f (U.at X i))).take (i + 1)=X.take i ++ [f (U.at X i)]:=by
  rw [List.take_succ_eq_append_getElem (by rw [List.length_set];exact hi),List.getElem_set_self,List.take_set_of_le (by omega)]
 rw [h1,h2,List.append_assoc]
 rfl
theorem drop_set_in {X:List U} {i:Nat} {y x:U} (h:x ∈ (X.set i y).drop (i + 1)):x ∈ X.drop i:=by
 rw [List.drop_set_of_lt (by omega)] at h
 exact List.drop_subset_drop_left X (by omega:i≤i + 1) h
theorem md_loop0:LoopOk mdC 0 (loopBody Try.f16 0):=by
 refine loopOk_of (F:=mdLoop0) (ts:=[23,22,2,1,4]) (os:=[256,2448,512,526,524,522,520]) rfl (fun svs _=>match svs with | .val _ i :: .val _ n :: _=>(n.int - i.int).toNat | _=>0) ?_
 intro pan svs os k ho1 ho2 h
 unfold mdLoop0 at h
 split at h
 ·rename_i i n p q F p4 q4 c z s x1 T o x2 M Q t X r1 r2 r3 o1 o2 o3 o4 t4 t3 t2 t1
  obtain ⟨⟨⟨rfl,rfl,rfl,rfl,rfl,rfl,rfl,rfl⟩,⟨rfl,rfl,rfl,rfl,rfl,rfl,rfl,rfl⟩,hn,h0,hin,hX,hT⟩,hk⟩:=h
  refine .eq (md_round0 pan _ _ k i n F c z s T M Q r1 r2 r3 X) ?_
  refine bd (fun hlt=>?_) (fun hlt=>?_)
  ·have hi:i.int.toNat < X.length:=by omega
   have hwi:IntKind.wrap .i64 (i.int + 1)=i.int + 1:=i64_in (by omega) (by omega)
   have hc:(i.int + 1).toNat=i.int.toNat + 1:=by omega
   have e1:decide ((0:Int)≤i.int∧i.int < (X.length:Int))=true:=decide_eq_true ⟨h0,by omega⟩
   have e2:Nat.blt i.int.toNat X.length=true:=by simpa [Nat.blt_eq] using hi
   have hm:U.at X i.int.toNat ∈ X.drop i.int.toNat:=by rw [drop_cons_at hi];exact List.mem_cons_self ..
   have hs:=map_step (f:=cutSh) hi
   have hfe:U.l (patchU (U.list (nth (U.i 0) X (Int.toNat i.int))) 2 [U.l (U.list (nth (U.i 0) (List.tail (List.tail (U.list (nth (U.i 0) X (Int.toNat i.int))))) (0:Nat)))])=cutSh (U.at X i.int.toNat):=rfl
   simp only [e1,e2,cond_true,Alt_self]
   rw [hwi,hc,hfe,hs]
   refine ⟨⟨hT _ hm,rfl⟩,blt (by simp only [U.int_i];omega) ⟨⟨⟨by trivial,by trivial,by trivial,by trivial,by trivial,by trivial,by trivial,by trivial⟩,⟨by trivial,by trivial,by trivial,by trivial,by trivial,by trivial,by trivial,by trivial⟩,by rw [List.length_set];exact hn,by omega,by omega,by rw [List.length_set];exact hX,fun x hx=>hT x (drop_set_in hx)⟩,hk⟩⟩
  ·have hd:X.drop i.int.toNat=[]:=List.drop_eq_nil_of_le (by omega)
   have ht:X.take i.int.toNat=X:=List.take_of_length_le (by omega)
   rw [hd,ht,List.map_nil,List.append_nil] at hk
   exact hk
 ·exact h.elim
theorem md_loop2:LoopOk mdC 2 (loopBody Try.f16 1):=by
 refine loopOk_of (F:=mdLoop2) (ts:=[46,45,2,1,4]) (os:=[256,2448,5264,512,526,524,522,520]) rfl (fun svs _=>match svs with | .val _ i :: .val _ n :: _=>(n.int - i.int).toNat | _=>0) ?_
 intro pan svs os k ho1 ho2 h
 unfold mdLoop2 at h
 split at h
 ·rename_i i n p q F p4 q4 c z s x1 T o o5 Q t X t5 Y r1 r2 r3 o1 o2 o3 o4 t4 t3 t2 t1
  obtain ⟨⟨⟨rfl,rfl,rfl,rfl,rfl,rfl,rfl,rfl,rfl⟩,⟨rfl,rfl,rfl,rfl,rfl,rfl,rfl,rfl⟩,hn,h0,hin,hX,hT⟩,hk⟩:=h
  refine .eq (md_round2 pan _ _ k i n F c z s T Q r1 r2 r3 X Y) ?_
  refine bd (fun hlt=>?_) (fun hlt=>?_)
  ·have hi:i.int.toNat < Y.length:=by omega
   have hwi:IntKind.wrap .i64 (i.int + 1)=i.int + 1:=i64_in (by omega) (by omega)
   have hc:(i.int + 1).toNat=i.int.toNat + 1:=by omega
   have e1:decide ((0:Int)≤i.int∧i.int < (Y.length:Int))=true:=decide_eq_true ⟨h0,by omega⟩
   have e2:Nat.blt i.int.toNat Y.length=true:=by simpa [Nat.blt_eq] using hi
   have hm:U.at Y i.int.toNat ∈ Y.drop i.int.toNat:=by rw [drop_cons_at hi];exact List.mem_cons_self ..
   have hs:=map_step (f:=mpSet) hi
   have hfe:U.l (patchU (U.list (nth (U.i 0) Y (Int.toNat i.int))) 2 [U.l (U.list (nth (U.i 0) (List.tail (List.tail (U.list (nth (U.i 0) Y (Int.toNat i.int))))) (0:Nat)))])=mpSet (U.at Y i.int.toNat):=rfl
   simp only [e1,e2,cond_true,Alt_self]
   rw [hwi,hc,hfe,hs]
   refine ⟨⟨by trivial,hT _ hm⟩,blt (by simp only [U.int_i];omega) ⟨⟨⟨by trivial,by trivial,by trivial,by trivial,by trivial,by trivial,by trivial,by trivial,by trivial⟩,⟨by trivial,by trivial,by trivial,by trivial,by trivial,by trivial,by trivial,by trivial⟩,by rw [List.length_set];exact hn,by omega,by omega,by rw [List.length_set];exact hX,fun x hx=>hT x (drop_set_in hx)⟩,hk⟩⟩
  ·have hd:Y.drop i.int.toNat=[]:=List.drop_eq_nil_of_le (by omega)
   have ht:Y.take i.int.toNat=Y:=List.take_of_length_le (by omega)
   rw [hd,ht,List.map_nil,List.append_nil] at hk
   exact hk
 ·exact h.elim
theorem shotLines_cut:∀ (i:Int) (X:List U),shotLines i (X.map cutSh)=shotLines i X
 | _,[]=>rfl
 | i,x :: r=>by
  rw [List.map_cons,shotLines,shotLines,shotLines_cut (i + 1) r]
  have e:shT x=nth (.i 0) x.list 2:=by show nth _ x.list.tail.tail 0=_;rw [nth_tail,nth_tail]
  have e':shT (cutSh x)=nth (.i 0) (cutSh x).list 2:=by show nth _ (cutSh x).list.tail.tail 0=_;rw [nth_tail,nth_tail]
  rw [← e,← e',shT_shSet]
  rfl
def mdS:List (List U)→List (List U):=fun us=>match us with
 | [[c,z,s,T,Sh,M,Q],[F]]=>[[bif metaR c z s T Sh M Q then c else .i 0,bif metaR c z s T Sh M Q then z else .i 0,bif metaR c z s T Sh M Q then s else .s (ByteArray.mk #[]),.l (bif metaR c z s T Sh M Q then (woU c z s T Sh M Q F).1 else []),
   .l (bif metaR c z s T Sh M Q then (woU c z s T Sh M Q F).2.map cutSh else []),.l (bif metaR c z s T Sh M Q then M.list.map mpSet else []),.l (bif metaR c z s T Sh M Q then ofV (okM c z s T Sh M Q F) (szU F).toNat else [])],[.i (bif metaR c z s T Sh M Q then 0 else 1)]]
 | _=>[]
def mdP:List (List U)→Prop:=fun us=>mgP (nth (.i 0) (nth [] us 0) 3) (nth (.i 0) (nth [] us 0) 4)∧∀ x,x ∈ (nth (.i 0) (nth [] us 0) 5).list→(mpL x).length≤1073741824
theorem md_conds {c z s T Sh M Q F:U} (hr:metaR c z s T Sh M Q=true) (hpre:mgP T Sh):GM T.list Sh.list∧((bdU c z s T Sh M Q F).length≤36864∧∀ p,p ∈ bdU c z s T Sh M Q F→(U.at p.list 0).int < (Sh.list.length:Int))∧
  GM (woU c z s T Sh M Q F).1 (woU c z s T Sh M Q F).2∧M.list.length≤8∧(∀ X Y,linesM [[c,z,s,.l (woU c z s T Sh M Q F).1,.l ((woU c z s T Sh M Q F).2.map fun x=>shSet x (U.list (shT x))),X,Y],[.i (szU F)]]=okM c z s T Sh M Q F)∧
  GM (woU c z s T Sh M Q F).1 ((woU c z s T Sh M Q F).2.map cutSh):=by
 obtain ⟨hG,hQ,hML⟩:=GM.of_right hr hpre.1 hpre.2
 obtain ⟨b1,b2⟩:=GM.bad (F:=whU F) (c:=c.int) hG
 have hbe:bdU c z s T Sh M Q F=(badL (whU F) c.int (linesOf (.i (-1)) T.list ++ shotLines 0 Sh.list)).1:=rfl
 rw [← hbe] at b1 b2
 have i0:inFit (U.i 0).int:=⟨by decide,by decide⟩
 obtain ⟨hW,hWl⟩:=GM.wo (a:=.i 1) (e:=.i 0) (g:=.i 0) i0 i0 hG b2
 have hwe:woU c z s T Sh M Q F=woOf (.i 1) (.i 0) (.i 0) (.i 0) (.i 0) T.list Sh.list (bdU c z s T Sh M Q F):=rfl
 rw [← hwe] at hW hWl
 have hws:=hW.s
 have hlm:∀ X Y,linesM [[c,z,s,.l (woU c z s T Sh M Q F).1,.l ((woU c z s T Sh M Q F).2.map fun x=>shSet x (U.list (shT x))),X,Y],[.i (szU F)]]=okM c z s T Sh M Q F:=fun X Y=>by
  show linesOf (.i (-1)) (woU c z s T Sh M Q F).1 ++ shotLines 0 ((woU c z s T Sh M Q F).2.map cutSh)=_
  rw [shotLines_cut];rfl
 have hWc:GM (woU c z s T Sh M Q F).1 ((woU c z s T Sh M Q F).2.map cutSh):=⟨hW.t,by rw [List.length_map];exact hW.s,fun x hx=>by
  obtain ⟨y,hy,rfl⟩:=List.mem_map.1 hx
  rw [shT_shSet];exact hW.st y hy⟩
 exact ⟨hG,⟨b1,b2⟩,hW,hML,hlm,hWc⟩
theorem md_ok:SpecFP PR 16 mdP mdS:=fun fn us hfn hpre=>by
 have hf:PR.funcs[(16:Nat)]? = some Try.f16:=by kernel_rfl
 rw [hf] at hfn;cases hfn
 refine fn_okH (C:=mdC) (mkC_ok eqs0_ok mixed_ok (.cons meta_ok (.cons whole_ok (.consP bad_ok (.consP cut_ok .nil)))) (.cons wo_ok (.cons clb_ok (.cons (clp_ok.frz [2097152]) (.cons ofT_ok .nil))))) hf (by kernel_rfl) (loops_two (by kernel_rfl) md_loop0 md_loop2) fun hok=>?_
 have hp:Try.f16.params.toList=[41,25]:=by kernel_rfl
 rw [hp] at hok
 obtain ⟨u,u2,rfl,h1,h2⟩:=shape2 (by kernel_rfl:Cs PR 41=some (true,[.int .i64,.int .i64,.str,.sl false [.sl true EC],.sl true SC,.sl true BC,.sl false [.int .i64]])) (by kernel_rfl:Cs PR 25=some (false,[.sl false [.int .u8]])) hok.1
 obtain ⟨c,z,s,T,Sh,M,Q,rfl⟩:∃ a b c d e f g,u=[a,b,c,d,e,f,g]:=match u,h1 with | [a,b,c,d,e,f,g],_=>⟨a,b,c,d,e,f,g,rfl⟩
 obtain ⟨F,rfl⟩:=len1 h2
 clear hok h1 h2
 obtain ⟨hpre,hM⟩:mgP T Sh∧∀ x,x ∈ M.list→(mpL x).length≤1073741824:=hpre
 refine .eq (md_tree _ c z s T Sh M Q F) ?_
 refine bi (fun hr=>by simp only [mdS,nt hr,cond_false]) (fun hr=>?_)
 simp only [mdS,nf hr,cond_true]
 obtain ⟨hG,⟨b1,b2⟩,hW,hML,hlm,hWc⟩:=md_conds (F:=F) (nf hr) hpre
 have hws:=hW.s
 obtain ⟨n0,n1⟩:=szU_in F
 simp only [Int.toNat_zero,List.drop_zero,List.take_zero,List.nil_append,hlm,Alt_self]
 refine ⟨⟨hG.each.1,?_⟩,⟨⟨by trivial,by trivial,by trivial,by trivial⟩,by omega,hG.ok b2⟩,⟨⟨by trivial,by trivial,by trivial,by trivial,by trivial,by trivial,by trivial,by trivial⟩,⟨by trivial,by trivial,by trivial,by trivial,by trivial,by trivial,by trivial,by trivial⟩,by trivial,by omega,by omega,by omega,fun x hx=>(hW.st x hx).tab⟩,⟨by trivial,by omega⟩,⟨⟨by trivial,by trivial,by trivial,by trivial,by trivial,by trivial,by trivial,by trivial,by trivial⟩,⟨by trivial,by trivial,by trivial,by trivial,by trivial,by trivial,by trivial,by trivial⟩,by trivial,by omega,by omega,by omega,hM⟩,⟨⟨by trivial,by trivial,by trivial⟩,⟨n0,n1⟩,hWc.each.1,?_⟩,by trivial⟩
 ·have:=hG.each.2
  show (linesOf (.i (-1)) T.list ++ shotLines 0 Sh.list).length≤536870912
  omega
 ·rw [hlm];exact hW.fit
noncomputable def mdF:Tr:=fun args objs k=>match args,objs with
 | [.agg [.val (.int .i64) c,.val (.int .i64) z,.val .str s,.val (.sl false [.sl true x1]) T,.val (.sl true x3) Sh,.val (.sl true x2) M,.val (.sl false [.int .i64]) Q],.val (.sl false [.int .u8]) F],[]=>
  ((x1=EC∧x3=SC∧x2=BC)∧metaR c z s T Sh M Q=true∧mdP [[c,z,s,T,Sh,M,Q],[F]])∧
  k (.ret [.agg [vi c,vi z,vs s,.val TRC (.l (woU c z s T Sh M Q F).1),vt SC (.l ((woU c z s T Sh M Q F).2.map cutSh)),vt BC (.l (M.list.map mpSet)),.own 2097152],vi (.i 0)]) [(2097152,.arr 3 (ofV (okM c z s T Sh M Q F) (szU F).toNat))]
 | _,_=>False
theorem mdT_ok:SpecT PR 16 mdF:=fun fn hfn=>by
 have hf:PR.funcs[(16:Nat)]? = some Try.f16:=by kernel_rfl
 rw [hf] at hfn;cases hfn
 refine fnT_okH (C:=mdC) (mkC_ok eqs0_ok mixed_ok (.cons meta_ok (.cons whole_ok (.consP bad_ok (.consP cut_ok .nil)))) (.cons wo_ok (.cons clb_ok (.cons (clp_ok.frz [2097152]) (.cons ofT_ok .nil))))) hf (by kernel_rfl) (loops_two (by kernel_rfl) md_loop0 md_loop2) fun vs objs R h1 h2 h=>?_
 clear h1 h2
 unfold mdF at h
 split at h
 ·rename_i c z s x1 T x3 Sh x2 M Q F
  obtain ⟨⟨⟨rfl,rfl,rfl⟩,hr,hpre,hM⟩,hk⟩:=h
  have hpre:mgP T Sh:=hpre
  refine .eq (mdT_tree _ c z s T Sh M Q F) ?_
  rw [hr]
  show (fun T=>Alt T (Alt T T)) _
  obtain ⟨hG,⟨b1,b2⟩,hW,hML,hlm,hWc⟩:=md_conds (F:=F) hr hpre
  have hws:=hW.s
  obtain ⟨n0,n1⟩:=szU_in F
  simp only [Int.toNat_zero,List.drop_zero,List.take_zero,List.nil_append,hlm,Alt_self]
  refine ⟨⟨hG.each.1,?_⟩,⟨⟨by trivial,by trivial,by trivial,by trivial⟩,by omega,hG.ok b2⟩,⟨⟨by trivial,by trivial,by trivial,by trivial,by trivial,by trivial,by trivial,by trivial⟩,⟨by trivial,by trivial,by trivial,by trivial,by trivial,by trivial,by trivial,by trivial⟩,by trivial,by omega,by omega,by omega,fun x hx=>(hW.st x hx).tab⟩,⟨by trivial,by omega⟩,⟨⟨by trivial,by trivial,by trivial,by trivial,by trivial,by trivial,by trivial,by trivial,by trivial⟩,⟨by trivial,by trivial,by trivial,by trivial,by trivial,by trivial,by trivial,by trivial⟩,by trivial,by omega,by omega,by omega,hM⟩,⟨⟨by trivial,by trivial,by trivial⟩,⟨n0,n1⟩,hWc.each.1,?_⟩,hk⟩
  ·have:=hG.each.2
   show (linesOf (.i (-1)) T.list ++ shotLines 0 Sh.list).length≤536870912
   omega
  ·rw [hlm];exact hW.fit
 ·exact h.elim
end Go.Mat

namespace Go.Mat
open Go Go.Den Go.Proofs
noncomputable def eqsF (t:TypeId):Option (List IntKind):=bif Nat.beq t 47 then some [.i64,.i64,.i64] else eqs0 t
def tA15:List (List U)→List (List U):=fun _=>[[.b true]]
def nA15:List (List U)→List (List U):=fun us=>[[nth (.i 0) (nth [] us 0) 0]]
theorem numA_tree (R:RF) (n:U):(run K0 Try.f12 [[n]] R)=(R [[n]]):=by kernel_rfl
noncomputable def awC:Ctx:=mkC PR eqsF (fnsCons 12 nA15 (fnsCons 22 getS (fnsConsP 15 faP faS (fnsConsP 16 mdP mdS fnsNil)))) trsNil noLoops noOut noOut
theorem aw_tree (R:RF):(run awC Try.f9 [] R)=(faP [[U.i 0,U.i 1,U.s ⟨#[]⟩,U.l [U.l (List.set (List.set (List.set (List.set (List.set (List.set (List.set (List.set (List.replicate (8:Nat) (U.l [U.i 0,U.i 0,U.i 0,U.i 0,U.i 0])) (0:Nat) (U.l [U.i 2,U.i 9,U.i 1,U.i 0,U.i 0])) (1:Nat) (U.l [U.i 0,U.i 0,U.i 0,U.i 0,U.i 0])) (2:Nat) (U.l [U.i 0,U.i 0,U.i 0,U.i 0,U.i 0])) (3:Nat) (U.l [U.i 0,U.i 0,U.i 0,U.i 0,U.i 0])) (4:Nat) (U.l [U.i 0,U.i 0,U.i 0,U.i 0,U.i 0])) (5:Nat) (U.l [U.i 0,U.i 0,U.i 0,U.i 0,U.i 0])) (6:Nat) (U.l [U.i 0,U.i 0,U.i 0,U.i 0,U.i 0])) (7:Nat) (U.l [U.i 0,U.i 0,U.i 0,U.i 0,U.i 0]))],U.l [],U.l [],U.l []],[U.l (List.replicate (Int.toNat 64) (U.i 0))]]∧(fun T=>Alt (Alt (Alt T T) T) (Alt (Alt (Alt T T) T) (Alt T T))) (mdP [[U.i 0,U.i 1,U.s ⟨#[]⟩,U.l [U.l (List.set (List.set (List.set (List.set (List.set (List.set (List.set (List.set (List.replicate (8:Nat) (U.l [U.i 0,U.i 0,U.i 0,U.i 0,U.i 0])) (0:Nat) (U.l [U.i 2,U.i 9,U.i 1,U.i 0,U.i 0])) (1:Nat) (U.l [U.i 0,U.i 0,U.i 0,U.i 0,U.i 0])) (2:Nat) (U.l [U.i 0,U.i 0,U.i 0,U.i 0,U.i 0])) (3:Nat) (U.l [U.i 0,U.i 0,U.i 0,U.i 0,U.i 0])) (4:Nat) (U.l [U.i 0,U.i 0,U.i 0,U.i 0,U.i 0])) (5:Nat) (U.l [U.i 0,U.i 0,U.i 0,U.i 0,U.i 0])) (6:Nat) (U.l [U.i 0,U.i 0,U.i 0,U.i 0,U.i 0])) (7:Nat) (U.l [U.i 0,U.i 0,U.i 0,U.i 0,U.i 0]))],U.l [],U.l [],U.l []],[U.l (List.replicate (Int.toNat 64) (U.i 0))]]∧R [[U.b (U.int (entF (0:Nat) (bif metaR (U.i 0) (U.i 1) (U.s ⟨#[]⟩) (U.l [U.l (List.set (List.set (List.set (List.set (List.set (List.set (List.set (List.set (List.replicate (8:Nat) (U.l [U.i 0,U.i 0,U.i 0,U.i 0,U.i 0])) (0:Nat) (U.l [U.i 2,U.i 9,U.i 1,U.i 0,U.i 0])) (1:Nat) (U.l [U.i 0,U.i 0,U.i 0,U.i 0,U.i 0])) (2:Nat) (U.l [U.i 0,U.i 0,U.i 0,U.i 0,U.i 0])) (3:Nat) (U.l [U.i 0,U.i 0,U.i 0,U.i 0,U.i 0])) (4:Nat) (U.l [U.i 0,U.i 0,U.i 0,U.i 0,U.i 0])) (5:Nat) (U.l [U.i 0,U.i 0,U.i 0,U.i 0,U.i 0])) (6:Nat) (U.l [U.i 0,U.i 0,U.i 0,U.i 0,U.i 0])) (7:Nat) (U.l [U.i 0,U.i 0,U.i 0,U.i 0,U.i 0]))]) (U.l []) (U.l []) (U.l []) then Prod.fst (woU (U.i 0) (U.i 1) (U.s ⟨#[]⟩) (U.l [U.l (List.set (List.set (List.set (List.set (List.set (List.set (List.set (List.set (List.replicate (8:Nat) (U.l [U.i 0,U.i 0,U.i 0,U.i 0,U.i 0])) (0:Nat) (U.l [U.i 2,U.i 9,U.i 1,U.i 0,U.i 0])) (1:Nat) (U.l [U.i 0,U.i 0,U.i 0,U.i 0,U.i 0])) (2:Nat) (U.l [U.i 0,U.i 0,U.i 0,U.i 0,U.i 0])) (3:Nat) (U.l [U.i 0,U.i 0,U.i 0,U.i 0,U.i 0])) (4:Nat) (U.l [U.i 0,U.i 0,U.i 0,U.i 0,U.i 0])) (5:Nat) (U.l [U.i 0,U.i 0,U.i 0,U.i 0,U.i 0])) (6:Nat) (U.l [U.i 0,U.i 0,U.i 0,U.i 0,U.i 0])) (7:Nat) (U.l [U.i 0,U.i 0,U.i 0,U.i 0,U.i 0]))]) (U.l []) (U.l []) (U.l []) (U.l (List.replicate (Int.toNat 64) (U.i 0)))) else []) 0) == 1)]])):=by kernel_rfl
end Go.Mat

namespace Go.Mat
open Go Go.Den Go.Proofs
set_option maxRecDepth 100000
theorem eqsF_ok:∀ t ks,eqsF t=some ks→EqOk PR t ks:=by
 intro t ks h
 unfold eqsF at h
 cases hb:Nat.beq t 47 with
 | true=>
  rw [hb] at h
  have:=Nat.eq_of_beq_eq_true hb
  subst this
  injection h with h
  subst h
  exact eq_ok (by kernel_rfl)
 | false=>rw [hb] at h;exact eqs0_ok t ks h
theorem numA_ok:SpecF PR 12 nA15:=fun fn us hfn=>by
 have hf:PR.funcs[(12:Nat)]? = some Try.f12:=by kernel_rfl
 rw [hf] at hfn;cases hfn
 refine fn_okH (C:=K0) (mkC_ok eqs0_ok mixed_ok .nil .nil) hf (by kernel_rfl) (loops_none (by kernel_rfl)) fun hok=>?_
 have hp:Try.f12.params.toList=[27]:=by kernel_rfl
 rw [hp] at hok
 obtain ⟨u,rfl,h1⟩:=shape1 (by kernel_rfl:Cs PR 27=some (false,[.int .i64])) hok.1
 obtain ⟨n,rfl⟩:=len1 h1
 exact .eq (numA_tree _ n) rfl
theorem aw_ok:SpecF PR 9 tA15:=fun fn us hfn=>by
 have hf:PR.funcs[(9:Nat)]? = some Try.f9:=by kernel_rfl
 rw [hf] at hfn;cases hfn
 refine fn_okH (C:=awC) (mkC_ok eqsF_ok mixed_ok (.cons numA_ok (.cons at_ok (.consP fa_ok (.consP md_ok .nil)))) .nil) hf (by kernel_rfl) (loops_none (by kernel_rfl)) fun hok=>?_
 have hp:Try.f9.params.toList=[]:=by kernel_rfl
 rw [hp] at hok
 have hus:us=[]:=hok.1
 subst hus
 refine .eq (aw_tree _) ?_
 have hg:∀ T:U,T.list.length≤1099511627776→mgP T (.l []):=fun T hT=>⟨hT,fun x hx=>by cases hx⟩
 simp only [Alt_self]
 refine ⟨hg _ (by decide),⟨hg _ (by decide),fun x hx=>by cases hx⟩,?_⟩
 kernel_rfl
end Go.Mat

namespace Go.Mat
open Go Go.Den Go.Proofs
abbrev FLC:List Ct:=[.int .i64,.int .i64,.int .i64]
def cnt1:List U→Int
 | []=>0
 | u :: r=>(bif (nth (.i 0) u.list 0).int == 1 then 1 else 0) + cnt1 r
abbrev mBox (c z s T Sh M Q:U):Den.Obj:=.box [vi c,vi z,vs s,.val TRC T,vt SC Sh,vt BC M,vl (.int .i64) Q]
abbrev vf (F:U):SV:=.val (.sl false [.int .u8]) F
end Go.Mat

namespace Go.Mat
open Go Go.Den Go.Proofs
set_option maxRecDepth 100000
theorem rfits_at {T:List U} {a b d e g c:Int} (ht:rtableR T 4096 c=true) (hm:mayR a b d e g c=true):∀ (n:Nat) (c0:Int),c0≤c→c < c0 + n→rfitsFrom T a b d e g n c0=true
 | 0,c0,h1,h2=>by omega
 | n + 1,c0,h1,h2=>by
  rw [rfitsFrom]
  by_cases he:c0=c
  ·subst he;rw [ht,hm];rfl
  ·have ih:=rfits_at ht hm n (c0 + 1) (by omega) (by omega)
   rw [ih]
   cases rtableR T 4096 c0<;>cases mayR a b d e g c0<;>rfl
theorem fits_at {T:List U} {a b d e g c:Int} (ht:tableR T 4096 c=true) (hm:mayR a b d e g c=true):∀ (n:Nat) (c0:Int),c0≤c→c < c0 + n→fitsFrom T a b d e g n c0=true
 | 0,c0,h1,h2=>by omega
 | n + 1,c0,h1,h2=>by
  rw [fitsFrom]
  by_cases he:c0=c
  ·subst he;rw [ht,hm];rfl
  ·have ih:=fits_at ht hm n (c0 + 1) (by omega) (by omega)
   rw [ih]
   cases tableR T 4096 c0<;>cases mayR a b d e g c0<;>rfl
theorem setY_in {T:List U} {i:Int} {a b d e g:U} {c:Int} (h0:0≤i) (h1:i < 4096) (hc0:0≤c) (hc6:c≤6) (ht:rtableR T 4096 c=true) (hm:mayR a.int b.int d.int e.int g.int c=true) (ha:(a.int == 0)=false) :
  setY T i a b d e g=setZ T i.toNat [a,b,d,e,g]:=by
 unfold setY
 rw [rfits_at ht hm 7 0 hc0 (by omega),decide_eq_false (by omega),decide_eq_false (by omega),ha]
 rfl
theorem setX_in {T:List U} {i:Int} {a b d e g:U} {c:Int} (h0:0≤i) (h1:i < 4096) (hc0:0≤c) (hc6:c≤6) (ht:tableR T 4096 c=true) (hm:mayR a.int b.int d.int e.int g.int c=true) :
  setX T i a b d e g=setR T i.toNat [a,b,d,e,g]:=by
 unfold setX
 rw [fits_at ht hm 7 0 hc0 (by omega),decide_eq_false (by omega),decide_eq_false (by omega)]
 rfl
theorem cond2_mem {p q:Bool} {a b u:U} (h:u ∈ (bif p then [a] else bif q then [b] else [])):u=a∨u=b:=by
 cases p<;>cases q<;>simp at h<;>simp [h]
theorem flCnt_kind {sz:Int} {Q:List U} {i:Int} {x u:U} (h:u ∈ flCnt sz Q i x):(nth (.i 0) u.list 0).int=2∨(nth (.i 0) u.list 0).int=3:=by
 rcases cond2_mem h with rfl | rfl
 ·exact .inl rfl
 ·exact .inr rfl
theorem flCnts_kind {sz:Int} {Q:List U}:∀ {L:List U} {i:Int} {u:U},u ∈ flCnts sz Q i L→(nth (.i 0) u.list 0).int=2∨(nth (.i 0) u.list 0).int=3
 | [],_,_,h=>by cases h
 | x :: r,i,u,h=>by
  rw [flCnts,List.mem_append] at h
  exact h.elim flCnt_kind flCnts_kind
end Go.Mat

namespace Go.Mat
open Go Go.Den Go.Proofs
set_option maxRecDepth 100000
theorem cnt1_app:∀ (L M:List U),cnt1 (L ++ M)=cnt1 L + cnt1 M
 | [],M=>by show cnt1 M=0 + cnt1 M;omega
 | u :: r,M=>by
  show _ + cnt1 (r ++ M)=(_ + cnt1 r) + cnt1 M
  rw [cnt1_app r M];omega
theorem cnt1_none:∀ {L:List U},(∀ u,u ∈ L→(nth (.i 0) u.list 0).int=2∨(nth (.i 0) u.list 0).int=3)→cnt1 L=0
 | [],_=>rfl
 | u :: r,h=>by
  show (bif (nth (.i 0) u.list 0).int == 1 then (1:Int) else 0) + cnt1 r=0
  rw [cnt1_none fun v hv=>h v (List.mem_cons_of_mem _ hv)]
  rcases h u (List.mem_cons_self ..) with e | e<;>rw [e]<;>rfl
end Go.Mat

namespace Go.Mat
open Go Go.Den Go.Proofs
set_option maxRecDepth 100000
def plI (l:U):Int × Int:=((lnU l 0).int,(lnU l 1).int)
def plU (l:U):U:=.l [lnU l 0,lnU l 1]
def badT (F:List U) (c:Int) (all:List PK) (l:U):Bool:=wrongB F c l || all.any (meetP (pkOf l))
def allS (all:List PK) (l:U):List PK:=bif decide (pkOf l ∈ all) then all else all ++ [pkOf l]
def keepL (F:List U) (c:Int):List PK→List U→List U
 | _,[]=>[]
 | all,l :: r=>bif badT F c all l then keepL F c all r else l :: keepL F c (allS all l) r
def outL (F:List U) (c:Int):List PK→List U→List U
 | _,[]=>[]
 | all,l :: r=>bif badT F c all l then l :: outL F c all r else outL F c (allS all l) r
section
variable {F:List U} {c:Int}
theorem fold_out:∀ (ls o:List U) (all:List PK),(ls.foldl (badStep F c) (o,all)).1=o ++ (outL F c all ls).map plU
 | [],o,all=>(List.append_nil o).symm
 | l :: r,o,all=>by
  have e:badStep F c (o,all) l=bif badT F c all l then (o ++ [plU l],all) else (o,allS all l):=rfl
  rw [List.foldl_cons,outL,e]
  cases badT F c all l with
  | true=>rw [cond_true,cond_true,fold_out r,List.map_cons,List.append_assoc];rfl
  | false=>rw [cond_false,cond_false,fold_out r]
theorem out_keep:∀ (ls:List U) (all:List PK),outL F c all (keepL F c all ls)=[]
 | [],_=>rfl
 | l :: r,all=>by
  rw [keepL]
  cases h:badT F c all l with
  | true=>rw [cond_true,out_keep r]
  | false=>rw [cond_false,outL,h,cond_false,out_keep r]
theorem out_sub:∀ {ls:List U} {all:List PK} {x:U},x ∈ outL F c all ls→x ∈ ls
 | [],_,_,h=>by cases h
 | l :: r,all,x,h=>by
  rw [outL] at h
  cases hb:badT F c all l with
  | true=>
   rw [hb,cond_true] at h
   rcases List.mem_cons.1 h with rfl | h
   ·exact List.mem_cons_self ..
   ·exact List.mem_cons_of_mem _ (out_sub h)
  | false=>rw [hb,cond_false] at h;exact List.mem_cons_of_mem _ (out_sub h)
theorem keep_len:∀ (ls:List U) (all:List PK),(keepL F c all ls).length + (outL F c all ls).length=ls.length
 | [],_=>rfl
 | l :: r,all=>by
  rw [keepL,outL]
  cases badT F c all l with
  | true=>rw [cond_true,cond_true,List.length_cons,List.length_cons,← keep_len r all];omega
  | false=>rw [cond_false,cond_false,List.length_cons,List.length_cons,← keep_len r (allS all l)];omega
theorem out_nodup:∀ (ls:List U) (all:List PK),(ls.map plI).Nodup→((outL F c all ls).map plI).Nodup
 | [],_,_=>List.nodup_nil
 | l :: r,all,h=>by
  obtain ⟨h1,h2⟩:=List.nodup_cons.1 h
  rw [outL]
  cases badT F c all l with
  | true=>
   rw [cond_true]
   refine List.nodup_cons.2 ⟨fun hm=>h1 ?_,out_nodup r all h2⟩
   obtain ⟨x,hx,e⟩:=List.mem_map.1 hm
   exact List.mem_map.2 ⟨x,out_sub hx,e⟩
  | false=>rw [cond_false];exact out_nodup r _ h2
theorem keep_filter:∀ (ls:List U) (all:List PK),(ls.map plI).Nodup→ls.filter (fun l=>!decide (plI l ∈ (outL F c all ls).map plI))=keepL F c all ls
 | [],_,_=>rfl
 | l :: r,all,h=>by
  obtain ⟨h1,h2⟩:=List.nodup_cons.1 h
  rw [keepL,outL]
  cases badT F c all l with
  | true=>
   rw [cond_true,cond_true,List.filter_cons_of_neg (by simp),← keep_filter r all h2]
   refine List.filter_congr fun x hx=>?_
   have hn:plI x≠plI l:=fun e=>h1 (List.mem_map.2 ⟨x,hx,e⟩)
   simp [hn]
  | false=>
   have hn:plI l ∉ (outL F c (allS all l) r).map plI:=fun hm=>by
    obtain ⟨x,hx,e⟩:=List.mem_map.1 hm
    exact h1 (List.mem_map.2 ⟨x,out_sub hx,e⟩)
   rw [cond_false,cond_false,List.filter_cons_of_pos (by simpa using hn),keep_filter r _ h2]
end
theorem rents_at {n c i:Int}:∀ (l:List U) (k:Int),rentsR n c i k l=true↔∀ j,j < l.length→rentOk n c i (k + j) (U.at l j)=true
 | [],k=>⟨fun _ j hj=>absurd hj (Nat.not_lt_zero _),fun _=>rfl⟩
 | e :: r,k=>by
  rw [rentsR,Bool.and_eq_true,rents_at r]
  constructor
  ·rintro ⟨h1,h2⟩ j hj
   cases j with
   | zero=>rw [show k + ((0:Nat):Int)=k by omega];exact h1
   | succ j=>rw [show k + ((j + 1:Nat):Int)=k + 1 + j by omega];exact h2 j (by simpa using hj)
  ·intro h
   refine ⟨?_,fun j hj=>?_⟩
   ·have:=h 0 (by simp);rw [show k + ((0:Nat):Int)=k by omega] at this;exact this
   ·have:=h (j + 1) (by simpa using hj);rw [show k + ((j + 1:Nat):Int)=k + 1 + j by omega] at this;exact this
theorem rsome_at:∀ (l:List U),rsomeR l=true↔∃ j,j < l.length∧(e0 (U.at l j)).int≠0
 | []=>⟨fun h=>(by cases h),fun ⟨j,hj,_⟩=>absurd hj (Nat.not_lt_zero _)⟩
 | e :: r=>by
  have ih:=rsome_at r
  unfold rsomeR at ih ⊢
  rw [List.any_cons,Bool.or_eq_true,ih,decide_eq_true_eq]
  constructor
  ·rintro (h | ⟨j,hj,h⟩)
   ·exact ⟨0,by simp,h⟩
   ·exact ⟨j + 1,by simpa using hj,h⟩
  ·rintro ⟨j,hj,h⟩
   cases j with
   | zero=>exact .inl h
   | succ j=>exact .inr ⟨j,by simpa using hj,h⟩
theorem rleaves_at {n c:Int}:∀ (L:List U) (i:Int),rleavesR n c i L=true↔∀ j,j < L.length→(U.at L j).list=[]∨rleafR n c (i + j) (U.at L j).list=true
 | [],i=>⟨fun _ j hj=>absurd hj (Nat.not_lt_zero _),fun _=>rfl⟩
 | l :: r,i=>by
  rw [rleavesR]
  have key:(if l.list=[] then rleavesR n c (i + 1) r else rleafR n c i l.list && rleavesR n c (i + 1) r)=true↔(l.list=[]∨rleafR n c i l.list=true)∧rleavesR n c (i + 1) r=true:=by
   by_cases h:l.list=[]
   ·simp [h]
   ·simp [h]
  rw [key,rleaves_at r]
  constructor
  ·rintro ⟨h1,h2⟩ j hj
   cases j with
   | zero=>rw [show i + ((0:Nat):Int)=i by omega];exact h1
   | succ j=>rw [show i + ((j + 1:Nat):Int)=i + 1 + j by omega];exact h2 j (by simpa using hj)
  ·intro h
   refine ⟨?_,fun j hj=>?_⟩
   ·have:=h 0 (by simp);rw [show i + ((0:Nat):Int)=i by omega] at this;exact this
   ·have:=h (j + 1) (by simpa using hj);rw [show i + ((j + 1:Nat):Int)=i + 1 + j by omega] at this;exact this
def zapE:List U:=[.i 1,.i 0,.i 0,.i 0,.i 0]
def zapT (T:List U) (k:Nat):List U:=T.set (k / 8) (.l (pokeR (U.at T (k / 8)).list (k % 8) zapE))
structure TR (T:List U) (n c:Int):Prop where
 n0:0≤n
 n1:n≤4096
 c0:0≤c
 c1:c≤6
 last:lastOk T=true
 row:∀ j:Nat,j < T.length→(U.at T j).list=[]∨rleafR n c j (U.at T j).list=true
theorem TR.iff {T:List U} {n c:Int}:tableR T n c=true↔TR T n c:=by
 unfold tableR
 by_cases h:n < 0∨4096 < n∨c < 0∨6 < c
 ·rw [if_pos h]
  exact ⟨fun h=>by (cases h),fun g=>by have:=g.n0;have:=g.n1;have:=g.c0;have:=g.c1;omega⟩
 ·rw [if_neg h,leavesR_eq,Bool.and_eq_true,rleaves_at]
  constructor
  ·rintro ⟨h1,h2⟩
   exact ⟨by omega,by omega,by omega,by omega,h1,fun j hj=>by have:=h2 j hj;rw [Int.zero_add] at this;exact this⟩
  ·intro g
   exact ⟨g.last,fun j hj=>by have:=g.row j hj;rw [Int.zero_add];exact this⟩
theorem may_zap {c:Int} (h0:0≤c) (h1:c≤6):mayR 1 0 0 0 0 c=true:=by
 unfold mayR
 rw [if_neg (by omega),if_pos (.inr rfl)]
 decide
theorem TR.hit {T:List U} {n c:Int} (g:TR T n c) {k:Nat} (h:hitR T k=true):k / 8 < T.length∧(U.at T (k / 8)).list.length=8∧(e0 (entU T k)).int≠0∧rleafR n c (k / 8:Nat) (U.at T (k / 8)).list=true:=by
 have he:entF 0 T (k:Int)=e0 (entU T k):=by
  unfold entF
  rw [decide_eq_false (by omega:¬ (k:Int) < 0),cond_false]
  rfl
 have h0:(e0 (entU T k)).int≠0:=by
  intro e
  unfold hitR at h
  rw [he,e] at h
  cases h
 have h1:k / 8 < T.length:=by
  by_cases h1:k / 8 < T.length
  ·exact h1
  ·refine absurd ?_ h0
   unfold entU
   have:nth (.i 0) T (k / 8) = .i 0:=at_over (by omega)
   rw [this];rfl
 have h2:=g.row _ h1
 rcases h2 with h2 | h2
 ·refine absurd ?_ h0
  unfold entU
  have e:(nth (.i 0) T (k / 8)).list=[]:=h2
  rw [e];rfl
 ·refine ⟨h1,?_,h0,h2⟩
  unfold rleafR at h2
  simp only [Bool.and_eq_true,decide_eq_true_eq] at h2
  exact h2.1.1
section
variable {T:List U} {n c:Int} {k:Nat}
theorem ent_zap (h1:k / 8 < T.length) (h2:(U.at T (k / 8)).list.length=8) (j:Nat):entU (zapT T k) j=if j=k then .l (patchU (entU T k).list 0 zapE) else entU T j:=by
 have e:U.at (zapT T k) (j / 8)=if j / 8=k / 8 then .l (pokeR (U.at T (k / 8)).list (k % 8) zapE) else U.at T (j / 8):=at_set h1
 show U.at (U.at (zapT T k) (j / 8)).list (j % 8)=_
 rw [e]
 by_cases hd:j / 8=k / 8
 ·rw [if_pos hd]
  show U.at (pokeR (U.at T (k / 8)).list (k % 8) zapE) (j % 8)=_
  unfold pokeR
  rw [at_set (by omega)]
  by_cases hm:j % 8=k % 8
  ·rw [if_pos hm,if_pos (by omega)];rfl
  ·rw [if_neg hm,if_neg (by omega),← hd];rfl
 ·rw [if_neg hd,if_neg (fun e=>hd (by rw [e]))];rfl
theorem hit_zap (h1:k / 8 < T.length) (h2:(U.at T (k / 8)).list.length=8) (j:Nat):hitR (zapT T k) j=(!decide (j=k) && hitR T j):=by
 have he:∀ T:List U,entF 0 T (j:Int)=e0 (entU T j):=fun T=>by
  unfold entF
  rw [decide_eq_false (by omega:¬ (j:Int) < 0),cond_false]
  rfl
 unfold hitR
 rw [he,he,ent_zap h1 h2]
 by_cases h:j=k
 ·rw [if_pos h,decide_eq_true h];rfl
 ·rw [if_neg h,decide_eq_false h];rfl
theorem line_zap (h1:k / 8 < T.length) (h2:(U.at T (k / 8)).list.length=8) {j:Nat} (h:j≠k) (s:U):lineU s (zapT T k) j=lineU s T j:=by
 have he:∀ i,entF i (zapT T k) (j:Int)=entF i T (j:Int):=fun i=>by
  unfold entF
  rw [decide_eq_false (by omega:¬ (j:Int) < 0),cond_false,cond_false,Int.toNat_natCast,ent_zap h1 h2,if_neg h]
 unfold lineU
 rw [he,he,he,he,he]
theorem lines_zap (h1:k / 8 < T.length) (h2:(U.at T (k / 8)).list.length=8) (s:U):linesOf s (zapT T k)=(linesOf s T).filter fun l=>!decide ((lnU l 1).int=k):=by
 have hl:(zapT T k).length=T.length:=List.length_set ..
 unfold linesOf linesTo
 rw [hl,List.filter_map,List.filter_map,List.filter_filter]
 congr 1
 have e:(List.range (8 * T.length)).filter (hitR (zapT T k))=(List.range (8 * T.length)).filter fun a=>(((fun l=>!decide ((lnU l 1).int=(k:Int))) ∘ U.l) ∘ lineU s T) a && hitR T a:=by
  refine List.filter_congr fun a _=>?_
  rw [hit_zap h1 h2]
  congr 2
  show decide (a=k)=decide ((a:Int)=(k:Int))
  rw [decide_eq_decide];omega
 rw [e]
 refine List.map_congr_left fun a ha=>line_zap h1 h2 (fun e=>?_) s
 have:=(List.mem_filter.1 ha).2
 rw [Bool.and_eq_true] at this
 have h9:(!decide ((a:Int)=(k:Int)))=true:=this.1
 rw [decide_eq_true (by omega)] at h9
 cases h9
theorem TR.zap (g:TR T n c) (h:hitR T k=true):TR (zapT T k) n c:=by
 obtain ⟨h1,h2,h3,h4⟩:=g.hit h
 have hl:(zapT T k).length=T.length:=List.length_set ..
 unfold rleafR at h4
 simp only [Bool.and_eq_true,decide_eq_true_eq] at h4
 have hm:k % 8 < (U.at T (k / 8)).list.length:=by omega
 have hrow:rleafR n c (k / 8:Nat) (pokeR (U.at T (k / 8)).list (k % 8) zapE)=true:=by
  unfold rleafR
  have hpl:(pokeR (U.at T (k / 8)).list (k % 8) zapE).length=8:=by unfold pokeR;rw [List.length_set];exact h2
  rw [decide_eq_true hpl,Bool.true_and,Bool.and_eq_true]
  refine ⟨(rents_at _ _).2 fun j hj=>?_,(rsome_at _).2 ⟨k % 8,by omega,?_⟩⟩
  ·have hj':j < (U.at T (k / 8)).list.length:=by rw [hpl] at hj;omega
   have ho:=(rents_at _ _).1 h4.1.2 j hj'
   unfold pokeR
   rw [at_set hm]
   split
   ·rename_i e
    subst e
    unfold rentOk at ho ⊢
    rw [Bool.and_eq_true,Bool.or_eq_true] at ho
    have hi:=ho.2.resolve_left (by rw [decide_eq_true_eq];exact h3)
    rw [hi,Bool.or_true,Bool.and_true]
    exact may_zap g.c0 g.c1
   ·exact ho
  ·unfold pokeR
   rw [at_set hm,if_pos rfl]
   show (1:Int)≠0
   decide
 refine ⟨g.n0,g.n1,g.c0,g.c1,?_,fun j hj=>?_⟩
 ·have hne:T≠[]:=fun e=>by rw [e] at h1;simp at h1
  have hlast:=g.last
  unfold lastOk at hlast ⊢
  rw [decide_eq_false hne,Bool.false_or] at hlast
  rw [decide_eq_false (fun e=>hne (List.length_eq_zero_iff.1 (by rw [← hl,e];rfl))),Bool.false_or,hl]
  have e:nth (.i 0) (zapT T k) (T.length - 1)=if T.length - 1=k / 8 then .l (pokeR (U.at T (k / 8)).list (k % 8) zapE) else U.at T (T.length - 1):=at_set h1
  rw [e]
  split
  ·rw [decide_eq_false];rfl
   intro hc
   have:(pokeR (U.at T (k / 8)).list (k % 8) zapE).length=8:=by unfold pokeR;rw [List.length_set];exact h2
   have hc:pokeR (U.at T (k / 8)).list (k % 8) zapE=[]:=hc
   rw [hc] at this
   cases this
  ·exact hlast
 ·rw [hl] at hj
  have e:U.at (zapT T k) j=if j=k / 8 then .l (pokeR (U.at T (k / 8)).list (k % 8) zapE) else U.at T j:=at_set h1
  rw [e]
  split
  ·rename_i e;subst e;exact .inr hrow
  ·exact g.row j hj
theorem TR.mono (g:TR T n c):TR T 4096 c:=by
 refine ⟨by decide,by decide,g.c0,g.c1,g.last,fun j hj=>(g.row j hj).imp_right fun h=>?_⟩
 unfold rleafR at h ⊢
 simp only [Bool.and_eq_true] at h ⊢
 refine ⟨⟨h.1.1,(rents_at _ _).2 fun i hi=>?_⟩,h.2⟩
 have ho:=(rents_at _ _).1 h.1.2 i hi
 unfold rentOk at ho ⊢
 rw [Bool.and_eq_true,Bool.or_eq_true,decide_eq_true_eq,decide_eq_true_eq] at ho ⊢
 have:=g.n1
 exact ⟨ho.1,ho.2.imp_right fun h=>by omega⟩
theorem trim_last {xs:List U} (h:lastOk xs=true):trimN xs.length xs=xs:=by
 cases hl:xs.length with
 | zero=>rfl
 | succ m=>
  unfold lastOk at h
  rw [decide_eq_false (fun e=>by rw [e] at hl;cases hl),Bool.false_or,hl,Nat.add_sub_cancel] at h
  have h:(nth (.i 0) xs m).list≠[]:=by simpa using h
  rw [trimN]
  have hn:(((U.at xs m).list.length:Int) == 0)=false:=by
   rw [beq_eq_false_iff_ne]
   intro e
   exact h (List.length_eq_zero_iff.1 (Int.ofNat.inj e))
  rw [hn];rfl
theorem set_zap (g:TR T n c) (h:hitR T k=true) (hT:T.length≤512):setX T k (.i 1) (.i 0) (.i 0) (.i 0) (.i 0)=zapT T k:=by
 obtain ⟨h1,h2,h3,h4⟩:=g.hit h
 rw [setX_in (a:=.i 1) (b:=.i 0) (d:=.i 0) (e:=.i 0) (g:=.i 0) (c:=c) (by omega) (by omega) g.c0 g.c1 (TR.iff.2 g.mono) (may_zap g.c0 g.c1),Int.toNat_natCast]
 unfold setR
 simp only
 have hp:padR T (k / 8 + 1 - T.length)=T:=by
  rw [show k / 8 + 1 - T.length=0 by omega]
  unfold padR
  rw [List.replicate_zero,List.append_nil]
 have hr:rowOf (U.at T (k / 8))=(U.at T (k / 8)).list:=by unfold rowOf;rw [h2];rfl
 rw [hp,hr]
 have hk:keepR (pokeR (U.at T (k / 8)).list (k % 8) zapE)=pokeR (U.at T (k / 8)).list (k % 8) zapE:=by
  have ha:∀ (l:List U) (j:Nat) (x:U),j < l.length→entNone x=false→anyNN (l.set j x)=true:=by
   intro l
   induction l with
   | nil=>intro j x hj;simp at hj
   | cons y r ih=>
    intro j x hj hx
    cases j with
    | zero=>rw [List.set_cons_zero,anyNN,hx];rfl
    | succ j=>
     rw [List.set_cons_succ,anyNN,ih j x (by simpa using hj) hx]
     cases entNone y<;>rfl
  unfold keepR
  have:anyNN (pokeR (U.at T (k / 8)).list (k % 8) zapE)=true:=by
   unfold pokeR
   exact ha _ _ _ (by omega) rfl
  rw [this];rfl
 have hz:T.set (k / 8) (.l (keepR (pokeR (U.at T (k / 8)).list (k % 8) [.i 1,.i 0,.i 0,.i 0,.i 0])))=zapT T k:=by unfold zapT;rw [← hk];rfl
 rw [hz]
 exact trim_last (g.zap h).last
end
def lnsM (st:List U × List U):List U:=linesOf (.i (-1)) st.1 ++ shotLines 0 st.2
theorem shot_mem:∀ {S:List U} {i:Int} {l:U},l ∈ shotLines i S→∃ j:Nat,j < S.length∧l ∈ linesOf (.i (i + j)) (shT (U.at S j)).list
 | [],_,_,h=>by cases h
 | x :: r,i,l,h=>by
  rw [shotLines,List.mem_append] at h
  rcases h with h | h
  ·refine ⟨0,by simp,?_⟩
   have e:shT x=nth (.i 0) x.list 2:=by show nth _ x.list.tail.tail 0=_;rw [nth_tail,nth_tail]
   rw [show i + ((0:Nat):Int)=i by omega]
   show l ∈ linesOf (.i i) (shT x).list
   rw [e];exact h
  ·obtain ⟨j,h1,h2⟩:=shot_mem h
   refine ⟨j + 1,by simpa using h1,?_⟩
   rw [show i + ((j + 1:Nat):Int)=i + 1 + j by omega]
   exact h2
theorem line_mem {s:U} {T:List U} {l:U} (h:l ∈ linesOf s T):∃ k,hitR T k=true∧l = .l (lineU s T k):=by
 unfold linesOf linesTo at h
 obtain ⟨x,hx,rfl⟩:=List.mem_map.1 h
 obtain ⟨i,hi,rfl⟩:=List.mem_map.1 hx
 exact ⟨i,(List.mem_filter.1 hi).2,rfl⟩
theorem plI_line (s:U) (T:List U) (k:Nat):plI (.l (lineU s T k))=(s.int,(k:Int)):=rfl
theorem lines_nodup (s:U) (T:List U):((linesOf s T).map plI).Nodup:=by
 unfold linesOf linesTo
 rw [List.map_map,List.map_map]
 refine List.Pairwise.map _ (R:=(·≠·)) (fun a b hab=>?_) (List.Pairwise.filter _ List.nodup_range)
 show (s.int,(a:Int))≠(s.int,(b:Int))
 intro e
 have:=congrArg Prod.snd e
 simp at this
 exact hab (by omega)
theorem shots_nodup:∀ (S:List U) (i:Int),((shotLines i S).map plI).Nodup
 | [],_=>List.nodup_nil
 | x :: r,i=>by
  rw [shotLines,List.map_append,List.nodup_append]
  refine ⟨lines_nodup _ _,shots_nodup r (i + 1),fun a ha b hb e=>?_⟩
  obtain ⟨l,hl,rfl⟩:=List.mem_map.1 ha
  obtain ⟨m,hm,rfl⟩:=List.mem_map.1 hb
  obtain ⟨k,_,rfl⟩:=line_mem hl
  obtain ⟨j,_,hm⟩:=shot_mem hm
  obtain ⟨k',_,rfl⟩:=line_mem hm
  rw [plI_line,plI_line] at e
  have:=congrArg Prod.fst e
  simp [U.int] at this
  omega
theorem lns_nodup (st:List U × List U):((lnsM st).map plI).Nodup:=by
 unfold lnsM
 rw [List.map_append,List.nodup_append]
 refine ⟨lines_nodup _ _,shots_nodup _ _,fun a ha b hb e=>?_⟩
 obtain ⟨l,hl,rfl⟩:=List.mem_map.1 ha
 obtain ⟨m,hm,rfl⟩:=List.mem_map.1 hb
 obtain ⟨k,_,rfl⟩:=line_mem hl
 obtain ⟨j,_,hm⟩:=shot_mem hm
 obtain ⟨k',_,rfl⟩:=line_mem hm
 rw [plI_line,plI_line] at e
 have:=congrArg Prod.fst e
 simp [U.int] at this
theorem filt_all {L:List U} {v:Int × Int} (h:∀ l,l ∈ L→(plI l).1≠v.1):L.filter (fun l=>!decide (plI l=v))=L:=by
 refine List.filter_eq_self.2 fun l hl=>?_
 rw [decide_eq_false fun e=>h l hl (congrArg Prod.fst e)];rfl
theorem lines_fst {s:U} {T:List U} {l:U} (h:l ∈ linesOf s T):(plI l).1=s.int:=by
 obtain ⟨k,_,rfl⟩:=line_mem h;rfl
theorem lines_zap2 {T:List U} {k:Nat} (h1:k / 8 < T.length) (h2:(U.at T (k / 8)).list.length=8) (s:U):linesOf s (zapT T k)=(linesOf s T).filter fun l=>!decide (plI l=(s.int,(k:Int))):=by
 rw [lines_zap h1 h2]
 refine List.filter_congr fun l hl=>?_
 have:=lines_fst hl
 congr 1
 rw [decide_eq_decide]
 show _↔plI l=_
 constructor
 ·intro h;exact Prod.ext this h
 ·intro h;exact congrArg Prod.snd h
theorem shot_zap:∀ {S:List U} {i:Int} {j k:Nat},j < S.length→(k / 8 < (shT (U.at S j)).list.length∧(U.at (shT (U.at S j)).list (k / 8)).list.length=8)→
  shotLines i (S.set j (shSet (U.at S j) (zapT (shT (U.at S j)).list k)))=(shotLines i S).filter fun l=>!decide (plI l=(i + j,(k:Int)))
 | [],_,_,_,h,_=>absurd h (Nat.not_lt_zero _)
 | x :: r,i,0,k,_,h=>by
  have h:k / 8 < (shT x).list.length∧(U.at (shT x).list (k / 8)).list.length=8:=h
  have e:shT x=nth (.i 0) x.list 2:=by show nth _ x.list.tail.tail 0=_;rw [nth_tail,nth_tail]
  show shotLines i (shSet x (zapT (shT x).list k) :: r)=_
  have e':nth (.i 0) (shSet x (zapT (shT x).list k)).list 2 = .l (zapT (shT x).list k):=by
   have:shT (shSet x (zapT (shT x).list k))=nth (.i 0) (shSet x (zapT (shT x).list k)).list 2:=by show nth _ (shSet x (zapT (shT x).list k)).list.tail.tail 0=_;rw [nth_tail,nth_tail]
   rw [← this];rfl
  rw [shotLines,shotLines,List.filter_append,e',← e,show i + ((0:Nat):Int)=i by omega]
  show linesOf (.i i) (zapT (shT x).list k) ++ _=_
  rw [lines_zap2 h.1 h.2]
  congr 1
  refine (filt_all fun l hl=>?_).symm
  obtain ⟨j,_,hm⟩:=shot_mem hl
  rw [lines_fst hm]
  show i + 1 + (j:Int)≠i
  omega
 | x :: r,i,j + 1,k,hj,h=>by
  have ih:=shot_zap (S:=r) (i:=i + 1) (j:=j) (k:=k) (by simpa using hj) h
  show shotLines i (x :: r.set j (shSet (U.at r j) (zapT (shT (U.at r j)).list k)))=_
  rw [shotLines,shotLines,List.filter_append,ih,show i + ((j + 1:Nat):Int)=i + 1 + j by omega]
  congr 1
  refine (filt_all fun l hl=>?_).symm
  rw [lines_fst hl]
  show i≠i + 1 + (j:Int)
  omega
structure MR (n c:Int) (T S:List U):Prop where
 t:TR T n c
 tl:T.length≤512
 s:shotsR c S=true
 sl:∀ x,x ∈ S→(shT x).list.length≤512
theorem shT_e2 (x:U):shT x=e2 x:=by show nth _ x.list.tail.tail 0=_;rw [nth_tail,nth_tail]
theorem shots_at {c:Int}:∀ (S:List U),shotsR c S=true↔∀ j,j < S.length→sizeR (e1 (U.at S j)).int c=true∧tableR (shT (U.at S j)).list ((e1 (U.at S j)).int / 2 ^ c.toNat) c=true
 | []=>⟨fun _ j hj=>absurd hj (Nat.not_lt_zero _),fun _=>rfl⟩
 | x :: r=>by
  rw [shotsR,Bool.and_eq_true,Bool.and_eq_true,shots_at r,← shT_e2]
  constructor
  ·rintro ⟨h1,h2⟩ j hj
   cases j with
   | zero=>exact h1
   | succ j=>exact h2 j (by simpa using hj)
  ·intro h
   exact ⟨h 0 (by simp),fun j hj=>h (j + 1) (by simpa using hj)⟩
theorem e1_shSet (x:U) (T:List U):e1 (shSet x T)=e1 x:=by
 show nth (.i 0) x.list.tail 0=nth (.i 0) x.list 1
 rw [nth_tail]
theorem MR.step {n c:Int} {T S:List U} (g:MR n c T S) {l:U} (hl:l ∈ lnsM (T,S)):MR n c (woStep (.i 1) (.i 0) (.i 0) (.i 0) (.i 0) (T,S) (plU l)).1 (woStep (.i 1) (.i 0) (.i 0) (.i 0) (.i 0) (T,S) (plU l)).2∧
  lnsM (woStep (.i 1) (.i 0) (.i 0) (.i 0) (.i 0) (T,S) (plU l))=(lnsM (T,S)).filter (fun x=>!decide (plI x=plI l))∧(woStep (.i 1) (.i 0) (.i 0) (.i 0) (.i 0) (T,S) (plU l)).2.map e0=S.map e0:=by
 unfold lnsM at hl
 rcases List.mem_append.1 hl with hl | hl
 ·obtain ⟨k,hk,rfl⟩:=line_mem hl
  have e:woStep (.i 1) (.i 0) (.i 0) (.i 0) (.i 0) (T,S) (plU (.l (lineU (.i (-1)) T k)))=(setX T k (.i 1) (.i 0) (.i 0) (.i 0) (.i 0),S):=rfl
  rw [e,set_zap g.t hk g.tl]
  obtain ⟨h1,h2,_,_⟩:=g.t.hit hk
  refine ⟨⟨g.t.zap hk,by show (zapT T k).length≤512;unfold zapT;rw [List.length_set];exact g.tl,g.s,g.sl⟩,?_,rfl⟩
  unfold lnsM
  rw [List.filter_append,plI_line]
  show linesOf (.i (-1)) (zapT T k) ++ shotLines 0 S=_
  rw [lines_zap2 h1 h2]
  congr 1
  refine (filt_all fun l hl=>?_).symm
  obtain ⟨j,_,hm⟩:=shot_mem hl
  rw [lines_fst hm]
  show 0 + (j:Int)≠-1
  omega
 ·obtain ⟨j,hj,hm⟩:=shot_mem hl
  obtain ⟨k,hk,rfl⟩:=line_mem hm
  have hs:=(shots_at S).1 g.s j hj
  have hin:U.at S j ∈ S:=by rw [at_get hj];exact List.getElem_mem hj
  have gt:=TR.iff.1 hs.2
  obtain ⟨h1,h2,_,_⟩:=gt.hit hk
  have hz:(0:Int) + (j:Int)=j:=Int.zero_add _
  have e:woStep (.i 1) (.i 0) (.i 0) (.i 0) (.i 0) (T,S) (plU (.l (lineU (.i (0 + (j:Int))) (shT (U.at S j)).list k)))=(T,S.set j (shSet (U.at S j) (setX (shT (U.at S j)).list k (.i 1) (.i 0) (.i 0) (.i 0) (.i 0)))):=by
   rw [hz]
   unfold woStep
   show (bif decide ((j:Int) < 0) then _ else (T,S.set (j:Int).toNat (shSet (U.at S (j:Int).toNat) (setX (shT (U.at S (j:Int).toNat)).list k _ _ _ _ _))))=_
   rw [decide_eq_false (by omega),cond_false,Int.toNat_natCast]
  rw [e,set_zap gt hk (g.sl _ hin)]
  refine ⟨⟨g.t,g.tl,(shots_at _).2 fun i hi=>?_,fun x hx=>?_⟩,?_,?_⟩
  ·rw [List.length_set] at hi
   show sizeR (e1 (U.at (S.set j _) i)).int c=true∧tableR (shT (U.at (S.set j _) i)).list ((e1 (U.at (S.set j _) i)).int / 2 ^ c.toNat) c=true
   rw [at_set hj]
   split
   ·rw [e1_shSet,shT_shSet]
    exact ⟨hs.1,TR.iff.2 (gt.zap hk)⟩
   ·exact (shots_at S).1 g.s i hi
  ·rcases List.mem_or_eq_of_mem_set hx with hx | rfl
   ·exact g.sl x hx
   ·rw [shT_shSet]
    show (zapT _ k).length≤512
    unfold zapT
    rw [List.length_set];exact g.sl _ hin
  ·unfold lnsM
   rw [List.filter_append,plI_line]
   show linesOf (.i (-1)) T ++ shotLines 0 (S.set j _)=_
   rw [shot_zap hj ⟨h1,h2⟩]
   congr 1
   refine (filt_all fun l hl=>?_).symm
   rw [lines_fst hl]
   show (-1:Int)≠0 + (j:Int)
   omega
  ·show (S.set j _).map e0=S.map e0
   rw [List.map_set]
   have:e0 (shSet (U.at S j) (zapT (shT (U.at S j)).list k))=e0 S[j]:=by rw [at_get hj];rfl
   rw [this,← List.map_set,List.set_getElem_self]
theorem MR.wo {n c:Int}:∀ (B T S:List U),MR n c T S→(∀ l,l ∈ B→l ∈ lnsM (T,S))→(B.map plI).Nodup→MR n c (woOf (.i 1) (.i 0) (.i 0) (.i 0) (.i 0) T S (B.map plU)).1 (woOf (.i 1) (.i 0) (.i 0) (.i 0) (.i 0) T S (B.map plU)).2∧
  lnsM (woOf (.i 1) (.i 0) (.i 0) (.i 0) (.i 0) T S (B.map plU))=(lnsM (T,S)).filter (fun x=>!decide (plI x ∈ B.map plI))∧(woOf (.i 1) (.i 0) (.i 0) (.i 0) (.i 0) T S (B.map plU)).2.map e0=S.map e0
 | [],T,S,g,_,_=>⟨g,by
  show lnsM (T,S)=_
  refine (List.filter_eq_self.2 fun l _=>?_).symm
  simp,rfl⟩
 | l :: r,T,S,g,hB,hN=>by
  obtain ⟨n1,n2⟩:=List.nodup_cons.1 hN
  obtain ⟨s1,s2,s3⟩:=g.step (hB l (List.mem_cons_self ..))
  have e:woOf (.i 1) (.i 0) (.i 0) (.i 0) (.i 0) T S ((l :: r).map plU)=woOf (.i 1) (.i 0) (.i 0) (.i 0) (.i 0) (woStep (.i 1) (.i 0) (.i 0) (.i 0) (.i 0) (T,S) (plU l)).1 (woStep (.i 1) (.i 0) (.i 0) (.i 0) (.i 0) (T,S) (plU l)).2 (r.map plU):=rfl
  rw [e]
  obtain ⟨i1,i2,i3⟩:=MR.wo r _ _ s1 (fun x hx=>by
   show x ∈ lnsM (woStep (.i 1) (.i 0) (.i 0) (.i 0) (.i 0) (T,S) (plU l))
   rw [s2]
   refine List.mem_filter.2 ⟨hB x (List.mem_cons_of_mem _ hx),?_⟩
   rw [decide_eq_false fun e=>n1 (List.mem_map.2 ⟨x,hx,e⟩)];rfl) n2
  refine ⟨i1,?_,i3.trans s3⟩
  rw [i2]
  show (lnsM (woStep (.i 1) (.i 0) (.i 0) (.i 0) (.i 0) (T,S) (plU l))).filter _=_
  rw [s2,List.filter_filter]
  refine List.filter_congr fun x _=>?_
  by_cases h1:plI x=plI l
  ·simp [h1]
  ·simp [h1]
theorem bd_out (c z s T Sh M Q F:U):bdU c z s T Sh M Q F=(outL (whU F) c.int [] (lnsM (T.list,Sh.list))).map plU:=by
 refine Eq.trans (show _=((lnsM (T.list,Sh.list)).foldl (badStep (whU F) c.int) ([],[])).1 from rfl) ?_
 rw [fold_out,List.nil_append]
section
variable {c z s T Sh M Q F:U}
theorem MR.of_right (h:metaR c z s T Sh M Q=true) (hpre:mgP T Sh):MR (z.int / 2 ^ c.int.toNat) c.int T.list Sh.list:=by
 obtain ⟨hG,_,_⟩:=GM.of_right h hpre.1 hpre.2
 unfold metaR at h
 simp only [Bool.and_eq_true] at h
 exact ⟨TR.iff.1 h.1.1.1.1.1.1.1.1.2,hG.t.len,h.1.1.1.1.2,fun x hx=>(hG.st x hx).len⟩
theorem mend_lines (h:metaR c z s T Sh M Q=true) (hpre:mgP T Sh):MR (z.int / 2 ^ c.int.toNat) c.int (woU c z s T Sh M Q F).1 (woU c z s T Sh M Q F).2∧lnsM (woU c z s T Sh M Q F)=keepL (whU F) c.int [] (lnsM (T.list,Sh.list))∧
  (woU c z s T Sh M Q F).2.map e0=Sh.list.map e0:=by
 unfold woU
 rw [bd_out]
 obtain ⟨h1,h2,h3⟩:=MR.wo (outL (whU F) c.int [] (lnsM (T.list,Sh.list))) _ _ (MR.of_right h hpre) (fun l hl=>out_sub hl) (out_nodup _ _ (lns_nodup _))
 refine ⟨h1,?_,h3⟩
 rw [h2,keep_filter _ _ (lns_nodup _)]
abbrev mT (c z s T Sh M Q F:U):U:=.l (woU c z s T Sh M Q F).1
abbrev mS (c z s T Sh M Q F:U):U:=.l ((woU c z s T Sh M Q F).2.map cutSh)
abbrev mM (M:U):U:=.l (M.list.map mpSet)
abbrev mQ (c z s T Sh M Q F:U):U:=.l (ofV (okM c z s T Sh M Q F) (szU F).toNat)
theorem mended_lns:lnsM ((mT c z s T Sh M Q F).list,(mS c z s T Sh M Q F).list)=lnsM (woU c z s T Sh M Q F):=by
 show linesOf _ _ ++ shotLines 0 (List.map cutSh _)=_
 rw [shotLines_cut];rfl
theorem mended_none (h:metaR c z s T Sh M Q=true) (hpre:mgP T Sh) (M' Q':U):bdU c z s (mT c z s T Sh M Q F) (mS c z s T Sh M Q F) M' Q' F=[]:=by
 rw [bd_out,mended_lns,(mend_lines h hpre).2.1,out_keep];rfl
theorem mended_ok (h:metaR c z s T Sh M Q=true) (hpre:mgP T Sh) (M' Q':U):okM c z s (mT c z s T Sh M Q F) (mS c z s T Sh M Q F) M' Q' F=okM c z s T Sh M Q F:=by
 unfold okM
 have e:woU c z s (mT c z s T Sh M Q F) (mS c z s T Sh M Q F) M' Q' F=((mT c z s T Sh M Q F).list,(mS c z s T Sh M Q F).list):=by
  unfold woU
  rw [mended_none h hpre];rfl
 rw [e]
 exact mended_lns
theorem cover_le (k:Nat):∀ L:List U,coverR L k≤(L.length:Int)
 | []=>Int.le_refl _
 | l :: r=>by
  have h1:=cover_le k r
  have h2:=(inI_01 (lnSt l).int ((lnSt l).int + (lnCt l).int) k).2
  rw [coverR,List.length_cons]
  omega
theorem counts_of:∀ {l:List U},(∀ x,x ∈ l→0≤x.int∧x.int≤65535)→countsR l=true
 | [],_=>rfl
 | x :: r,h=>by
  obtain ⟨h1,h2⟩:=h x (List.mem_cons_self ..)
  rw [countsR,counts_of fun y hy=>h y (List.mem_cons_of_mem _ hy),decide_eq_true h1,decide_eq_true h2];rfl
theorem maps_set:∀ M:List U,mapsR (M.map mpSet)=mapsR M
 | []=>rfl
 | b :: r=>by
  have e:(e2 (mpSet b)).list=(e2 b).list:=by
   show (nth (.i 0) b.list.tail.tail 0).list=(nth (.i 0) b.list 2).list
   rw [nth_tail,nth_tail]
  rw [List.map_cons,mapsR,mapsR,maps_set r,e]
theorem shots_cut (c:Int):∀ S:List U,shotsR c (S.map cutSh)=shotsR c S
 | []=>rfl
 | x :: r=>by
  have e:(e2 (cutSh x)).list=(e2 x).list:=by rw [← shT_e2,← shT_e2,shT_shSet];rfl
  rw [List.map_cons,shotsR,shotsR,shots_cut c r,e,e1_shSet]
theorem flCnts_self {sz:Int} {Q:List U} (hs:(Q.length:Int)≤sz):∀ (R:List U) (i:Nat),R=Q.drop i→flCnts sz Q i R=[]
 | [],_,_=>rfl
 | x :: r,i,h=>by
  have hi:i < Q.length:=by
   by_cases hi:i < Q.length
   ·exact hi
   ·rw [List.drop_eq_nil_of_le (by omega)] at h;cases h
  rw [drop_cons_at hi] at h
  injection h with h1 h2
  rw [flCnts,show (i:Int) + 1=((i + 1:Nat):Int) by omega,flCnts_self hs r (i + 1) h2,List.append_nil]
  unfold flCnt
  rw [decide_eq_true (by omega:(i:Int) < (Q.length:Int)),decide_eq_false (by omega:¬ (i:Int) ≥ sz),Int.toNat_natCast,cond_true,cond_false,h1,decide_eq_false (Int.lt_irrefl _)]
  rfl
theorem mended_len (c z s T Sh M Q F:U):(mQ c z s T Sh M Q F).list.length=(szU F).toNat:=ofV_len _ _
theorem mended_mg (h:metaR c z s T Sh M Q=true) (hpre:mgP T Sh):mgP (mT c z s T Sh M Q F) (mS c z s T Sh M Q F):=by
 obtain ⟨_,_,_,_,_,hG⟩:=md_conds (F:=F) h hpre
 exact ⟨by have:=hG.t.len;show (woU c z s T Sh M Q F).1.length≤_;omega,fun x hx=>by have:=(hG.st x hx).len;omega⟩
theorem ofV_in (h:metaR c z s T Sh M Q=true) (hpre:mgP T Sh) (n:Nat):∀ x,x ∈ ofV (okM c z s T Sh M Q F) n→0≤x.int∧x.int≤36866:=fun x hx=>by
 obtain ⟨_,_,hW,_,_,_⟩:=md_conds (F:=F) h hpre
 unfold ofV at hx
 obtain ⟨k,_,rfl⟩:=List.mem_map.1 hx
 have h1:=cover_nonneg k (okM c z s T Sh M Q F)
 have h2:=cover_le k (okM c z s T Sh M Q F)
 have h3:(okM c z s T Sh M Q F).length≤36864:=hW.each.2
 show 0≤(if k < 2 then (1:Int) else 0) + _∧(if k < 2 then (1:Int) else 0) + _≤36866
 split<;>omega
theorem mended_rightQ (h:metaR c z s T Sh M Q=true) (hpre:mgP T Sh) {Q':U} (hq:Q'.list.length≤65536) (hcn:countsR Q'.list=true):metaR c z s (mT c z s T Sh M Q F) (mS c z s T Sh M Q F) (mM M) Q' = true:=by
 obtain ⟨g,_,hn⟩:=mend_lines (F:=F) h hpre
 have hlen:(woU c z s T Sh M Q F).2.length=Sh.list.length:=by
  have:=congrArg List.length hn
  rw [List.length_map,List.length_map] at this;exact this
 unfold metaR at h ⊢
 simp only [Bool.and_eq_true,decide_eq_true_eq] at h ⊢
 obtain ⟨⟨⟨⟨⟨⟨⟨⟨⟨⟨⟨⟨h1,h2⟩,h3⟩,h4⟩,h5⟩,h6⟩,h7⟩,h8⟩,h9⟩,h10⟩,h11⟩,h12⟩,h13⟩:=h
 refine ⟨⟨⟨⟨⟨⟨⟨⟨⟨⟨⟨⟨h1,h2⟩,h3⟩,h4⟩,TR.iff.2 g.t⟩,?_⟩,?_⟩,?_⟩,?_⟩,?_⟩,hcn⟩,?_⟩,?_⟩
 ·show (List.map cutSh _).length≤8
  rw [List.length_map,hlen];exact h6
 ·show (List.map mpSet _).length≤8
  rw [List.length_map];exact h7
 ·exact hq
 ·show shotsR c.int (List.map cutSh _)=true
  rw [shots_cut];exact g.s
 ·show mapsR (List.map mpSet _)=true
  rw [maps_set];exact h10
 ·have e:(mS c z s T Sh M Q F).list.map e0=Sh.list.map e0:=by
   show (List.map cutSh _).map e0=_
   rw [List.map_map,← hn];rfl
  rw [e];exact h12
 ·have e:(mM M).list.map e0=M.list.map e0:=by
   show (List.map mpSet _).map e0=_
   rw [List.map_map];rfl
  rw [e];exact h13
theorem mended_right (h:metaR c z s T Sh M Q=true) (hpre:mgP T Sh):metaR c z s (mT c z s T Sh M Q F) (mS c z s T Sh M Q F) (mM M) (mQ c z s T Sh M Q F)=true:=
 mended_rightQ h hpre (by rw [mended_len];have:=szU_in F;omega) (counts_of fun x hx=>by have:=ofV_in h hpre _ x hx;omega)
theorem nU_mended (Q':U) (h:Q'.list.length=(szU F).toNat):nU F Q' = szU F:=by
 have:=szU_in F
 unfold nU
 rw [decide_eq_false (by omega)];rfl
theorem mended_fa (h:metaR c z s T Sh M Q=true) (hpre:mgP T Sh):faV c z s (mT c z s T Sh M Q F) (mS c z s T Sh M Q F) (mM M) (mQ c z s T Sh M Q F) F=[]:=by
 have:=szU_in F
 unfold faV
 rw [mended_none h hpre,mended_ok h hpre,nU_mended _ (mended_len ..),List.map_nil,List.nil_append]
 refine flCnts_self ?_ _ 0 rfl
 rw [mended_len];omega
end
end Go.Mat

namespace Go.Mat
open Go Go.Den Go.Proofs
abbrev mCells (c sz bk T S M Q:U):List SV:=[vi c,vi sz,vs bk,vl (.sl true EC) T,vt SC S,vt BC M,vl (.int .i64) Q]
def greatN (n:Int):List U→Int
 | []=>n
 | l :: r=>bif decide (n≤6000) then greatN (n + 1 + (bif decide (6000 < (l.list.length:Int)) then (6000:Int) else (l.list.length:Int))) r else n
def greatT (L:List U):Bool:=decide (greatN 0 L > 6000)
def greatS:List (List U)→List (List U):=fun us=>[[.b (greatT (nth (.i 0) (nth [] us 0) 0).list)]]
noncomputable def greatLoop:LoopF:=fun _ svs os k=>match svs,os with
 | [.val (.int .i64) i,.val (.int .i64) n,.ptr p o],[.box [.val (.sl false [.sl true ec]) L]]=>
  (p=128∧o=0∧ec=EC∧n = .i n.int∧0≤i.int∧i.int≤L.list.length∧0≤n.int∧n.int≤20000)∧
  k (.exit 0) ⟨[(3,vi (.i (greatN n.int (L.list.drop i.int.toNat))))],[]⟩
 | _,_=>False
noncomputable def greatC:Ctx:=mkC PR eqs0 fnsNil trsNil (loopCons 0 [4,3,1] [128] greatLoop noLoops) (outCons 0 [3] [] noOut) noOut
theorem great_round (pan:KP) (μ:Mu) (N:Nat) (k:KE) (i n L:U):(exec (greatC.panics pan) (loopBody Try.f54 0) 0 ⟨[(4,vi i),(3,vi n),(1,.ptr 128 0)],[(128,.box [vl (.sl true EC) L])]⟩ (again PR (some ([3],[])) none pan [4,3,1] [128] greatLoop μ N k))=(bif decide (i.int < (L.list.length:Int)) then bif decide (n.int≤6000) then bif decide ((0:Int)≤i.int∧i.int < (L.list.length:Int)) then bif Nat.blt (μ [vi (U.i (IntKind.wrap .i64 (i.int + 1))),vi (U.i (IntKind.wrap .i64 (IntKind.wrap .i64 (n.int + 1) + bif decide ((6000:Int) < (↑(List.length (U.list (nth (U.i 0) L.list (Int.toNat i.int)))):Int)) then (6000:Int) else (↑(List.length (U.list (nth (U.i 0) L.list (Int.toNat i.int)))):Int)))),.ptr 128 0] [.box [.val (.sl false [.sl true EC]) L]]) N then (128=nat_lit 128∧nat_lit 0=nat_lit 0∧EC=EC∧U.i (IntKind.wrap .i64 (IntKind.wrap .i64 (n.int + 1) + bif decide ((6000:Int) < (↑(List.length (U.list (nth (U.i 0) L.list (Int.toNat i.int)))):Int)) then (6000:Int) else (↑(List.length (U.list (nth (U.i 0) L.list (Int.toNat i.int)))):Int)))=U.i (IntKind.wrap .i64 (IntKind.wrap .i64 (n.int + 1) + bif decide ((6000:Int) < (↑(List.length (U.list (nth (U.i 0) L.list (Int.toNat i.int)))):Int)) then (6000:Int) else (↑(List.length (U.list (nth (U.i 0) L.list (Int.toNat i.int)))):Int)))∧(0:Int)≤IntKind.wrap .i64 (i.int + 1)∧IntKind.wrap .i64 (i.int + 1)≤(L.list.length:Int)∧(0:Int)≤IntKind.wrap .i64 (IntKind.wrap .i64 (n.int + 1) + bif decide ((6000:Int) < (↑(List.length (U.list (nth (U.i 0) L.list (Int.toNat i.int)))):Int)) then (6000:Int) else (↑(List.length (U.list (nth (U.i 0) L.list (Int.toNat i.int)))):Int))∧IntKind.wrap .i64 (IntKind.wrap .i64 (n.int + 1) + bif decide ((6000:Int) < (↑(List.length (U.list (nth (U.i 0) L.list (Int.toNat i.int)))):Int)) then (6000:Int) else (↑(List.length (U.list (nth (U.i 0) L.list (Int.toNat i.int)))):Int))≤20000)∧k (Ex.exit 0) (St.mk [(3,vi (U.i (greatN (IntKind.wrap .i64 (IntKind.wrap .i64 (n.int + 1) + bif decide ((6000:Int) < (↑(List.length (U.list (nth (U.i 0) L.list (Int.toNat i.int)))):Int)) then (6000:Int) else (↑(List.length (U.list (nth (U.i 0) L.list (Int.toNat i.int)))):Int))) (List.drop (Int.toNat (IntKind.wrap .i64 (i.int + 1))) L.list))))] []) else False else False else k (Ex.exit 0) (St.mk [(3,vi n)] []) else k (Ex.exit 0) (St.mk [(3,vi n)] [])):=by kernel_rfl
theorem great_tree (R:RF) (L:U):(run greatC Try.f54 [[L]] R)=((128=nat_lit 128∧nat_lit 0=nat_lit 0∧EC=EC∧U.i (0:Int)=U.i 0∧(0:Int)≤0∧(0:Int)≤(↑(List.length L.list):Int)∧(0:Int)≤0∧(0:Int)≤20000)∧R [[U.b (decide (greatN 0
 (List.drop (Int.toNat 0) L.list) > 6000))]]):=by kernel_rfl
def shotsG:List U→Bool
 | []=>false
 | s :: r=>greatT (e2 s).list || decide (((e0 s).str.size:Int) > 1000) || shotsG r
def mapsG:List U→Bool
 | []=>false
 | b :: r=>decide (((e2 b).list.length:Int) > 500) || decide (((e0 b).str.size:Int) > 1000) || mapsG r
def metaG (bk T S M Q:U):Bool:=greatT T.list || decide ((S.list.length:Int) > 20) || decide ((M.list.length:Int) > 20) || decide ((Q.list.length:Int) > 20000) || decide ((bk.str.size:Int) > 1000) || shotsG S.list || mapsG M.list
def metaGS:List (List U)→List (List U):=fun us=>[[.b (metaG (nth (.i 0) (nth [] us 0) 2) (nth (.i 0) (nth [] us 0) 3) (nth (.i 0) (nth [] us 0) 4) (nth (.i 0) (nth [] us 0) 5) (nth (.i 0) (nth [] us 0) 6))]]
noncomputable def metaGLoop0:LoopF:=fun _ svs os k=>match svs,os with
 | [.val (.int .i64) i,.ptr p o],[.box [.val (.int .i64) c,.val (.int .i64) sz,.val .str bk,.val (.sl false [.sl true x1]) T,.val (.sl true x2) S,.val (.sl true x3) M,.val (.sl false [.int .i64]) Q]]=>
  ((p=128∧o=0)∧(x1=EC∧x2=SC∧x3=BC)∧S.list.length≤20∧0≤i.int∧i.int≤S.list.length)∧
  (bif shotsG (S.list.drop i.int.toNat) then k .ret ⟨[(2,vb (.b true))],[]⟩ else k (.exit 0) ⟨[(1,.ptr 128 0)],[(128,.box (mCells c sz bk T S M Q))]⟩)
 | _,_=>False
noncomputable def metaGLoop2:LoopF:=fun _ svs os k=>match svs,os with
 | [.val (.int .i64) i,.ptr p o],[.box [.val (.int .i64) c,.val (.int .i64) sz,.val .str bk,.val (.sl false [.sl true x1]) T,.val (.sl true x2) S,.val (.sl true x3) M,.val (.sl false [.int .i64]) Q]]=>
  ((p=128∧o=0)∧(x1=EC∧x2=SC∧x3=BC)∧M.list.length≤20∧0≤i.int∧i.int≤M.list.length)∧
  (bif mapsG (M.list.drop i.int.toNat) then k .ret ⟨[(2,vb (.b true))],[]⟩ else k (.exit 2) ⟨[],[]⟩)
 | _,_=>False
noncomputable def metaGC:Ctx:=mkC PR eqs0 (fnsCons 54 greatS fnsNil) trsNil (loopCons 2 [4,1] [128] metaGLoop2 (loopCons 0 [3,1] [128] metaGLoop0 noLoops)) (outCons 2 [] [] (outCons 0 [1] [128] (outCons 1048578 [2] [] (outCons 1048576 [2] [] noOut)))) noOut
theorem metaG_round0 (pan:KP) (μ:Mu) (N:Nat) (k:KE) (i c sz bk T S M Q:U):(exec (metaGC.panics pan) (loopBody Try.f30 0) 0 ⟨[(3,vi i),(1,.ptr 128 0)],[(128,.box (mCells c sz bk T S M Q))]⟩ (again PR (some ([1],[128])) (some ([2],[])) pan [3,1] [128] metaGLoop0 μ N k))=(bif decide (i.int < (S.list.length:Int)) then bif decide ((0:Int)≤i.int∧i.int < (S.list.length:Int)) then bif greatT (U.list (nth (U.i 0) (List.drop (2:Nat) (U.list (nth (U.i 0) S.list (Int.toNat i.int)))) (0:Nat))) then k Ex.ret (St.mk [(2,.val .bool (U.b true))] []) else bif decide ((0:Int)≤i.int∧i.int < (S.list.length:Int)) then bif decide ((↑(ByteArray.size (U.str (nth (U.i 0) (List.drop (0:Nat) (U.list (nth (U.i 0) S.list (Int.toNat i.int)))) (0:Nat)))):Int) > 1000) then k Ex.ret (St.mk [(2,.val .bool (U.b true))] []) else bif Nat.blt (μ [vi (U.i (IntKind.wrap .i64 (i.int + 1))),.ptr 128 0] [.box [vi c,vi sz,.val .str bk,.val (.sl false [.sl true EC]) T,.val (.sl true [.str,.int .i64,Ct.sl false [.sl true EC]]) S,.val (.sl true [.str,Ct.bool,Ct.sl true [.int .i64,.int .i64]]) M,.val (.sl false [.int .i64]) Q]]) N then ((128=nat_lit 128∧nat_lit 0=nat_lit 0)∧(EC=EC∧[Ct.str,.int .i64,Ct.sl false [Ct.sl true EC]]=[.str,.int .i64,Ct.sl false [.sl true EC]]∧[Ct.str,Ct.bool,Ct.sl true [.int .i64,.int .i64]]=[.str,Ct.bool,Ct.sl true [.int .i64,.int .i64]])∧S.list.length≤(20:Nat)∧(0:Int)≤IntKind.wrap .i64 (i.int + 1)∧IntKind.wrap .i64 (i.int + 1)≤(S.list.length:Int))∧bif shotsG (List.drop (Int.toNat (IntKind.wrap .i64 (i.int + 1))) S.list) then k Ex.ret (St.mk [(2,.val .bool (U.b true))] []) else k (Ex.exit 0) (St.mk [(1,.ptr 128 0)] [(128,.box [vi c,vi sz,.val .str bk,.val (.sl false [.sl true EC]) T,.val (.sl true [.str,.int .i64,Ct.sl false [.sl true EC]]) S,.val (.sl true [.str,Ct.bool,Ct.sl true [.int .i64,.int .i64]]) M,.val (.sl false [.int .i64]) Q])]) else False else False else False else k (Ex.exit 0) (St.mk [(1,.ptr 128 0)] [(128,.box [vi c,vi sz,.val .str bk,.val (.sl false [.sl true EC]) T,.val (.sl true [.str,.int .i64,Ct.sl false [.sl true EC]]) S,.val (.sl true [.str,Ct.bool,Ct.sl true [.int .i64,.int .i64]]) M,.val (.sl false [.int .i64]) Q])])):=by kernel_rfl
theorem metaG_round2 (pan:KP) (μ:Mu) (N:Nat) (k:KE) (i c sz bk T S M Q:U):(exec (metaGC.panics pan) (loopBody Try.f30 1) 2 ⟨[(4,vi i),(1,.ptr 128 0)],[(128,.box (mCells c sz bk T S M Q))]⟩ (again PR (some ([],[])) (some ([2],[])) pan [4,1] [128] metaGLoop2 μ N k))=(bif decide (i.int < (M.list.length:Int)) then bif decide ((0:Int)≤i.int∧i.int < (M.list.length:Int)) then bif decide ((↑(List.length (U.list (nth (U.i 0) (List.drop (2:Nat) (U.list (nth (U.i 0) M.list (Int.toNat i.int)))) (0:Nat)))):Int) > 500) then k Ex.ret (St.mk [(2,.val .bool (U.b true))] []) else bif decide ((0:Int)≤i.int∧i.int < (M.list.length:Int)) then bif decide ((↑(ByteArray.size (U.str (nth (U.i 0) (List.drop (0:Nat) (U.list (nth (U.i 0) M.list (Int.toNat i.int)))) (0:Nat)))):Int) > 1000) then k Ex.ret (St.mk [(2,.val .bool (U.b true))] []) else bif Nat.blt (μ [vi (U.i (IntKind.wrap .i64 (i.int + 1))),.ptr 128 0] [.box [vi c,vi sz,.val .str bk,.val (.sl false [.sl true EC]) T,.val (.sl true [.str,.int .i64,Ct.sl false [.sl true EC]]) S,.val (.sl true [.str,Ct.bool,Ct.sl true [.int .i64,.int .i64]]) M,.val (.sl false [.int .i64]) Q]]) N then ((128=nat_lit 128∧nat_lit 0=nat_lit 0)∧(EC=EC∧[Ct.str,.int .i64,Ct.sl false [Ct.sl true EC]]=[.str,.int .i64,Ct.sl false [.sl true EC]]∧[Ct.str,Ct.bool,Ct.sl true [.int .i64,.int .i64]]=[.str,Ct.bool,Ct.sl true [.int .i64,.int .i64]])∧M.list.length≤(20:Nat)∧(0:Int)≤IntKind.wrap .i64 (i.int + 1)∧IntKind.wrap .i64 (i.int + 1)≤(M.list.length:Int))∧bif mapsG (List.drop (Int.toNat (IntKind.wrap .i64 (i.int + 1))) M.list) then k Ex.ret (St.mk [(2,.val .bool (U.b true))] []) else k (Ex.exit 2) (St.mk [] []) else False else False else False else k (Ex.exit 2) (St.mk [] [])):=by kernel_rfl
theorem metaG_tree (R:RF) (c sz bk T S M Q:U):(run metaGC Try.f30 [[c,sz,bk,T,S,M,Q]] R)=(bif greatT T.list then R [[U.b true]] else bif decide ((↑(List.length S.list):Int) > 20) then R [[U.b true]] else bif decide ((↑(List.length M.list):Int) > 20) then R [[U.b true]] else bif decide ((↑(List.length
 Q.list):Int) > 20000) then R [[U.b true]] else bif decide ((↑(ByteArray.size bk.str):Int) > 1000) then R [[U.b true]] else ((128=nat_lit 128∧nat_lit 0=nat_lit 0)∧(EC=EC∧[Ct.str,.int .i64,
 Ct.sl false [Ct.sl true EC]]=[Ct.str,.int .i64,Ct.sl false [Ct.sl true EC]]∧[Ct.str,Ct.bool,Ct.sl true [.int .i64,.int .i64]]=[Ct.str,Ct.bool,Ct.sl true [.int .i64,.int .i64]])∧List.length
 S.list≤(20:Nat)∧(0:Int)≤0∧(0:Int)≤(↑(List.length S.list):Int))∧bif shotsG (List.drop (Int.toNat 0) S.list) then R [[U.b true]] else ((128=nat_lit 128∧nat_lit 0=nat_lit 0)∧(EC
 = EC∧[Ct.str,.int .i64,Ct.sl false [Ct.sl true EC]]=[Ct.str,.int .i64,Ct.sl false [Ct.sl true EC]]∧[Ct.str,Ct.bool,Ct.sl true [.int .i64,.int .i64]]=[Ct.str,Ct.bool,Ct.sl true [.int .i64,
 .int .i64]])∧List.length M.list≤(20:Nat)∧(0:Int)≤0∧(0:Int)≤(↑(List.length M.list):Int))∧bif mapsG (List.drop (Int.toNat 0) M.list) then R [[U.b true]] else R [[U.b false]]):=by kernel_rfl
end Go.Mat

namespace Go.Mat
open Go Go.Den Go.Proofs
theorem great_loop:LoopOk greatC 0 (loopBody Try.f54 0):=by
 refine loopOk_of (F:=greatLoop) (ts:=[4,3,1]) (os:=[128]) rfl (fun svs os=>match svs,os with | .val _ i :: _,[.box [.val _ L]]=>((L.list.length:Int) - i.int).toNat | _,_=>0) ?_
 intro pan svs os k ho1 ho2 h
 unfold greatLoop at h
 split at h
 ·rename_i i n p o ec L
  obtain ⟨⟨rfl,rfl,rfl,hnn,h0,hi,hn0,hn⟩,hk⟩:=h
  have hL:L.list.length≤maxLen:=ho2.1.1.1
  unfold maxLen at hL
  refine .eq (great_round pan _ _ k i n L) ?_
  refine bd (fun hlt=>bd (fun h6=>dt ⟨h0,by omega⟩ ?_) (fun h6=>?_)) (fun hlt=>?_)
  ·rw [drop_at (by omega),greatN,decide_eq_true h6,cond_true] at hk
   simp only [U.at] at hk
   have hm:(0:Int)≤(bif decide (6000 < ((nth (.i 0) L.list i.int.toNat).list.length:Int)) then 6000 else ((nth (.i 0) L.list i.int.toNat).list.length:Int))∧(bif decide (6000 < ((nth (.i 0) L.list i.int.toNat).list.length:Int)) then 6000 else ((nth (.i 0) L.list i.int.toNat).list.length:Int))≤6000:=by
    by_cases hc:6000 < ((nth (.i 0) L.list i.int.toNat).list.length:Int)
    ·rw [decide_eq_true hc,cond_true];omega
    ·rw [decide_eq_false hc,cond_false];omega
   generalize (bif decide (6000 < ((nth (.i 0) L.list i.int.toNat).list.length:Int)) then 6000 else ((nth (.i 0) L.list i.int.toNat).list.length:Int))=m at hm hk ⊢
   have hw:IntKind.wrap .i64 (i.int + 1)=i.int + 1:=i64_in (by omega) (by omega)
   have hw1:IntKind.wrap .i64 (n.int + 1)=n.int + 1:=i64_in (by omega) (by omega)
   have hw2:IntKind.wrap .i64 (n.int + 1 + m)=n.int + 1 + m:=i64_in (by omega) (by omega)
   have hc:(i.int + 1).toNat=i.int.toNat + 1:=by omega
   have hlt':((L.list.length:Int) - (i.int + 1)).toNat < ((L.list.length:Int) - i.int).toNat:=by omega
   simp only [hw,hw1,hw2,hc]
   exact blt hlt' ⟨⟨by trivial,by trivial,by trivial,by trivial,by omega,by omega,by omega,by omega⟩,hk⟩
  ·rw [drop_at (by omega),greatN,decide_eq_false h6,cond_false,← hnn] at hk
   exact hk
  ·rw [List.drop_of_length_le (by omega),greatN,← hnn] at hk
   exact hk
 ·exact h.elim
theorem great_ok:SpecF PR 54 greatS:=fun fn us hfn=>by
 have hf:PR.funcs[(54:Nat)]? = some Try.f54:=by kernel_rfl
 rw [hf] at hfn;cases hfn
 refine fn_okH (C:=greatC) (mkC_ok eqs0_ok mixed_ok .nil .nil) hf (by kernel_rfl) (loops_one (by kernel_rfl) great_loop) fun hok=>?_
 have hp:Try.f54.params.toList=[36]:=by kernel_rfl
 rw [hp] at hok
 obtain ⟨L,hus⟩:∃ L,us=[[L]]:=by
  obtain ⟨u,rfl,h1⟩:=shape1 (by kernel_rfl:Cs PR 36=some (true,[.sl false [.sl true [.int .i64,.int .i64,.int .i64,.int .i64,.int .u32]]])) hok.1
  obtain ⟨L,rfl⟩:=len1 h1
  exact ⟨L,rfl⟩
 subst hus
 refine .eq (great_tree _ L) ?_
 unfold greatS greatT
 simp only [nth_zero,nth_succ]
 exact ⟨⟨by trivial,by trivial,by trivial,by trivial,by omega,by omega,by omega,by omega⟩,rfl⟩
theorem greatN_ge:∀ (L:List U) (n:Int),greatN n L≤6000→n + L.length≤6000
 | [],n,h=>by simpa [greatN] using h
 | l :: r,n,h=>by
  rw [greatN] at h
  by_cases hn:n≤6000
  ·rw [decide_eq_true hn,cond_true] at h
   have:=greatN_ge r _ h
   have h0:(0:Int)≤(bif decide (6000 < (l.list.length:Int)) then 6000 else (l.list.length:Int)):=by
    cases decide (6000 < (l.list.length:Int))<;>simp
   rw [List.length_cons];omega
  ·rw [decide_eq_false hn,cond_false] at h;omega
theorem greatT_low {L:List U} (h:greatT L=false):L.length≤6000:=by
 unfold greatT at h
 have:=greatN_ge L 0 (by have:=of_decide_eq_false h;omega)
 omega
theorem metaG_loop0:LoopOk metaGC 0 (loopBody Try.f30 0):=by
 refine loopOk_of (F:=metaGLoop0) (ts:=[3,1]) (os:=[128]) rfl (fun svs os=>match svs,os with | .val _ i :: _,[.box [_,_,_,_,.val _ S,_,_]]=>((S.list.length:Int) - i.int).toNat | _,_=>0) ?_
 intro pan svs os k ho1 ho2 h
 unfold metaGLoop0 at h
 split at h
 ·rename_i i p o c sz bk x1 T x2 S x3 M Q
  obtain ⟨⟨⟨rfl,rfl⟩,⟨rfl,rfl,rfl⟩,hS,h0,hi⟩,hk⟩:=h
  refine .eq (metaG_round0 pan _ _ k i c sz bk T S M Q) ?_
  refine bd (fun hlt=>dt ⟨h0,by omega⟩ ?_) (fun hlt=>?_)
  ·rw [drop_at (by omega),shotsG] at hk
   simp only [U.at,e0,e2] at hk
   have hw:IntKind.wrap .i64 (i.int + 1)=i.int + 1:=i64_in (by omega) (by omega)
   have hc:(i.int + 1).toNat=i.int.toNat + 1:=by omega
   have hlt':((S.list.length:Int) - (i.int + 1)).toNat < ((S.list.length:Int) - i.int).toNat:=by omega
   simp only [nth_drop,Nat.add_zero,hw,hc]
   refine bi (fun h1=>?_) (fun h1=>dt ⟨h0,by omega⟩ (bi (fun h2=>?_) (fun h2=>?_)))
   ·rw [h1] at hk;exact hk
   ·rw [h1,h2] at hk;exact hk
   ·rw [h1,h2] at hk
    exact blt hlt' ⟨⟨⟨by trivial,by trivial⟩,⟨by trivial,by trivial,by trivial⟩,hS,by omega,by omega⟩,hk⟩
  ·rw [List.drop_of_length_le (by omega),shotsG] at hk
   exact hk
 ·exact h.elim
theorem metaG_loop2:LoopOk metaGC 2 (loopBody Try.f30 1):=by
 refine loopOk_of (F:=metaGLoop2) (ts:=[4,1]) (os:=[128]) rfl (fun svs os=>match svs,os with | .val _ i :: _,[.box [_,_,_,_,_,.val _ M,_]]=>((M.list.length:Int) - i.int).toNat | _,_=>0) ?_
 intro pan svs os k ho1 ho2 h
 unfold metaGLoop2 at h
 split at h
 ·rename_i i p o c sz bk x1 T x2 S x3 M Q
  obtain ⟨⟨⟨rfl,rfl⟩,⟨rfl,rfl,rfl⟩,hS,h0,hi⟩,hk⟩:=h
  refine .eq (metaG_round2 pan _ _ k i c sz bk T S M Q) ?_
  refine bd (fun hlt=>dt ⟨h0,by omega⟩ ?_) (fun hlt=>?_)
  ·rw [drop_at (by omega),mapsG] at hk
   simp only [U.at,e0,e2] at hk
   have hw:IntKind.wrap .i64 (i.int + 1)=i.int + 1:=i64_in (by omega) (by omega)
   have hc:(i.int + 1).toNat=i.int.toNat + 1:=by omega
   have hlt':((M.list.length:Int) - (i.int + 1)).toNat < ((M.list.length:Int) - i.int).toNat:=by omega
   simp only [nth_drop,Nat.add_zero,hw,hc]
   refine bi (fun h1=>?_) (fun h1=>dt ⟨h0,by omega⟩ (bi (fun h2=>?_) (fun h2=>?_)))
   ·rw [h1] at hk;exact hk
   ·rw [h1,h2] at hk;exact hk
   ·rw [h1,h2] at hk
    exact blt hlt' ⟨⟨⟨by trivial,by trivial⟩,⟨by trivial,by trivial,by trivial⟩,hS,by omega,by omega⟩,hk⟩
  ·rw [List.drop_of_length_le (by omega),mapsG] at hk
   exact hk
 ·exact h.elim
theorem metaG_ok:SpecF PR 30 metaGS:=fun fn us hfn=>by
 have hf:PR.funcs[(30:Nat)]? = some Try.f30:=by kernel_rfl
 rw [hf] at hfn;cases hfn
 refine fn_okH (C:=metaGC) (mkC_ok eqs0_ok mixed_ok (.cons great_ok .nil) .nil) hf (by kernel_rfl) (loops_two (by kernel_rfl) metaG_loop0 metaG_loop2) fun hok=>?_
 have hp:Try.f30.params.toList=[41]:=by kernel_rfl
 rw [hp] at hok
 obtain ⟨c,sz,bk,T,S,M,Q,hus⟩:∃ c sz bk T S M Q,us=[[c,sz,bk,T,S,M,Q]]:=by
  obtain ⟨u,rfl,h1⟩:=shape1 (by kernel_rfl:Cs PR 41=some (true,[.int .i64,.int .i64,.str,.sl false [.sl true EC],.sl true SC,.sl true BC,.sl false [.int .i64]])) hok.1
  obtain ⟨c,sz,bk,T,S,M,Q,rfl⟩:=len7 h1
  exact ⟨c,sz,bk,T,S,M,Q,rfl⟩
 subst hus
 refine .eq (metaG_tree _ c sz bk T S M Q) ?_
 have hS:metaGS [[c,sz,bk,T,S,M,Q]]=[[.b (metaG bk T S M Q)]]:=rfl
 rw [hS]
 unfold metaG
 simp only [Int.toNat_zero,List.drop_zero]
 refine bi (fun h1=>by rw [h1];rfl) (fun h1=>bi (fun h2=>by rw [h1,h2];rfl) (fun h2=>bi (fun h3=>by rw [h1,h2,h3];rfl) (fun h3=>bi (fun h4=>by rw [h1,h2,h3,h4];rfl) (fun h4=>bi (fun h5=>by rw [h1,h2,h3,h4,h5];rfl) (fun h5=>?_)))))
 have g2:=of_decide_eq_false h2
 have g3:=of_decide_eq_false h3
 rw [h1,h2,h3,h4,h5]
 refine ⟨⟨⟨by trivial,by trivial⟩,⟨by trivial,by trivial,by trivial⟩,by omega,by omega,by omega⟩,bi (fun h6=>by rw [h6];rfl) (fun h6=>?_)⟩
 rw [h6]
 exact ⟨⟨⟨by trivial,by trivial⟩,⟨by trivial,by trivial,by trivial⟩,by omega,by omega,by omega⟩,bi (fun h7=>by rw [h7];rfl) (fun h7=>by rw [h7];rfl)⟩
theorem shotsG_low:∀ {S:List U},shotsG S=false→∀ s ∈ S,(e2 s).list.length≤6000
 | [],_,s,hs=>by cases hs
 | x :: r,h,s,hs=>by
  rw [shotsG] at h
  simp only [Bool.or_eq_false_iff] at h
  rcases List.mem_cons.1 hs with rfl | hs
  ·exact greatT_low h.1.1
  ·exact shotsG_low h.2 s hs
theorem mapsG_low:∀ {M:List U},mapsG M=false→∀ s ∈ M,(e2 s).list.length≤500
 | [],_,s,hs=>by cases hs
 | x :: r,h,s,hs=>by
  rw [mapsG] at h
  simp only [Bool.or_eq_false_iff] at h
  rcases List.mem_cons.1 hs with rfl | hs
  ·have:=of_decide_eq_false h.1.1;omega
  ·exact mapsG_low h.2 s hs
theorem metaG_low {bk T S M Q:U} (h:metaG bk T S M Q=false):T.list.length≤6000∧S.list.length≤20∧(∀ s ∈ S.list,(e2 s).list.length≤6000)∧M.list.length≤20∧∀ b ∈ M.list,(e2 b).list.length≤500:=by
 unfold metaG at h
 simp only [Bool.or_eq_false_iff,decide_eq_false_iff_not] at h
 exact ⟨greatT_low h.1.1.1.1.1.1,by omega,shotsG_low h.1.2,by omega,mapsG_low h.2⟩
end Go.Mat

namespace Go.Mat
open Go Go.Den Go.Proofs
noncomputable def tbLoop0:LoopF:=fun _ svs os k=>match svs,os with
 | [.val (.int .i64) i,.ptr p q,.ptr p2 q2],[.box [.val (.sl false [.sl true x1]) A],.box [.val (.sl false [.sl true x2]) B]]=>
  ((p=256∧q=0∧p2=384∧q2=0∧x1=EC∧x2=EC)∧A.list=B.list∧0≤i.int∧i.int≤A.list.length)∧k (.exit 0) ⟨[],[]⟩
 | _,_=>False
noncomputable def tbLoop2:LoopF:=fun _ svs os k=>match svs,os with
 | [.val (.int .i64) j,.val (.int .i64) i,.ptr p q,.ptr p2 q2],[.box [.val (.sl false [.sl true x1]) A],.box [.val (.sl false [.sl true x2]) B]]=>
  ((p=256∧q=0∧p2=384∧q2=0∧x1=EC∧x2=EC)∧A.list=B.list∧(0≤i.int∧i.int < A.list.length)∧0≤j.int∧j.int≤(U.at A.list i.int.toNat).list.length)∧
  k (.exit 2) ⟨[(5,vi i),(2,.ptr 256 0),(3,.ptr 384 0)],[(256,.box [.val TRC A]),(384,.box [.val TRC B])]⟩
 | _,_=>False
def tbP:List (List U)→Prop:=fun us=>(nth (.i 0) (nth [] us 0) 0).list=(nth (.i 0) (nth [] us 1) 0).list
noncomputable def tbC:Ctx:=mkC PR eqs0 fnsNil trsNil (loopCons 0 [5,2,3] [256,384] tbLoop0 (loopCons 2 [6,5,2,3] [256,384] tbLoop2 noLoops))
 (outCons 0 [] [] (outCons 2 [5,2,3] [256,384] (outCons 1048576 [4] [] (outCons 1048578 [4] [] noOut)))) noOut
theorem tb_round0 (pan:KP) (μ:Mu) (N:Nat) (k:KE) (i A B:U):(exec (tbC.panics pan) (loopBody Try.f17 0) 0 ⟨[(5,vi i),(2,.ptr 256 0),(3,.ptr 384 0)],[(256,.box [.val TRC A]),(384,.box [.val TRC B])]⟩ (again PR (some ([],[])) (some ([4],[])) pan [5,2,3] [256,384] tbLoop0 μ N k))=(bif decide (i.int < (A.list.length:Int)) then bif decide ((0:Int)≤i.int∧i.int < (A.list.length:Int)) then bif decide ((0:Int)≤i.int∧i.int < (B.list.length:Int)) then bif (↑(List.length (U.list (nth (U.i 0) A.list (Int.toNat i.int)))):Int) != (↑(List.length (U.list (nth (U.i 0) B.list (Int.toNat i.int)))):Int) then k Ex.ret (St.mk [(4,.val .bool (U.b false))] []) else ((256=nat_lit 256∧nat_lit 0=nat_lit 0∧nat_lit 384=nat_lit 384∧nat_lit 0=nat_lit 0∧EC=EC∧EC=EC)∧A.list=B.list∧((0:Int)≤i.int∧i.int < (A.list.length:Int))∧(0:Int)≤0∧(0:Int)≤(↑(List.length (U.list (nth (U.i 0) A.list (Int.toNat i.int)))):Int))∧bif Nat.blt (μ [vi (U.i (IntKind.wrap .i64 (i.int + 1))),.ptr 256 0,.ptr 384 0] [.box [.val (.sl false [.sl true EC]) A],.box [.val (.sl false [.sl true EC]) B]]) N then ((256=nat_lit 256∧nat_lit 0=nat_lit 0∧nat_lit 384=nat_lit 384∧nat_lit 0=nat_lit 0∧EC=EC∧EC=EC)∧A.list=B.list∧(0:Int)≤IntKind.wrap .i64 (i.int + 1)∧IntKind.wrap .i64 (i.int + 1)≤(A.list.length:Int))∧k (Ex.exit 0) (St.mk [] []) else False else False else False else k (Ex.exit 0) (St.mk [] [])):=by kernel_rfl
theorem tb_round2 (pan:KP) (μ:Mu) (N:Nat) (k:KE) (j i A B:U):(exec (tbC.panics pan) (loopBody Try.f17 1) 2 ⟨[(6,vi j),(5,vi i),(2,.ptr 256 0),(3,.ptr 384 0)],[(256,.box [.val TRC A]),(384,.box [.val TRC B])]⟩ (again PR (some ([5,2,3],[256,384])) (some ([4],[])) pan [6,5,2,3] [256,384] tbLoop2 μ N k))=(bif decide ((0:Int)≤i.int∧i.int < (A.list.length:Int)) then bif decide (j.int < (↑(List.length (U.list (nth (U.i 0) A.list (Int.toNat i.int)))):Int)) then bif decide ((0:Int)≤i.int∧i.int < (A.list.length:Int)) then bif decide ((0:Int)≤j.int∧j.int < (↑(List.length (U.list (nth (U.i 0) A.list (Int.toNat i.int)))):Int)) then bif decide ((0:Int)≤i.int∧i.int < (B.list.length:Int)) then bif decide ((0:Int)≤j.int∧j.int < (↑(List.length (U.list (nth (U.i 0) B.list (Int.toNat i.int)))):Int)) then bif !(U.int (nth (U.i 0) (U.list (nth (U.i 0) (U.list (nth (U.i 0) A.list (Int.toNat i.int))) (Int.toNat j.int))) (0:Nat)) == U.int (nth (U.i 0) (U.list (nth (U.i 0) (U.list (nth (U.i 0) B.list (Int.toNat i.int))) (Int.toNat j.int))) (0:Nat)) && (U.int (nth (U.i 0) (List.tail (U.list (nth (U.i 0) (U.list (nth (U.i 0) A.list (Int.toNat i.int))) (Int.toNat j.int)))) (0:Nat)) == U.int (nth (U.i 0) (List.tail (U.list (nth (U.i 0) (U.list (nth (U.i 0) B.list (Int.toNat i.int))) (Int.toNat j.int)))) (0:Nat)) && (U.int (nth (U.i 0) (List.tail (List.tail (U.list (nth (U.i 0) (U.list (nth (U.i 0) A.list (Int.toNat i.int))) (Int.toNat j.int))))) (0:Nat)) == U.int (nth (U.i 0) (List.tail (List.tail (U.list (nth (U.i 0) (U.list (nth (U.i 0) B.list (Int.toNat i.int))) (Int.toNat j.int))))) (0:Nat)) && (U.int (nth (U.i 0) (List.tail (List.tail (List.tail (U.list (nth (U.i 0) (U.list (nth (U.i 0) A.list (Int.toNat i.int))) (Int.toNat j.int)))))) (0:Nat)) == U.int (nth (U.i 0) (List.tail (List.tail (List.tail (U.list (nth (U.i 0) (U.list (nth (U.i 0) B.list (Int.toNat i.int))) (Int.toNat j.int)))))) (0:Nat)) && (U.int (nth (U.i 0) (List.tail (List.tail (List.tail (List.tail (U.list (nth (U.i 0) (U.list (nth (U.i 0) A.list (Int.toNat i.int))) (Int.toNat j.int))))))) (0:Nat)) == U.int (nth (U.i 0) (List.tail (List.tail (List.tail (List.tail (U.list (nth (U.i 0) (U.list (nth (U.i 0) B.list (Int.toNat i.int))) (Int.toNat j.int))))))) (0:Nat)) && true))))) then k Ex.ret (St.mk [(4,.val .bool (U.b false))] []) else bif Nat.blt (μ [vi (U.i (IntKind.wrap .i64 (j.int + 1))),vi i,.ptr 256 0,.ptr 384 0] [.box [.val (.sl false [.sl true EC]) A],.box [.val (.sl false [.sl true EC]) B]]) N then ((256=nat_lit 256∧nat_lit 0=nat_lit 0∧nat_lit 384=nat_lit 384∧nat_lit 0=nat_lit 0∧EC=EC∧EC=EC)∧A.list=B.list∧((0:Int)≤i.int∧i.int < (A.list.length:Int))∧(0:Int)≤IntKind.wrap .i64 (j.int + 1)∧IntKind.wrap .i64 (j.int + 1)≤(↑(List.length (U.list (nth (U.i 0) A.list (Int.toNat i.int)))):Int))∧k (Ex.exit 2) (St.mk [(5,vi i),(2,.ptr 256 0),(3,.ptr 384 0)] [(256,.box [.val (.sl false [.sl true EC]) A]),(384,.box [.val (.sl false [.sl true EC]) B])]) else False else False else False else False else False else k (Ex.exit 2) (St.mk [(5,vi i),(2,.ptr 256 0),(3,.ptr 384 0)] [(256,.box [.val (.sl false [.sl true EC]) A]),(384,.box [.val (.sl false [.sl true EC]) B])]) else False):=by kernel_rfl
theorem tb_tree (R:RF) (A B:U):(run tbC Try.f17 [[A],[B]] R)=(bif (↑(List.length A.list):Int) != (↑(List.length B.list):Int) then R [[U.b false]] else ((256=nat_lit 256∧nat_lit 0=nat_lit 0∧nat_lit 384=nat_lit 384∧nat_lit 0=nat_lit 0∧EC=EC∧
 EC=EC)∧A.list=B.list∧(0:Int)≤0∧(0:Int)≤(↑(List.length A.list):Int))∧R [[U.b true]]):=by kernel_rfl
def grX (bk T S M Q F:U):Bool:=metaG bk T S M Q || decide ((F.list.length:Int) > 20000) || decide (((linesOf (.i (-1)) T.list ++ shotLines 0 S.list).length:Int) > 400)
def grS:List (List U)→List (List U):=fun us=>match us with
 | [[c,z,s,T,Sh,M,Q],[F]]=>[[.b (grX s T Sh M Q F)]]
 | _=>[]
noncomputable def grC:Ctx:=mkC PR eqs0 (fnsCons 30 metaGS (fnsConsP 18 eachP eachS fnsNil)) trsNil noLoops noOut noOut
theorem gr_tree (R:RF) (c z s T Sh M Q F:U):(run grC Try.f13 [[c,z,s,T,Sh,M,Q],[F]] R)=(bif metaG s T Sh M Q then R [[U.b true]] else bif decide ((↑(List.length F.list):Int) > 20000) then R [[U.b true]] else eachP [[c,z,s,T,Sh,M,Q]]∧R [[U.b (decide ((↑(List.length (linesOf (U.i
 (-1:Int)) T.list ++ shotLines 0 Sh.list)):Int) > 400))]]):=by kernel_rfl
end Go.Mat

namespace Go.Mat
open Go Go.Den Go.Proofs
set_option maxRecDepth 100000
theorem tb_loop0:LoopOk tbC 0 (loopBody Try.f17 0):=by
 refine loopOk_of (F:=tbLoop0) (ts:=[5,2,3]) (os:=[256,384]) rfl (fun svs os=>match svs,os with | .val _ i :: _,[.box [.val _ A],_]=>A.list.length - i.int.toNat | _,_=>0) ?_
 intro pan svs os k ho1 ho2 h
 unfold tbLoop0 at h
 split at h
 ·rename_i i p q p2 q2 x1 A x2 B
  obtain ⟨⟨⟨rfl,rfl,rfl,rfl,rfl,rfl⟩,hAB,h0,hi⟩,hk⟩:=h
  have hL:A.list.length≤maxLen:=ho2.1.1.1
  unfold maxLen at hL
  refine .eq (tb_round0 pan _ _ k i A B) ?_
  refine bd (fun hlt=>?_) (fun hlt=>hk)
  have hwi:IntKind.wrap .i64 (i.int + 1)=i.int + 1:=i64_in (by omega) (by omega)
  rw [← hAB,hwi]
  refine dt ⟨h0,hlt⟩ (dt ⟨h0,hlt⟩ (bf (by simp) ⟨⟨⟨by trivial,by trivial,by trivial,by trivial,by trivial,by trivial⟩,by trivial,⟨h0,hlt⟩,by omega,by omega⟩,blt (by simp only [U.int_i];omega) ⟨⟨⟨by trivial,by trivial,by trivial,by trivial,by trivial,by trivial⟩,by trivial,by omega,by omega⟩,hk⟩⟩))
 ·exact h.elim
theorem tb_loop2:LoopOk tbC 2 (loopBody Try.f17 1):=by
 refine loopOk_of (F:=tbLoop2) (ts:=[6,5,2,3]) (os:=[256,384]) rfl (fun svs os=>match svs,os with | .val _ j :: .val _ i :: _,[.box [.val _ A],_]=>(U.at A.list i.int.toNat).list.length - j.int.toNat | _,_=>0) ?_
 intro pan svs os k ho1 ho2 h
 unfold tbLoop2 at h
 split at h
 ·rename_i j i p q p2 q2 x1 A x2 B
  obtain ⟨⟨⟨rfl,rfl,rfl,rfl,rfl,rfl⟩,hAB,hi,h0,hj⟩,hk⟩:=h
  have hL:(U.at A.list i.int.toNat).list.length≤maxLen:=by
   have h2:=(ho2.1.1.2 i.int.toNat (by omega)).1.1
   simpa [U.at,elemU] using h2
  unfold maxLen at hL
  have hL2:(nth (.i 0) A.list i.int.toNat).list.length≤9223372036854775807:=hL
  refine .eq (tb_round2 pan _ _ k j i A B) ?_
  refine dt hi (bd (fun hlt=>?_) (fun hlt=>hk))
  have hwi:IntKind.wrap .i64 (j.int + 1)=j.int + 1:=i64_in (by omega) (by omega)
  rw [← hAB,hwi]
  have hj2:0≤j.int∧j.int < ((U.at A.list i.int.toNat).list.length:Int):=⟨h0,hlt⟩
  exact dt hi (dt hj2 (dt hi (dt hj2 (bf (by simp) (blt (by simp only [U.int_i];omega) ⟨⟨⟨by trivial,by trivial,by trivial,by trivial,by trivial,by trivial⟩,by trivial,hi,by omega,by omega⟩,hk⟩)))))
 ·exact h.elim
theorem tb_ok:SpecFP PR 17 tbP tA15:=fun fn us hfn hpre=>by
 have hf:PR.funcs[(17:Nat)]? = some Try.f17:=by kernel_rfl
 rw [hf] at hfn;cases hfn
 refine fn_okH (C:=tbC) (mkC_ok eqs0_ok mixed_ok .nil .nil) hf (by kernel_rfl) (loops_two (by kernel_rfl) tb_loop0 tb_loop2) fun hok=>?_
 have hp:Try.f17.params.toList=[36,36]:=by kernel_rfl
 rw [hp] at hok
 obtain ⟨u,u2,rfl,h1,h2⟩:=shape2 (by kernel_rfl:Cs PR 36=some (true,[TRC])) (by kernel_rfl:Cs PR 36=some (true,[TRC])) hok.1
 obtain ⟨A,rfl⟩:=len1 h1
 obtain ⟨B,rfl⟩:=len1 h2
 have hAB:A.list=B.list:=hpre
 refine .eq (tb_tree _ A B) (bf (by rw [hAB];simp) ⟨⟨⟨by trivial,by trivial,by trivial,by trivial,by trivial,by trivial⟩,hAB,by omega,by omega⟩,rfl⟩)
theorem shotsFit_of:∀ {S:List U},(∀ s,s ∈ S→(e2 s).list.length≤65536)→shotsFit S=true
 | [],_=>rfl
 | x :: r,h=>by
  have:=h x (List.mem_cons_self ..)
  rw [shotsFit,shotsFit_of fun s hs=>h s (List.mem_cons_of_mem _ hs),decide_eq_true this];rfl
theorem gr_ok:SpecF PR 13 grS:=fun fn us hfn=>by
 have hf:PR.funcs[(13:Nat)]? = some Try.f13:=by kernel_rfl
 rw [hf] at hfn;cases hfn
 refine fn_okH (C:=grC) (mkC_ok eqs0_ok mixed_ok (.cons metaG_ok (.consP reach_ok .nil)) .nil) hf (by kernel_rfl) (loops_none (by kernel_rfl)) fun hok=>?_
 have hp:Try.f13.params.toList=[41,25]:=by kernel_rfl
 rw [hp] at hok
 obtain ⟨u,u2,rfl,h1,h2⟩:=shape2 (by kernel_rfl:Cs PR 41=some (true,[.int .i64,.int .i64,.str,.sl false [.sl true EC],.sl true SC,.sl true BC,.sl false [.int .i64]])) (by kernel_rfl:Cs PR 25=some (false,[.sl false [.int .u8]])) hok.1
 obtain ⟨c,z,s,T,Sh,M,Q,rfl⟩:∃ a b c d e f g,u=[a,b,c,d,e,f,g]:=match u,h1 with | [a,b,c,d,e,f,g],_=>⟨a,b,c,d,e,f,g,rfl⟩
 obtain ⟨F,rfl⟩:=len1 h2
 clear hok h1 h2
 refine .eq (gr_tree _ c z s T Sh M Q F) ?_
 rw [show grS [[c,z,s,T,Sh,M,Q],[F]]=[[.b (grX s T Sh M Q F)]] from rfl]
 unfold grX
 refine bi (fun h=>by rw [h];rfl) (fun h=>bi (fun h2=>by rw [h,h2];rfl) (fun h2=>⟨?_,by rw [h,h2];rfl⟩))
 obtain ⟨g1,g2,g3,_,_⟩:=metaG_low h
 exact ⟨show T.list.length≤65536 by omega,show Sh.list.length≤1000 by omega,shotsFit_of fun s hs=>by have:=g3 s hs;omega⟩
end Go.Mat

namespace Go.Mat
open Go Go.Den Go.Proofs
def fvW (c z s T Sh M Q F:U):List U:=bif metaR c z s T Sh M Q then faV c z s T Sh M Q F else []
def fvM (c z s T Sh M Q F:U):List U:=fvW c z s (mT c z s T Sh M Q F) (mS c z s T Sh M Q F) (mM M) (mQ c z s T Sh M Q F) F
noncomputable def eqsL (t:TypeId):Option (List IntKind):=bif Nat.beq t 54 then some [.i64,.i64,.i64,.i64,.i64,.i64,.u32] else eqs0 t
def lnEq (x y:U):Bool:=(U.int (nth (.i 0) x.list 0) == U.int (nth (.i 0) y.list 0) && (U.int (nth (.i 0) (List.tail x.list) 0) == U.int (nth (.i 0) (List.tail y.list) 0) && (U.int (nth (.i 0) (List.tail (List.tail x.list)) 0) == U.int (nth (.i 0) (List.tail (List.tail y.list)) 0) &&
 (U.int (nth (.i 0) (List.tail (List.tail (List.tail x.list))) 0) == U.int (nth (.i 0) (List.tail (List.tail (List.tail y.list))) 0) && (U.int (nth (.i 0) (List.tail (List.tail (List.tail (List.tail x.list)))) 0) == U.int (nth (.i 0) (List.tail (List.tail (List.tail (List.tail y.list)))) 0) &&
 (U.int (nth (.i 0) (List.tail (List.tail (List.tail (List.tail (List.tail x.list))))) 0) == U.int (nth (.i 0) (List.tail (List.tail (List.tail (List.tail (List.tail y.list))))) 0) && (U.int (nth (.i 0) (List.tail (List.tail (List.tail (List.tail (List.tail (List.tail x.list)))))) 0) == U.int (nth (.i 0) (List.tail (List.tail (List.tail (List.tail (List.tail (List.tail y.list)))))) 0) && true)))))))
def subK:List U→List U→Int→Int
 | [],_,k=>k
 | _ :: _,[],k=>k
 | x :: r,y :: s,k=>bif lnEq x y then subK r s (k + 1) else subK r (y :: s) k
noncomputable def enLoop0:LoopF:=fun _ svs os k=>match svs,os with
 | [.val (.int .i64) i,.val (.sl true fc) L,.val (.int .i64) a,.ptr p q,.val (.sl false [.int .u8]) F],[.box [.val (.int .i64) c,.val (.int .i64) z,.val .str s,.val (.sl false [.sl true x1]) T,.val (.sl true x3) Sh,.val (.sl true x2) M,.val (.sl false [.int .i64]) Q]]=>
  ((fc=FLC∧p=256∧q=0∧x1=EC∧x3=SC∧x2=BC)∧a = .i a.int∧0≤a.int∧a.int≤i.int∧i.int≤(L.list.length:Int))∧
  k (.exit 0) ⟨[(6,vi (.i (a.int + cnt1 (L.list.drop i.int.toNat)))),(2,.ptr 256 0),(1,vf F)],[(256,mBox c z s T Sh M Q)]⟩
 | _,_=>False
noncomputable def enLoop2:LoopF:=fun _ svs os k=>match svs,os with
 | [.val (.int .i64) n,.val (.int .i64) i,.val (.sl true x1) A,.val (.sl true x2) B],[]=>
  ((x1=LNC∧x2=LNC)∧n = .i n.int∧0≤n.int∧n.int≤(B.list.length:Int)∧0≤i.int∧i.int≤(A.list.length:Int))∧
  k (.exit 2) ⟨[(12,vi (.i (subK (A.list.drop i.int.toNat) (B.list.drop n.int.toNat) n.int))),(11,vt LNC B)],[]⟩
 | _,_=>False
noncomputable def enC:Ctx:=mkC PR eqsL (fnsCons 9 tA15 (fnsCons 12 nA15 (fnsCons 13 grS (fnsCons 14 rmetaS (fnsConsP 17 tbP tA15
 (fnsConsP 18 eachP eachS (fnsConsP 15 faP faS fnsNil))))))) (trsCons 16 [] mdF trsNil)
 (loopCons 0 [7,5,6,2,1] [256] enLoop0 (loopCons 2 [12,13,10,11] [] enLoop2 noLoops)) (outCons 0 [6,2,1] [256] (outCons 2 [12,11] [] noOut)) noOut
theorem en_round0 (pan:KP) (μ:Mu) (N:Nat) (k:KE) (i L a F c z s T Sh M Q:U):(exec (enC.panics pan) (loopBody Try.f4 0) 0 ⟨[(7,vi i),(5,vt FLC L),(6,vi a),(2,.ptr 256 0),(1,vf F)],[(256,mBox c z s T Sh M Q)]⟩ (again PR (some ([6,2,1],[256])) none pan [7,5,6,2,1] [256] enLoop0 μ N k))=(bif decide (i.int < (L.list.length:Int)) then bif decide ((0:Int)≤i.int∧i.int < (L.list.length:Int)) then bif U.int (nth (U.i 0) (List.drop (0:Nat) (U.list (nth (U.i 0) L.list (Int.toNat i.int)))) (0:Nat)) == 1 then bif Nat.blt (μ [vi (U.i (IntKind.wrap .i64 (i.int + 1))),.val (.sl true FLC) L,vi (U.i (IntKind.wrap .i64 (a.int + 1))),.ptr 256 0,.val (.sl false [.int .u8]) F] [.box [vi c,vi z,.val .str s,.val (.sl false [.sl true EC]) T,.val (.sl true [.str,.int .i64,Ct.sl false [.sl true EC]]) Sh,.val (.sl true [.str,Ct.bool,Ct.sl true [.int .i64,.int .i64]]) M,.val (.sl false [.int .i64]) Q]]) N then ((FLC=FLC∧nat_lit 256=nat_lit 256∧nat_lit 0=nat_lit 0∧EC=EC∧[Ct.str,.int .i64,Ct.sl false [Ct.sl true EC]]=[.str,.int .i64,Ct.sl false [.sl true EC]]∧[Ct.str,Ct.bool,Ct.sl true [.int .i64,.int .i64]]=[.str,Ct.bool,Ct.sl true [.int .i64,.int .i64]])∧U.i (IntKind.wrap .i64 (a.int + 1))=U.i (IntKind.wrap .i64 (a.int + 1))∧(0:Int)≤IntKind.wrap .i64 (a.int + 1)∧IntKind.wrap .i64 (a.int + 1)≤IntKind.wrap .i64 (i.int + 1)∧IntKind.wrap .i64 (i.int + 1)≤(L.list.length:Int))∧k (Ex.exit 0) (St.mk [(6,vi (U.i (IntKind.wrap .i64 (a.int + 1) + cnt1 (List.drop (Int.toNat (IntKind.wrap .i64 (i.int + 1))) L.list)))),(2,.ptr 256 0),(1,.val (.sl false [.int .u8]) F)] [(256,.box [vi c,vi z,.val .str s,.val (.sl false [.sl true EC]) T,.val (.sl true [.str,.int .i64,Ct.sl false [.sl true EC]]) Sh,.val (.sl true [.str,Ct.bool,Ct.sl true [.int .i64,.int .i64]]) M,.val (.sl false [.int .i64]) Q])]) else False else bif Nat.blt (μ [vi (U.i (IntKind.wrap .i64 (i.int + 1))),.val (.sl true FLC) L,vi a,.ptr 256 0,.val (.sl false [.int .u8]) F] [.box [vi c,vi z,.val .str s,.val (.sl false [.sl true EC]) T,.val (.sl true [.str,.int .i64,Ct.sl false [.sl true EC]]) Sh,.val (.sl true [.str,Ct.bool,Ct.sl true [.int .i64,.int .i64]]) M,.val (.sl false [.int .i64]) Q]]) N then ((FLC=FLC∧nat_lit 256=nat_lit 256∧nat_lit 0=nat_lit 0∧EC=EC∧[Ct.str,.int .i64,Ct.sl false [Ct.sl true EC]]=[.str,.int .i64,Ct.sl false [.sl true EC]]∧[Ct.str,Ct.bool,Ct.sl true [.int .i64,.int .i64]]=[.str,Ct.bool,Ct.sl true [.int .i64,.int .i64]])∧a=U.i a.int∧(0:Int)≤a.int∧a.int≤IntKind.wrap .i64 (i.int + 1)∧IntKind.wrap .i64 (i.int + 1)≤(L.list.length:Int))∧k (Ex.exit 0) (St.mk [(6,vi (U.i (a.int + cnt1 (List.drop (Int.toNat (IntKind.wrap .i64 (i.int + 1))) L.list)))),(2,.ptr 256 0),(1,.val (.sl false [.int .u8]) F)] [(256,.box [vi c,vi z,.val .str s,.val (.sl false [.sl true EC]) T,.val (.sl true [.str,.int .i64,Ct.sl false [.sl true EC]]) Sh,.val (.sl true [.str,Ct.bool,Ct.sl true [.int .i64,.int .i64]]) M,.val (.sl false [.int .i64]) Q])]) else False else False else k (Ex.exit 0) (St.mk [(6,vi a),(2,.ptr 256 0),(1,.val (.sl false [.int .u8]) F)] [(256,.box [vi c,vi z,.val .str s,.val (.sl false [.sl true EC]) T,.val (.sl true [.str,.int .i64,Ct.sl false [.sl true EC]]) Sh,.val (.sl true [.str,Ct.bool,Ct.sl true [.int .i64,.int .i64]]) M,.val (.sl false [.int .i64]) Q])])):=by kernel_rfl
theorem en_round2 (pan:KP) (μ:Mu) (N:Nat) (k:KE) (n i A B:U):(exec (enC.panics pan) (loopBody Try.f4 1) 2 ⟨[(12,vi n),(13,vi i),(10,vt LNC A),(11,vt LNC B)],[]⟩ (again PR (some ([12,11],[])) none pan [12,13,10,11] [] enLoop2 μ N k))=(bif decide (i.int < (A.list.length:Int)) then bif decide (n.int < (B.list.length:Int)) then bif decide ((0:Int)≤i.int∧i.int < (A.list.length:Int)) then bif decide ((0:Int)≤n.int∧n.int < (B.list.length:Int)) then bif U.int (nth (U.i 0) (U.list (nth (U.i 0) A.list (Int.toNat i.int))) (0:Nat)) == U.int (nth (U.i 0) (U.list (nth (U.i 0) B.list (Int.toNat n.int))) (0:Nat)) && (U.int (nth (U.i 0) (List.tail (U.list (nth (U.i 0) A.list (Int.toNat i.int)))) (0:Nat)) == U.int (nth (U.i 0) (List.tail (U.list (nth (U.i 0) B.list (Int.toNat n.int)))) (0:Nat)) && (U.int (nth (U.i 0) (List.tail (List.tail (U.list (nth (U.i 0) A.list (Int.toNat i.int))))) (0:Nat)) == U.int (nth (U.i 0) (List.tail (List.tail (U.list (nth (U.i 0) B.list (Int.toNat n.int))))) (0:Nat)) && (U.int (nth (U.i 0) (List.tail (List.tail (List.tail (U.list (nth (U.i 0) A.list (Int.toNat i.int)))))) (0:Nat)) == U.int (nth (U.i 0) (List.tail (List.tail (List.tail (U.list (nth (U.i 0) B.list (Int.toNat n.int)))))) (0:Nat)) && (U.int (nth (U.i 0) (List.tail (List.tail (List.tail (List.tail (U.list (nth (U.i 0) A.list (Int.toNat i.int))))))) (0:Nat)) == U.int (nth (U.i 0) (List.tail (List.tail (List.tail (List.tail (U.list (nth (U.i 0) B.list (Int.toNat n.int))))))) (0:Nat)) && (U.int (nth (U.i 0) (List.tail (List.tail (List.tail (List.tail (List.tail (U.list (nth (U.i 0) A.list (Int.toNat i.int)))))))) (0:Nat)) == U.int (nth (U.i 0) (List.tail (List.tail (List.tail (List.tail (List.tail (U.list (nth (U.i 0) B.list (Int.toNat n.int)))))))) (0:Nat)) && (U.int (nth (U.i 0) (List.tail (List.tail (List.tail (List.tail (List.tail (List.tail (U.list (nth (U.i 0) A.list (Int.toNat i.int))))))))) (0:Nat)) == U.int (nth (U.i 0) (List.tail (List.tail (List.tail (List.tail (List.tail (List.tail (U.list (nth (U.i 0) B.list (Int.toNat n.int))))))))) (0:Nat)) && true)))))) then bif Nat.blt (μ [vi (U.i (IntKind.wrap .i64 (n.int + 1))),vi (U.i (IntKind.wrap .i64 (i.int + 1))),.val (.sl true LNC) A,.val (.sl true LNC) B] []) N then ((LNC=LNC∧LNC=LNC)∧U.i (IntKind.wrap .i64 (n.int + 1))=U.i (IntKind.wrap .i64 (n.int + 1))∧(0:Int)≤IntKind.wrap .i64 (n.int + 1)∧IntKind.wrap .i64 (n.int + 1)≤(B.list.length:Int)∧(0:Int)≤IntKind.wrap .i64 (i.int + 1)∧IntKind.wrap .i64 (i.int + 1)≤(A.list.length:Int))∧k (Ex.exit 2) (St.mk [(12,vi (U.i (subK (List.drop (Int.toNat (IntKind.wrap .i64 (i.int + 1))) A.list) (List.drop (Int.toNat (IntKind.wrap .i64 (n.int + 1))) B.list) (IntKind.wrap .i64 (n.int + 1))))),(11,.val (.sl true LNC) B)] []) else False else bif Nat.blt (μ [vi n,vi (U.i (IntKind.wrap .i64 (i.int + 1))),.val (.sl true LNC) A,.val (.sl true LNC) B] []) N then ((LNC=LNC∧LNC=LNC)∧n=U.i n.int∧(0:Int)≤n.int∧n.int≤(B.list.length:Int)∧(0:Int)≤IntKind.wrap .i64 (i.int + 1)∧IntKind.wrap .i64 (i.int + 1)≤(A.list.length:Int))∧k (Ex.exit 2) (St.mk [(12,vi (U.i (subK (List.drop (Int.toNat (IntKind.wrap .i64 (i.int + 1))) A.list) (List.drop (Int.toNat n.int) B.list) n.int))),(11,.val (.sl true LNC) B)] []) else False else False else False else k (Ex.exit 2) (St.mk [(12,vi n),(11,.val (.sl true LNC) B)] []) else k (Ex.exit 2) (St.mk [(12,vi n),(11,.val (.sl true LNC) B)] [])):=by kernel_rfl
theorem en_tree (R:RF) (c z s T Sh M Q F:U):(run enC Try.f4 [[c,z,s,T,Sh,M,Q],[F]] R)=(bif grX s T Sh M Q F then R [[U.b true]] else bif !rmetaR c z s T Sh M Q then R [[U.b true]] else faP [[c,z,s,T,Sh,M,Q],[F]]∧((FLC=FLC∧nat_lit 256=nat_lit 256∧nat_lit 0=nat_lit 0∧EC=EC∧[Ct.str,.int .i64,Ct.sl false [Ct.sl true EC]]=[.str,.int .i64,Ct.sl false [.sl true EC]]∧[Ct.str,Ct.bool,Ct.sl true [.int .i64,.int .i64]]=[.str,Ct.bool,Ct.sl true [.int .i64,.int .i64]])∧U.i (0:Int)=U.i 0∧(0:Int)≤0∧(0:Int)≤0∧(0:Int)≤(↑(List.length (fvW c z s T Sh M Q F)):Int))∧((EC=EC∧[Ct.str,.int .i64,Ct.sl false [Ct.sl true EC]]=[.str,.int .i64,Ct.sl false [.sl true EC]]∧[Ct.str,Ct.bool,Ct.sl true [.int .i64,.int .i64]]=[.str,Ct.bool,Ct.sl true [.int .i64,.int .i64]])∧metaR c z s T Sh M Q=true∧mdP [[c,z,s,T,Sh,M,Q],[F]])∧faP [[c,z,s,mT c z s T Sh M Q F,mS c z s T Sh M Q F,mM M,mQ c z s T Sh M Q F],[F]]∧bif (↑(List.length (fvM c z s T Sh M Q F)):Int) != 0 then R [[U.b false]] else bif !rmetaR c z s (mT c z s T Sh M Q F) (mS c z s T Sh M Q F) (mM M) (mQ c z s T Sh M Q F) then R [[U.b false]] else bif 0 + cnt1 (List.drop (Int.toNat 0) (fvW c z s T Sh M Q F)) == 0 then tbP [[mT c z s T Sh M Q F],[T]]∧bif (↑(List.length ((mS c z s T Sh M Q F).list)):Int) != (Sh.list.length:Int) then R [[U.b false]] else eachP [[c,z,s,T,Sh,M,Q]]∧eachP [[c,z,s,mT c z s T Sh M Q F,mS c z s T Sh M Q F,mM M,mQ c z s T Sh M Q F]]∧bif (↑(List.length (linesOf (U.i (-1:Int)) ((mT c z s T Sh M Q F).list) ++ shotLines 0 ((mS c z s T Sh M Q F).list))):Int) != IntKind.wrap .i64 ((↑(List.length (linesOf (U.i (-1:Int)) T.list ++ shotLines 0 Sh.list)):Int) - ((0:Int) + cnt1 (List.drop (Int.toNat 0) (fvW c z s T Sh M Q F)))) then R [[U.b false]] else ((LNC=LNC∧LNC=LNC)∧U.i (0:Int)=U.i 0∧(0:Int)≤0∧(0:Int)≤(↑(List.length (linesOf (U.i (-1:Int)) ((mT c z s T Sh M Q F).list) ++ shotLines 0 ((mS c z s T Sh M Q F).list))):Int)∧(0:Int)≤0∧(0:Int)≤(↑(List.length (linesOf (U.i (-1:Int)) T.list ++ shotLines 0 Sh.list)):Int))∧bif subK (List.drop (Int.toNat 0) (linesOf (U.i (-1:Int)) T.list ++ shotLines 0 Sh.list)) (List.drop (Int.toNat 0) (linesOf (U.i (-1:Int)) ((mT c z s T Sh M Q F).list) ++ shotLines 0 ((mS c z s T Sh M Q F).list))) (0:Int) == (↑(List.length (linesOf (U.i (-1:Int)) ((mT c z s T Sh M Q F).list) ++ shotLines 0 ((mS c z s T Sh M Q F).list))):Int) then R [[U.b true]] else R [[U.b false]] else eachP [[c,z,s,T,Sh,M,Q]]∧eachP [[c,z,s,mT c z s T Sh M Q F,mS c z s T Sh M Q F,mM M,mQ c z s T Sh M Q F]]∧bif (↑(List.length (linesOf (U.i (-1:Int)) ((mT c z s T Sh M Q F).list) ++ shotLines 0 ((mS c z s T Sh M Q F).list))):Int) != IntKind.wrap .i64 ((↑(List.length (linesOf (U.i (-1:Int)) T.list ++ shotLines 0 Sh.list)):Int) - ((0:Int) + cnt1 (List.drop (Int.toNat 0) (fvW c z s T Sh M Q F)))) then R [[U.b false]] else ((LNC=LNC∧LNC=LNC)∧U.i (0:Int)=U.i 0∧(0:Int)≤0∧(0:Int)≤(↑(List.length (linesOf (U.i (-1:Int)) ((mT c z s T Sh M Q F).list) ++ shotLines 0 ((mS c z s T Sh M Q F).list))):Int)∧(0:Int)≤0∧(0:Int)≤(↑(List.length (linesOf (U.i (-1:Int)) T.list ++ shotLines 0 Sh.list)):Int))∧bif subK (List.drop (Int.toNat 0) (linesOf (U.i (-1:Int)) T.list ++ shotLines 0 Sh.list)) (List.drop (Int.toNat 0) (linesOf (U.i (-1:Int)) ((mT c z s T Sh M Q F).list) ++ shotLines 0 ((mS c z s T Sh M Q F).list))) (0:Int) == (↑(List.length (linesOf (U.i (-1:Int)) ((mT c z s T Sh M Q F).list) ++ shotLines 0 ((mS c z s T Sh M Q F).list))):Int) then R [[U.b true]] else R [[U.b false]]):=by kernel_rfl
end Go.Mat

namespace Go.Den
open Go Go.RowKit
theorem run_part_agg {P:Program} {w:World} {t:TypeId} {fs:Array Field} {vs:List Value} {off k:Nat} (hu:P.underlying t=some (.struct fs)) (hs:sizeT P t=some k):(_root_.Go.part t vs.toArray off).run P w = .ok (.agg ((vs.drop off).take k).toArray) w:=by
 simp only [_root_.Go.part,Sem.run_bind,run_isAgg hu,Result.andThen_ok,aggD,if_true,run_size hs]
 simp [List.extract]
theorem eqFields_last {P:Program} {w:World} {d:Nat} {g:Field} {gs:Array Field} {ks2:List IntKind} (hg:P.underlying g.type=some (.struct gs)) (hst:P.stoodInHeld g.type=false) (hgn:g.name ≠ "_") (hgs:sizeT P g.type=some ks2.length) (h2:fieldsInt P 0 gs.toList ks2=true) :
  ∀ (fs:List Field) (ks:List IntKind) (n:Nat) (is js:List Int) (xs ys:List Value),fieldsInt P n fs ks=true→g.offset=n + ks.length→is.length=ks.length + ks2.length→js.length=ks.length + ks2.length→
  xs.drop n=List.zipWith Value.int (ks ++ ks2) is→ys.drop n=List.zipWith Value.int (ks ++ ks2) js→(Op.eqFields (d + 2) xs.toArray ys.toArray (fs ++ [g])).run P w = .ok (decide (is=js)) w
 | [],[],n,is,js,xs,ys,_,ho,hi,hj,hx,hy=>by
  rw [List.length_nil,Nat.add_zero] at ho
  rw [List.length_nil,Nat.zero_add] at hi hj
  rw [List.nil_append] at hx hy
  have tk:∀ zs:List Int,zs.length=ks2.length→(List.zipWith Value.int ks2 zs).take ks2.length=List.zipWith Value.int ks2 zs:=fun zs hz=>List.take_of_length_le (by rw [List.length_zipWith];omega)
  have hpx:=run_part_agg (w:=w) (vs:=xs) (off:=g.offset) hg hgs
  have hpy:=run_part_agg (w:=w) (vs:=ys) (off:=g.offset) hg hgs
  rw [ho,hx,tk is hi] at hpx
  rw [ho,hy,tk js hj] at hpy
  have hf:P.fieldsOf g.type=gs:=by unfold Program.fieldsOf;rw [hg]
  have hrun:=run_equalIn_struct (P:=P) w (d + 1) g.type (List.zipWith Value.int ks2 is).toArray (List.zipWith Value.int ks2 js).toArray (by rw [hf];exact hg) hst
  rw [hf,eqFields_ints gs.toList ks2 0 is js _ _ h2 hi hj rfl rfl] at hrun
  simp only [List.nil_append,Op.eqFields,hgn,ne_eq,not_false_eq_true,if_true,Sem.run_bind,ho,hpx,hpy,Result.andThen_ok,hrun]
  by_cases e:is=js<;>simp [e]
 | [],_ :: _,_,_,_,_,_,h,_,_,_,_,_=>by simp [fieldsInt] at h
 | _ :: _,[],_,_,_,_,_,h,_,_,_,_,_=>by simp [fieldsInt] at h
 | f :: fs,k :: ks,n,i :: is,j :: js,xs,ys,h,ho,hi,hj,hx,hy=>by
  unfold fieldsInt at h
  split at h
  ·rename_i k' hu
   simp only [Bool.and_eq_true] at h
   obtain ⟨⟨⟨h1,h2'⟩,h3⟩,h4⟩:=h
   have h1:f.name ≠ "_" := by simpa using h1
   have h2':=Nat.eq_of_beq_eq_true h2'
   have:=same_eq h3
   subst this
   have hx0:xs[n]? = some (.int k i):=by
    have:=List.getElem?_drop (xs:=xs) (i:=n) (j:=0)
    rw [hx] at this
    simpa using this.symm
   have hy0:ys[n]? = some (.int k j):=by
    have:=List.getElem?_drop (xs:=ys) (i:=n) (j:=0)
    rw [hy] at this
    simpa using this.symm
   have hpx:=run_part_int (w:=w) hu (vs:=xs.toArray) (off:=f.offset) (v:=.int k i) (by simpa [h2'] using hx0)
   have hpy:=run_part_int (w:=w) hu (vs:=ys.toArray) (off:=f.offset) (v:=.int k j) (by simpa [h2'] using hy0)
   have heq:=run_equalIn_int (P:=P) w (d + 1) f.type k k i j hu
   have hx1:xs.drop (n + 1)=List.zipWith Value.int (ks ++ ks2) is:=by
    rw [← List.tail_drop,hx];rfl
   have hy1:ys.drop (n + 1)=List.zipWith Value.int (ks ++ ks2) js:=by
    rw [← List.tail_drop,hy];rfl
   have ih:=eqFields_last (w:=w) (d:=d) hg hst hgn hgs h2 fs ks (n + 1) is js xs ys h4 (by rw [ho,List.length_cons];omega) (by simp only [List.length_cons] at hi;omega) (by simp only [List.length_cons] at hj;omega) hx1 hy1
   simp only [List.cons_append,Op.eqFields,h1,ne_eq,not_false_eq_true,if_true,Sem.run_bind,hpx,hpy,Result.andThen_ok]
   rw [heq]
   simp only [Result.andThen_ok]
   by_cases hij:i=j
   ·subst hij
    simp only [BEq.rfl,Bool.not_true,Bool.false_eq_true,if_false]
    rw [ih]
    simp
   ·have:(i == j)=false:=by simpa using hij
    simp [this,hij]
  ·cases h
 | _ :: _,_ :: _,_,[],_,_,_,_,_,hi,_,_,_=>by simp at hi;omega
 | _ :: _,_ :: _,_,_ :: _,[],_,_,_,_,_,hj,_,_=>by simp at hj;omega
theorem eq_last {P:Program} {t:TypeId} {ks ks2:List IntKind} {fs:List Field} {g:Field} {gs:Array Field} (hu:P.underlying t=some (.struct (fs ++ [g]).toArray)) (h1:P.stoodInHeld t=false) (h2:P.eqGuardType P.depth t=false) (h3:fieldsInt P 0 fs ks=true) (hg:P.underlying g.type=some (.struct gs))
  (hst:P.stoodInHeld g.type=false) (hgn:(g.name != "_")=true) (hgo:g.offset=ks.length) (hgs:sizeT P g.type=some ks2.length) (h4:fieldsInt P 0 gs.toList ks2=true):EqOk P t (ks ++ ks2):=by
 intro x y is js w hi hj
 have hf:P.fieldsOf t=(fs ++ [g]).toArray:=by unfold Program.fieldsOf;rw [hu]
 have hrun:=run_equalIn_struct (P:=P) w 9999 t (List.zipWith Value.int (ks ++ ks2) is).toArray (List.zipWith Value.int (ks ++ ks2) js).toArray (by rw [hf];exact hu) h1
 rw [List.length_append] at hi hj
 rw [hf,eqFields_last (d:=9997) hg hst (by simpa using hgn) hgs h4 fs ks 0 is js _ _ h3 (by omega) hi hj rfl rfl] at hrun
 unfold aggI
 constructor
 ·simp only [Sem.run_bind,run_eqGuard_agg w _ t x y _ _ h2,Result.andThen_ok,run_eql_struct]
  rw [show (10000:Nat)=9999 + 1 from rfl,hrun];rfl
 ·simp only [Sem.run_bind,run_eqGuard_agg w _ t x y _ _ h2,Result.andThen_ok,run_neq_struct]
  rw [show (10000:Nat)=9999 + 1 from rfl,hrun];rfl
end Go.Den

namespace Go.Mat
open Go Go.Den Go.Proofs
set_option maxRecDepth 100000
theorem line_eq:EqOk PR 54 [.i64,.i64,.i64,.i64,.i64,.i64,.u32]:=by
 exact eq_last (ks:=[.i64,.i64]) (ks2:=[.i64,.i64,.i64,.i64,.u32]) (fs:=(match PR.underlying 54 with | some (.struct fs)=>fs.toList.take 2 | _=>[])) (g:=((match PR.underlying 54 with | some (.struct fs)=>fs | _=>#[])[2]?).getD default)
  (gs:=(match PR.underlying 24 with | some (.struct fs)=>fs | _=>#[])) (by kernel_rfl) (by kernel_rfl) (by kernel_rfl) (by kernel_rfl) (by kernel_rfl) (by kernel_rfl) (by kernel_rfl) (by kernel_rfl) (by kernel_rfl) (by kernel_rfl)
theorem eqsL_ok:∀ t ks,eqsL t=some ks→EqOk PR t ks:=by
 intro t ks h
 unfold eqsL at h
 cases hb:Nat.beq t 54 with
 | true=>
  rw [hb] at h
  have:=Nat.eq_of_beq_eq_true hb
  subst this
  injection h with h
  subst h
  exact line_eq
 | false=>rw [hb] at h;exact eqs0_ok t ks h
def esub:List U→List U→Prop
 | _,[]=>True
 | [],_ :: _=>False
 | x :: a,y :: b=>(lnEq x y=true∧esub a b)∨esub a (y :: b)
theorem esub_more {x:U} {a:List U}:∀ {b:List U},esub a b→esub (x :: a) b
 | [],_=>trivial
 | _ :: _,h=>.inr h
theorem esub_tail:∀ {a b:List U} {y:U},esub a (y :: b)→esub a b
 | [],_,_,h=>h.elim
 | x :: a,b,y,h=>by
  rcases h with ⟨_,h⟩ | h
  ·exact esub_more h
  ·exact esub_more (esub_tail h)
theorem subK_esub:∀ {a b:List U} {k:Int},esub a b→subK a b k=k + b.length
 | [],[],k,_=>by show k=k + 0;omega
 | _ :: _,[],k,_=>by show k=k + 0;omega
 | [],_ :: _,_,h=>h.elim
 | x :: a,y :: b,k,h=>by
  rw [subK]
  cases e:lnEq x y with
  | true=>
   have h2:esub a b:=by
    rcases h with ⟨_,h⟩ | h
    ·exact h
    ·exact esub_tail h
   rw [cond_true,subK_esub h2,List.length_cons];omega
  | false=>
   rw [cond_false,subK_esub (h.resolve_left fun g=>by rw [e] at g;cases g.1)]
theorem lnEq_refl (x:U):lnEq x x=true:=by simp [lnEq]
theorem esub_filter (p:U→Bool):∀ a:List U,esub a (a.filter p)
 | []=>trivial
 | x :: a=>by
  cases h:p x with
  | true=>rw [List.filter_cons_of_pos h];exact .inl ⟨lnEq_refl x,esub_filter p a⟩
  | false=>rw [List.filter_cons_of_neg (by rw [h];simp)];exact esub_more (esub_filter p a)
theorem cnt1_in:∀ L:List U,0≤cnt1 L∧cnt1 L≤L.length
 | []=>⟨Int.le_refl _,Int.le_refl _⟩
 | u :: r=>by
  have:=cnt1_in r
  have e:cnt1 (u :: r)=(bif (nth (.i 0) u.list 0).int == 1 then 1 else 0) + cnt1 r:=rfl
  rw [e,List.length_cons]
  cases (nth (.i 0) u.list 0).int == 1<;>simp<;>omega
theorem cnt1_bad:∀ L:List U,cnt1 (L.map flBad)=L.length
 | []=>rfl
 | u :: r=>by
  have e:cnt1 ((u :: r).map flBad)=1 + cnt1 (r.map flBad):=rfl
  rw [e,cnt1_bad r,List.length_cons];omega
theorem en_loop0:LoopOk enC 0 (loopBody Try.f4 0):=by
 refine loopOk_of (F:=enLoop0) (ts:=[7,5,6,2,1]) (os:=[256]) rfl (fun svs _=>match svs with | .val _ i :: .val _ L :: _=>L.list.length - i.int.toNat | _=>0) ?_
 intro pan svs os k ho1 ho2 h
 unfold enLoop0 at h
 split at h
 ·rename_i i fc L a p q F c z s x1 T x3 Sh x2 M Q
  obtain ⟨⟨⟨rfl,rfl,rfl,rfl,rfl,rfl⟩,ha,h0,hai,hin⟩,hk⟩:=h
  have hL:L.list.length≤maxLen:=ho1.2.1.1
  unfold maxLen at hL
  refine .eq (en_round0 pan _ _ k i L a F c z s T Sh M Q) ?_
  refine bd (fun hlt=>?_) (fun hlt=>?_)
  ·have hi:i.int.toNat < L.list.length:=by omega
   have hwi:IntKind.wrap .i64 (i.int + 1)=i.int + 1:=i64_in (by omega) (by omega)
   have hwa:IntKind.wrap .i64 (a.int + 1)=a.int + 1:=i64_in (by omega) (by omega)
   have hc:(i.int + 1).toNat=i.int.toNat + 1:=by omega
   rw [drop_cons_at hi] at hk
   have hcn:cnt1 (U.at L.list i.int.toNat :: L.list.drop (i.int.toNat + 1))=(bif (nth (.i 0) (U.at L.list i.int.toNat).list 0).int == 1 then 1 else 0) + cnt1 (L.list.drop (i.int.toNat + 1)):=rfl
   rw [hcn] at hk
   have hxe:nth (.i 0) L.list i.int.toNat=U.at L.list i.int.toNat:=rfl
   rw [hwi,hwa,hc,hxe]
   generalize U.at L.list i.int.toNat=u at hk
   have d0:List.drop 0 u.list=u.list:=rfl
   rw [d0]
   refine dt ⟨by omega,by omega⟩ (bi (fun h1=>?_) (fun h1=>?_))
   ·rw [h1,cond_true] at hk
    refine blt (by simp only [U.int_i];omega) ⟨⟨⟨by trivial,by trivial,by trivial,by trivial,by trivial,by trivial⟩,by trivial,by omega,by omega,by omega⟩,?_⟩
    rw [show a.int + 1 + cnt1 (L.list.drop (i.int.toNat + 1))=a.int + (1 + cnt1 (L.list.drop (i.int.toNat + 1))) by omega]
    exact hk
   ·rw [h1,cond_false] at hk
    refine blt (by simp only [U.int_i];omega) ⟨⟨⟨by trivial,by trivial,by trivial,by trivial,by trivial,by trivial⟩,ha,by omega,by omega,by omega⟩,?_⟩
    rw [Int.zero_add] at hk
    exact hk
  ·have hd:L.list.drop i.int.toNat=[]:=List.drop_eq_nil_of_le (by omega)
   rw [hd] at hk
   have h0:cnt1 []=0:=rfl
   rw [h0,Int.add_zero,← ha] at hk
   exact hk
 ·exact h.elim
theorem en_loop2:LoopOk enC 2 (loopBody Try.f4 1):=by
 refine loopOk_of (F:=enLoop2) (ts:=[12,13,10,11]) (os:=[]) rfl (fun svs _=>match svs with | _ :: .val _ i :: .val _ A :: _=>A.list.length - i.int.toNat | _=>0) ?_
 intro pan svs os k ho1 ho2 h
 unfold enLoop2 at h
 split at h
 ·rename_i n i x1 A x2 B
  obtain ⟨⟨⟨rfl,rfl⟩,hn,hn0,hn1,h0,hi⟩,hk⟩:=h
  have hA:A.list.length≤maxLen:=ho1.2.2.1.1
  have hB:B.list.length≤maxLen:=ho1.2.2.2.1.1
  unfold maxLen at hA hB
  refine .eq (en_round2 pan _ _ k n i A B) ?_
  refine bd (fun hlt=>bd (fun hlt2=>?_) (fun hlt2=>?_)) (fun hlt=>?_)
  ·have hwi:IntKind.wrap .i64 (i.int + 1)=i.int + 1:=i64_in (by omega) (by omega)
   have hwn:IntKind.wrap .i64 (n.int + 1)=n.int + 1:=i64_in (by omega) (by omega)
   have hci:(i.int + 1).toNat=i.int.toNat + 1:=by omega
   have hcn:(n.int + 1).toNat=n.int.toNat + 1:=by omega
   rw [drop_cons_at (by omega:i.int.toNat < A.list.length),drop_cons_at (by omega:n.int.toNat < B.list.length),subK,← drop_cons_at (by omega:n.int.toNat < B.list.length)] at hk
   rw [hwi,hwn,hci,hcn]
   refine dt ⟨by omega,by omega⟩ (dt ⟨by omega,by omega⟩ (bi (fun h1=>?_) (fun h1=>?_)))
   ·have h1:lnEq (U.at A.list i.int.toNat) (U.at B.list n.int.toNat)=true:=h1
    rw [h1,cond_true] at hk
    exact blt (by simp only [U.int_i];omega) ⟨⟨⟨by trivial,by trivial⟩,by trivial,by omega,by omega,by omega,by omega⟩,hk⟩
   ·have h1:lnEq (U.at A.list i.int.toNat) (U.at B.list n.int.toNat)=false:=h1
    rw [h1,cond_false] at hk
    exact blt (by simp only [U.int_i];omega) ⟨⟨⟨by trivial,by trivial⟩,hn,by omega,by omega,by omega,by omega⟩,hk⟩
  ·have hd:B.list.drop n.int.toNat=[]:=List.drop_eq_nil_of_le (by omega)
   rw [hd] at hk
   have e:∀ a,subK a [] n.int=n.int:=fun a=>by cases a<;>rfl
   rw [e,← hn] at hk
   exact hk
  ·have hd:A.list.drop i.int.toNat=[]:=List.drop_eq_nil_of_le (by omega)
   rw [hd,subK,← hn] at hk
   exact hk
 ·exact h.elim
end Go.Mat

namespace Go.Mat
open Go Go.Den Go.Proofs
set_option maxRecDepth 100000
theorem en_ok:SpecF PR 4 tA15:=fun fn us hfn=>by
 have hf:PR.funcs[(4:Nat)]? = some Try.f4:=by kernel_rfl
 rw [hf] at hfn;cases hfn
 refine fn_okH (C:=enC) (mkC_ok eqsL_ok mixed_ok (.cons aw_ok (.cons numA_ok (.cons gr_ok (.cons rmeta_ok (.consP tb_ok (.consP reach_ok (.consP fa_ok .nil))))))) (.cons mdT_ok .nil)) hf (by kernel_rfl) (loops_two (by kernel_rfl) en_loop0 en_loop2) fun hok=>?_
 have hp:Try.f4.params.toList=[41,25]:=by kernel_rfl
 rw [hp] at hok
 obtain ⟨u,u2,rfl,h1,h2⟩:=shape2 (by kernel_rfl:Cs PR 41=some (true,[.int .i64,.int .i64,.str,.sl false [.sl true EC],.sl true SC,.sl true BC,.sl false [.int .i64]])) (by kernel_rfl:Cs PR 25=some (false,[.sl false [.int .u8]])) hok.1
 obtain ⟨c,z,s,T,Sh,M,Q,rfl⟩:∃ a b c d e f g,u=[a,b,c,d,e,f,g]:=match u,h1 with | [a,b,c,d,e,f,g],_=>⟨a,b,c,d,e,f,g,rfl⟩
 obtain ⟨F,rfl⟩:=len1 h2
 clear hok h1 h2
 refine .eq (en_tree _ c z s T Sh M Q F) ?_
 refine bi (fun _=>rfl) (fun hg=>bi (fun _=>rfl) (fun hr=>?_))
 have hr:rmetaR c z s T Sh M Q=true:=by simpa using hr
 unfold grX at hg
 simp only [Bool.or_eq_false_iff] at hg
 obtain ⟨g1,g2,g3,g4,g5⟩:=metaG_low hg.1.1
 clear hg
 have hM:metaR c z s T Sh M Q=true:=by rw [← rmetaR_eq (by omega) (fun x hx=>by have:=g3 x hx;omega)];exact hr
 have mg:mgP T Sh:=⟨by omega,fun x hx=>by have:=g3 x hx;rw [shT_e2];omega⟩
 have mp:∀ x,x ∈ M.list→(mpL x).length≤1073741824:=fun x hx=>by
  have:=g5 x hx
  have e:nth (.i 0) x.list.tail.tail 0=e2 x:=by rw [nth_tail,nth_tail]
  unfold mpL
  rw [e];omega
 obtain ⟨hG,_,_,_,_,hW⟩:=md_conds (F:=F) hM mg
 have hrt:=mended_right (F:=F) hM mg
 have hrr:rmetaR c z s (mT c z s T Sh M Q F) (mS c z s T Sh M Q F) (mM M) (mQ c z s T Sh M Q F)=true:=by
  have hm:=mended_mg (F:=F) hM mg
  rw [rmetaR_eq hm.1 (fun x hx=>by have:=hm.2 x hx;rw [shT_e2] at this;exact this)]
  exact hrt
 have hfm:fvM c z s T Sh M Q F=[]:=by unfold fvM fvW;rw [hrt,cond_true,mended_fa hM mg]
 have hfw:fvW c z s T Sh M Q F=faV c z s T Sh M Q F:=by unfold fvW;rw [hM,cond_true]
 have hcn:cnt1 (fvW c z s T Sh M Q F)=((outL (whU F) c.int [] (lnsM (T.list,Sh.list))).length:Int):=by
  rw [hfw]
  unfold faV
  rw [cnt1_app,cnt1_none fun u hu=>flCnts_kind hu,cnt1_bad,bd_out,List.length_map,Int.add_zero]
 have hml:=(mended_lns (c:=c) (z:=z) (s:=s) (T:=T) (Sh:=Sh) (M:=M) (Q:=Q) (F:=F)).trans (mend_lines (F:=F) hM mg).2.1
 have hkl:=keep_len (F:=whU F) (c:=c.int) (lnsM (T.list,Sh.list)) []
 have hall:(lnsM (T.list,Sh.list)).length≤36864:=hG.each.2
 have hE:(List.length (linesOf (U.i (-1)) (mT c z s T Sh M Q F).list ++ shotLines 0 (mS c z s T Sh M Q F).list):Int)=IntKind.wrap .i64 ((List.length (linesOf (U.i (-1)) T.list ++ shotLines 0 Sh.list):Int) - (0 + cnt1 (List.drop (Int.toNat 0) (fvW c z s T Sh M Q F)))):=by
  show ((lnsM ((mT c z s T Sh M Q F).list,(mS c z s T Sh M Q F).list)).length:Int)=IntKind.wrap .i64 (((lnsM (T.list,Sh.list)).length:Int) - (0 + cnt1 (fvW c z s T Sh M Q F)))
  rw [hml,hcn,i64_in (by omega) (by omega)]
  omega
 have hS:subK (List.drop (Int.toNat 0) (linesOf (U.i (-1)) T.list ++ shotLines 0 Sh.list)) (List.drop (Int.toNat 0) (linesOf (U.i (-1)) (mT c z s T Sh M Q F).list ++ shotLines 0 (mS c z s T Sh M Q F).list)) 0=(List.length (linesOf (U.i (-1)) (mT c z s T Sh M Q F).list ++ shotLines 0 (mS c z s T Sh M Q F).list):Int):=by
  show subK (lnsM (T.list,Sh.list)) (lnsM ((mT c z s T Sh M Q F).list,(mS c z s T Sh M Q F).list)) 0=((lnsM ((mT c z s T Sh M Q F).list,(mS c z s T Sh M Q F).list)).length:Int)
  rw [hml,← keep_filter _ _ (lns_nodup _),subK_esub (esub_filter _ _),Int.zero_add]
 have he1:eachP [[c,z,s,T,Sh,M,Q]]:=hG.each.1
 have he2:eachP [[c,z,s,mT c z s T Sh M Q F,mS c z s T Sh M Q F,mM M,mQ c z s T Sh M Q F]]:=hW.each.1
 have hmS:((List.length (mS c z s T Sh M Q F).list:Int) != (List.length Sh.list:Int))=false:=by
  have:=congrArg List.length (mend_lines (F:=F) hM mg).2.2
  rw [List.length_map,List.length_map] at this
  have e:(mS c z s T Sh M Q F).list.length=Sh.list.length:=(List.length_map ..).trans this
  rw [e]
  exact bne_self_eq_false _
 have hc0:=cnt1_in (fvW c z s T Sh M Q F)
 refine ⟨mg,⟨⟨rfl,rfl,rfl,rfl,rfl,rfl⟩,rfl,by omega,by omega,by omega⟩,⟨⟨rfl,rfl,rfl⟩,hM,mg,mp⟩,mended_mg hM mg,bf (by rw [hfm];rfl) (bf (by rw [hrr];rfl) (bi (fun h0=>?_) (fun _=>?_)))⟩
 ·refine ⟨?_,bf hmS ⟨he1,he2,bf (bne_eq_false_iff_eq.2 hE) ⟨⟨⟨rfl,rfl⟩,rfl,by omega,by omega,by omega,by omega⟩,bt (beq_iff_eq.2 hS) rfl⟩⟩⟩
  have h0:0 + cnt1 (fvW c z s T Sh M Q F)=0:=beq_iff_eq.1 h0
  have hn:outL (whU F) c.int [] (lnsM (T.list,Sh.list))=[]:=List.length_eq_zero_iff.1 (by omega)
  show (woU c z s T Sh M Q F).1=T.list
  unfold woU
  rw [bd_out,hn]
  rfl
 ·exact ⟨he1,he2,bf (bne_eq_false_iff_eq.2 hE) ⟨⟨⟨rfl,rfl⟩,rfl,by omega,by omega,by omega,by omega⟩,bt (beq_iff_eq.2 hS) rfl⟩⟩
end Go.Mat
