/- A part of the proof of this: behind a mending there are no faults; what was not bad shows the same; a meta without bad entries keeps them all. Conditions: none. Joined of F63, B65, F65, B82, F82, B83, F83, B84, F84, B85, F85, B86, F86, B87, F87, B88, F88, B89, F89, B90, F90, DenRJ, B92, F92, B93, F93, F94, DenRK, DenRL, DenRM, DenRN, B95, F95, F96, F97. -/
import Derived.Test.YtjleagfibbbjnaaC3
import Derived.KernelRfl
import Derived.WideKeyRuns
namespace Go.Mat
open Go Go.Den Go.Proofs
set_option maxRecDepth 100000
abbrev Bytes8 (b:List U):Prop:=∀ k,k < b.length→0≤(U.at b k).int∧(U.at b k).int≤255
theorem nibble_hi {t:Int} (h0:0≤t) (h1:t≤255):IntKind.wrap .i64 (Int.fdiv t ((2:Int) ^ min (Int.toNat 4) (IntKind.bits .u8)))=t / 16:=by
 rw [show min (Int.toNat 4) (IntKind.bits .u8)=4 from rfl,Int.fdiv_eq_ediv_of_nonneg _ (by decide),show (2:Int) ^ 4=16 from rfl]
 exact i64_in (by omega) (by omega)
theorem and15 {n:Nat} (hn:4≤n) {t:Int} (h0:0≤t) (h1:t≤255) (h8:8≤n):((BitVec.ofInt n t &&& BitVec.ofInt n 15).toNat:Int)=t % 16:=by
 have hp:256≤2 ^ n:=Nat.pow_le_pow_right (n:=2) (by decide) h8
 have e1:(BitVec.ofInt n t).toNat=t.toNat:=by
  rw [BitVec.toNat_ofInt]
  have:t % ((2 ^ n:Nat):Int)=t:=Int.emod_eq_of_lt h0 (by omega)
  rw [this]
 have e2:(BitVec.ofInt n 15).toNat=2 ^ 4 - 1:=by
  rw [BitVec.toNat_ofInt]
  have:(15:Int) % ((2 ^ n:Nat):Int)=15:=Int.emod_eq_of_lt (by decide) (by omega)
  rw [this]
  rfl
 rw [BitVec.toNat_and,e1,e2,Nat.and_two_pow_sub_one_eq_mod]
 omega
theorem nibble_lo {t:Int} (h0:0≤t) (h1:t≤255):IntKind.wrap .i64 (IntKind.wrap .u8 ((BitVec.ofInt (IntKind.bits .u8) t &&& BitVec.ofInt (IntKind.bits .u8) 15).toNat:Int))=t % 16:=by
 have e:((BitVec.ofInt (IntKind.bits .u8) t &&& BitVec.ofInt (IntKind.bits .u8) 15).toNat:Int)=t % 16:=and15 (n:=8) (by decide) h0 h1 (by decide)
 rw [e]
 have e8:IntKind.wrap .u8 (t % 16)=t % 16:=by
  simp only [IntKind.wrap,IntKind.bits,IntKind.signed]
  simp
  omega
 rw [e8]
 exact i64_in (by omega) (by omega)
theorem two_bytes {x y:Int} (hx0:0≤x) (hx1:x≤255) (hy0:0≤y) (hy1:y≤255) :
  IntKind.wrap .i64 ((BitVec.ofInt (IntKind.bits .i64) (IntKind.wrap .i64 x) ||| BitVec.ofInt (IntKind.bits .i64) (IntKind.wrap .i64 (IntKind.wrap .i64 y * 2 ^ min (Int.toNat 8) (IntKind.bits .i64)))).toNat:Int)=x + 256 * y:=by
 have hm:min (Int.toNat 8) (IntKind.bits .i64)=8:=rfl
 rw [i64_in (x:=x) (by omega) (by omega),i64_in (x:=y) (by omega) (by omega),hm,show (2:Int) ^ 8=256 from rfl,i64_in (x:=y * 256) (by omega) (by omega)]
 have e1:(BitVec.ofInt (IntKind.bits .i64) x).toNat=x.toNat:=by
  rw [BitVec.toNat_ofInt,Int.emod_eq_of_lt hx0 (by simp [IntKind.bits];omega)]
 have e2:(BitVec.ofInt (IntKind.bits .i64) (y * 256)).toNat=y.toNat <<< 8:=by
  rw [BitVec.toNat_ofInt,Int.emod_eq_of_lt (by omega) (by simp [IntKind.bits];omega),Nat.shiftLeft_eq]
  omega
 have e3:x.toNat ||| y.toNat <<< 8=x.toNat + 256 * y.toNat:=by
  rw [Nat.or_comm,← Nat.shiftLeft_add_eq_or_of_lt (show x.toNat < 2 ^ 8 by omega),Nat.shiftLeft_eq]
  omega
 rw [BitVec.toNat_or,e1,e2,e3,i64_in (by omega) (by omega)]
 omega
theorem cpL_len:∀ (n d:Nat) (l:List U),(cpL n d l).length=l.length + n
 | 0,_,_=>rfl
 | n + 1,d,l=>by rw [cpL,cpL_len n d];simp;omega
theorem litE_zero:∀ {n:Nat} {r:List U} {f:Nat},litE n r f=0→n≤r.length∧n≤f
 | 0,_,_,_=>⟨Nat.zero_le _,Nat.zero_le _⟩
 | n + 1,[],f,h=>by simp [litE] at h
 | n + 1,x :: r,f,h=>by
  rw [litE] at h
  cases hf:decide (f=0) with
  | true=>rw [hf] at h;simp at h
  | false=>
   rw [hf,cond_false] at h
   have:=litE_zero h
   have hf:f≠0:=of_decide_eq_false hf
   simp only [List.length_cons]
   omega
theorem unp_loop2:LoopOk unpC 2 (loopBody Try.f25 1):=by
 refine loopOk_of (F:=unpLoop2) (ts:=[45,44,7,8,9,1,6,2,10]) (os:=[256,768,896,1276]) rfl (fun svs _=>match svs with | .val _ i :: .val _ n :: _=>(n.int - i.int).toNat | _=>0) ?_
 intro pan svs os k ho1 ho2 h
 unfold unpLoop2 at h
 split at h
 ·rename_i i n p7 o7 g pg og o m p6 o6 p2 o2 t b a f pa oa pb ob e xs
  obtain ⟨⟨rfl,rfl,rfl,rfl,rfl,rfl,rfl,rfl,rfl,rfl,rfl,rfl,rfl,rfl,rfl,rfl,ha,ha0,hab,hb,hm0,hm1,hx,hi0,hin,hn⟩,hk⟩:=h
  refine .eq (unp_round2 pan _ _ k i n m t b a xs) ?_
  refine bd (fun hlt=>⟨⟨by trivial,by trivial,by trivial,by trivial,by trivial,by trivial,ha0,by omega⟩,bd (fun hal=>?_) (fun hal=>?_)⟩) (fun hlt=>?_)
  ·rw [show (n.int - i.int).toNat=(n.int - (i.int + 1)).toNat + 1 by omega,drop_at (by omega),litE] at hk
   refine bi (fun hf=>?_) (fun hf=>?_)
   ·have hf:(xs.length:Int)=m.int:=by simpa using hf
    rw [decide_eq_true (show (m.int - (xs.length:Int)).toNat=0 by omega),cond_true] at hk
    exact hk (.l xs)
   ·have hf:¬ (xs.length:Int)=m.int:=by simpa using hf
    rw [decide_eq_false (show ¬ (m.int - (xs.length:Int)).toNat=0 by omega),cond_false] at hk
    rw [i64_in (x:=i.int + 1) (by omega) (by omega)]
    have hl:(xs ++ [nth (U.i 0) b.list a.int.toNat]).length=xs.length + 1:=by simp
    refine broom (by unfold room;omega) rfl (blt (by simp only [U.int_i];omega) ⟨⟨by trivial,by trivial,by trivial,by trivial,by trivial,by trivial,by trivial,by trivial,by trivial,by trivial,by trivial,by trivial,by trivial,by trivial,by trivial,by trivial,by trivial,by omega,by omega,hb,hm0,hm1,by rw [hl];omega,by omega,by omega,hn⟩,?_⟩)
    rw [hl,show (m.int - ((xs.length + 1:Nat):Int)).toNat=(m.int - (xs.length:Int)).toNat - 1 by omega,show (a.int + 1).toNat=a.int.toNat + 1 by omega,show a.int + 1 + (n.int - (i.int + 1))=a.int + (n.int - i.int) by omega]
    rw [List.take_succ_cons,List.append_cons] at hk
    exact hk
  ·rw [show (n.int - i.int).toNat=(n.int - (i.int + 1)).toNat + 1 by omega,List.drop_of_length_le (by omega),litE] at hk
   exact hk (.l xs)
  ·rw [show (n.int - i.int).toNat=0 by omega,litE,List.take_zero,List.append_nil,show a.int + (n.int - i.int)=a.int by omega,uObjs,← ha] at hk
   exact hk
 ·exact h.elim
theorem unp_loop5:LoopOk unpC 5 (loopBody Try.f25 2):=by
 refine loopOk_of (F:=unpLoop5) (ts:=[110,109,7,8,9,1,6,2,18]) (os:=[256,768,896,1276]) rfl (fun svs _=>match svs with | .val _ i :: .val _ n :: _=>(n.int - i.int).toNat | _=>0) ?_
 intro pan svs os k ho1 ho2 h
 unfold unpLoop5 at h
 split at h
 ·rename_i i n p7 o7 g pg og o m p6 o6 p2 o2 d b a f pa oa pb ob e xs
  obtain ⟨⟨rfl,rfl,rfl,rfl,rfl,rfl,rfl,rfl,rfl,rfl,rfl,rfl,rfl,rfl,rfl,rfl,ha,ha0,hab,hb,hm0,hm1,hx,hi0,hin,hn,hd1,hd2⟩,hk⟩:=h
  refine .eq (unp_round5 pan _ _ k i n m d b a xs) ?_
  refine bd (fun hlt=>?_) (fun hlt=>?_)
  ·refine bi (fun hf=>?_) (fun hf=>?_)
   ·have hf:(xs.length:Int)=m.int:=by simpa using hf
    rw [decide_eq_true (show m.int - (xs.length:Int) < n.int - i.int by omega),cond_true] at hk
    exact hk (.l xs)
   ·have hf:¬ (xs.length:Int)=m.int:=by simpa using hf
    rw [i64_in (x:=i.int + 1) (by omega) (by omega),i64_in (x:=(xs.length:Int) - d.int) (by omega) (by omega)]
    generalize hy:nth (U.i 0) xs ((xs.length:Int) - d.int).toNat=y
    have hl:(xs ++ [y]).length=xs.length + 1:=by simp
    refine dt ⟨by omega,by omega⟩ (blt (by omega) (broom (by unfold room;omega) rfl (blt (by simp only [U.int_i];omega) ⟨⟨by trivial,by trivial,by trivial,by trivial,by trivial,by trivial,by trivial,by trivial,by trivial,by trivial,by trivial,by trivial,by trivial,by trivial,by trivial,by trivial,ha,by omega,by omega,hb,hm0,hm1,by rw [hl];omega,by omega,by omega,hn,hd1,by rw [hl];omega⟩,?_⟩)))
    rw [show (n.int - i.int).toNat=(n.int - (i.int + 1)).toNat + 1 by omega,cpL,show U.at xs (xs.length - d.int.toNat)=y by rw [← hy];congr 1;omega] at hk
    rw [hl]
    refine bd (fun h1=>?_) (fun h1=>?_)
    ·rw [decide_eq_true (show m.int - (xs.length:Int) < n.int - i.int by omega),cond_true] at hk
     exact hk
    ·rw [decide_eq_false (show ¬ m.int - (xs.length:Int) < n.int - i.int by omega),cond_false] at hk
     exact hk
  ·rw [decide_eq_false (by omega),cond_false,show (n.int - i.int).toNat=0 by omega,cpL,uObjs,← ha] at hk
   exact hk
 ·exact h.elim
theorem uN_in {b:List U} (hb:Bytes8 b) {a:Int} (ha0:0≤a) (hal:a < b.length):0≤uH b a∧uH b a≤15∧0≤uL b a∧uL b a≤15∧0≤uN b a∧uN b a≤15 + 255 * b.length∧a + 1≤uA b a∧uA b a≤b.length:=by
 have h0:=hb a.toNat (by omega)
 have h1:0≤uH b a∧uH b a≤15:=by unfold uH;omega
 have h2:0≤uL b a∧uL b a≤15:=by unfold uL;omega
 have h3:=hN_bd (h:=uH b a) (r:=b.drop (a + 1).toNat) h1.1 (u8_drop hb)
 have h4:=hK_le (uH b a) (b.drop (a + 1).toNat)
 rw [List.length_drop] at h3 h4
 refine ⟨h1.1,h1.2,h2.1,h2.2,?_,?_,?_,?_⟩
 ·unfold uN;omega
 ·unfold uN;omega
 ·unfold uA;omega
 ·unfold uA;omega
theorem uM_in {b:List U} (hb:Bytes8 b) {a:Int} (ha0:0≤a) (hal:a < b.length) (h2:uB b a + 2≤b.length):0≤uM b a∧uM b a≤15 + 255 * b.length∧uB b a + 2≤uC b a∧uC b a≤b.length:=by
 obtain ⟨_,_,h1,h1',h3,_,h5,_⟩:=uN_in hb ha0 hal
 have hB:0≤uB b a:=by unfold uB;omega
 have h3:=hN_bd (h:=uL b a) (r:=b.drop (uB b a + 2).toNat) h1 (u8_drop hb)
 have h4:=hK_le (uL b a) (b.drop (uB b a + 2).toNat)
 rw [List.length_drop] at h3 h4
 refine ⟨?_,?_,?_,?_⟩
 ·unfold uM;omega
 ·unfold uM;omega
 ·unfold uC;omega
 ·unfold uC;omega
theorem unp_fuel {b:List U} (hb:Bytes8 b) {m:Int}:∀ (f g:Nat) {a:Int} {out:List U},0≤a→b.length + 1 - a.toNat≤f→b.length + 1 - a.toNat≤g→unp b m f a out=unp b m g a out
 | 0,0,_,_,_,_,_=>rfl
 | 0,g + 1,a,out,h0,h1,_=>by
  rw [unp,unp,decide_eq_false (by omega),Bool.false_and,cond_false]
 | f + 1,0,a,out,h0,_,h2=>by
  rw [unp,unp,decide_eq_false (by omega),Bool.false_and,cond_false]
 | f + 1,g + 1,a,out,h0,h1,h2=>by
  rw [unp,unp]
  by_cases hal:a < (b.length:Int)
  ·by_cases hB:uB b a + 2≤b.length
   ·obtain ⟨_,_,_,_,_,_,h5,_⟩:=uN_in hb h0 hal
    have h6:=uM_in hb h0 hal hB
    have h7:a + 1≤uB b a:=by
     have:=(uN_in hb h0 hal).2.2.2.2.1
     unfold uB;omega
    rw [unp_fuel hb f g (by omega) (by omega) (by omega)]
   ·have:uBad b a out=true:=by unfold uBad;rw [decide_eq_true (by omega)];simp
    rw [this,cond_true,cond_true]
  ·rw [decide_eq_false hal,Bool.false_and,cond_false,cond_false]
theorem tH_eq {b a:U} (hb:Bytes8 b.list) (ha0:0≤a.int) (hal:a.int < b.list.length):tH b a=uH b.list a.int:=nibble_hi (hb _ (by omega)).1 (hb _ (by omega)).2
theorem tL_eq {b a:U} (hb:Bytes8 b.list) (ha0:0≤a.int) (hal:a.int < b.list.length):tL b a=uL b.list a.int:=nibble_lo (hb _ (by omega)).1 (hb _ (by omega)).2
theorem unp_loop0:LoopOk unpC 0 (loopBody Try.f25 0):=by
 refine loopOk_of (F:=unpLoop0) (ts:=[7,8,9,1,6,2]) (os:=[256,768,896,1276]) rfl (fun _ os=>match os with | [.box [.val _ b],.box [.val _ a],_,_]=>((b.list.length:Int) - a.int).toNat | _=>0) ?_
 intro pan svs os k ho1 ho2 h
 unfold unpLoop0 at h
 split at h
 ·rename_i p7 o7 g pg og o m p6 o6 p2 o2 b a f pa oa pb ob e xs
  obtain ⟨⟨rfl,rfl,rfl,rfl,rfl,rfl,rfl,rfl,rfl,rfl,rfl,rfl,rfl,rfl,rfl,rfl,ha,ha0,hab,hb,hm0,hm1,hx⟩,hk⟩:=h
  have hbk:Bytes8 b.list:=fun k hk=>u8_row (k:=k) ho2.1.1 hk
  refine .eq (unp_round0 pan _ _ k m b a xs) ?_
  obtain ⟨f,hf⟩:∃ f,b.list.length + 1 - a.int.toNat=f + 1:=⟨b.list.length - a.int.toNat,by omega⟩
  rw [hf,unp] at hk
  refine ⟨⟨by trivial,by trivial,by trivial,by trivial,by trivial,by trivial,ha0,by omega⟩,bd (fun hal=>?_) (fun hal=>?_)⟩
  ·obtain ⟨hH0,hH1,hL0,hL1,hN0,hN1,hA0,hA1⟩:=uN_in hbk ha0 hal
   have eH:=tH_eq hbk ha0 hal
   have eL:=tL_eq hbk ha0 hal
   have eN:tN b a=uN b.list a.int:=by unfold tN uN;rw [eH]
   have eA:tA b a=uA b.list a.int:=by unfold tA uA;rw [eH]
   have eB:tB b a=uB b.list a.int:=by unfold tB uB;rw [eA,eN];omega
   have eO:tO b a xs=uOut b.list a.int xs:=by unfold tO uOut;rw [eA,eN,show uN b.list a.int - 0=uN b.list a.int by omega]
   have e2:uB b.list a.int + 1 + 1=uB b.list a.int + 2:=by omega
   have eC:tC b a=uC b.list a.int:=by unfold tC uC;rw [eL,eB,e2]
   have hB0:a.int + 1≤uB b.list a.int:=by unfold uB;omega
   rw [decide_eq_true hal,Bool.true_and] at hk
   rw [eH,eN,eA,eB,eO,eC,eL]
   rw [show uN b.list a.int - 0=uN b.list a.int by omega]
   refine ⟨⟨by trivial,by trivial,by trivial,by trivial,by trivial,by trivial,by trivial,by trivial,by trivial,by trivial,by trivial,by trivial,by omega,by omega,by omega,by omega,by omega⟩,bi (fun hok=>?_) (fun hok=>?_)⟩
   ·rw [show uOk b.list a.int=true from hok,cond_true] at hk
    refine ⟨⟨by trivial,by trivial,by trivial,by trivial,by trivial,by trivial,by trivial,by trivial,by trivial,by trivial,by trivial,by trivial,by trivial,by trivial,by trivial,by trivial,by trivial,by omega,by omega,hb,hm0,hm1,hx,by omega,by omega,by omega⟩,bi (fun hl=>?_) (fun hl=>?_)⟩
    ·rw [hl,cond_true] at hk
     have hl':=litE_zero (by simpa using hl)
     rw [List.length_drop] at hl'
     have hBl:uB b.list a.int≤b.list.length:=by unfold uB;omega
     have hOl:(uOut b.list a.int xs).length=xs.length + (uN b.list a.int).toNat:=by
      unfold uOut
      rw [List.length_append,List.length_take,List.length_drop]
      omega
     refine bi (fun hbe=>?_) (fun hbe=>?_)
     ·have hbe:uB b.list a.int=(b.list.length:Int):=by simpa using hbe
      rw [decide_eq_true hbe,cond_true] at hk
      exact hk
     ·have hbe:¬ uB b.list a.int=(b.list.length:Int):=by simpa using hbe
      rw [decide_eq_false hbe,cond_false] at hk
      refine ⟨⟨by trivial,by trivial,by trivial,by trivial,by trivial,by trivial,by omega,by omega⟩,dt (by omega) ⟨⟨by trivial,by trivial,by trivial,by trivial,by trivial,by trivial,by omega,by omega⟩,bd (fun h1=>?_) (fun h1=>?_)⟩⟩
      ·have hy0:=hbk (uB b.list a.int).toNat (by omega)
       have hy1:=hbk (uB b.list a.int + 1).toNat (by omega)
       have eD:tD b a=uD b.list a.int:=by
        unfold tD uD
        rw [eB]
        exact two_bytes hy0.1 hy0.2 hy1.1 hy1.2
       obtain ⟨hM0,hM1,hC0,hC1⟩:=uM_in hbk ha0 hal (by omega)
       have eM:tM b a=uM b.list a.int + 4:=by
        unfold tM
        rw [eL,eB,e2]
        exact i64_in (by unfold uM at hM0;omega) (by unfold uM at hM1;omega)
       have hD0:0≤uD b.list a.int:=by unfold uD;omega
       have eP:tP b a xs=cpL (uM b.list a.int + 4).toNat (uD b.list a.int).toNat (uOut b.list a.int xs):=by
        unfold tP
        rw [eM,eD,eO,show uM b.list a.int + 4 - 0=uM b.list a.int + 4 by omega]
       rw [eD,eM,eP,e2,show uM b.list a.int + 4 - 0=uM b.list a.int + 4 by omega]
       have hbad:uBad b.list a.int xs=((uD b.list a.int == 0) || decide (((uOut b.list a.int xs).length:Int) < uD b.list a.int) || !(hOk (uL b.list a.int) (b.list.drop (uB b.list a.int + 2).toNat))):=by
        unfold uBad
        rw [decide_eq_false (by omega),Bool.false_or]
       rw [hbad] at hk
       refine bi (fun h2=>?_) (fun h2=>bd (fun h3=>?_) (fun h3=>⟨⟨by trivial,by trivial,by trivial,by trivial,by trivial,by trivial,by trivial,by trivial,by trivial,by trivial,by trivial,by trivial,by omega,by omega,by omega,by omega,by omega⟩,bi (fun h4=>?_) (fun h4=>?_)⟩))
       ·rw [h2,Bool.true_or,Bool.true_or,cond_true] at hk
        exact hk (.l _)
       ·rw [decide_eq_true (by omega),Bool.or_true,Bool.true_or,cond_true] at hk
        exact hk (.l _)
       ·have h2':¬ uD b.list a.int=0:=by simpa using h2
        rw [h2,h4,decide_eq_false (by omega),Bool.not_true,Bool.or_false,Bool.or_false,cond_false] at hk
        refine ⟨⟨by trivial,by trivial,by trivial,by trivial,by trivial,by trivial,by trivial,by trivial,by trivial,by trivial,by trivial,by trivial,by trivial,by trivial,by trivial,by trivial,by trivial,by omega,by omega,hb,hm0,hm1,by omega,by omega,by omega,by omega,by omega,by omega⟩,bd (fun h5=>?_) (fun h5=>?_)⟩
        ·rw [decide_eq_true h5,cond_true] at hk
         exact hk
        ·rw [decide_eq_false h5,cond_false] at hk
         refine bi (fun h6=>?_) (fun h6=>?_)
         ·have h6:uC b.list a.int=(b.list.length:Int):=by simpa using h6
          rw [decide_eq_true h6,cond_true] at hk
          exact hk
         ·have h6:¬ uC b.list a.int=(b.list.length:Int):=by simpa using h6
          rw [decide_eq_false h6,cond_false] at hk
          rw [unp_fuel hbk f (b.list.length + 1 - (uC b.list a.int).toNat) (by omega) (by omega) (by omega)] at hk
          refine blt (by simp only [U.int_i];omega) ⟨⟨by trivial,by trivial,by trivial,by trivial,by trivial,by trivial,by trivial,by trivial,by trivial,by trivial,by trivial,by trivial,by trivial,by trivial,by trivial,by trivial,by trivial,by omega,by omega,hb,hm0,hm1,by rw [cpL_len];omega⟩,hk⟩
       ·rw [h4,Bool.not_false,Bool.or_true,cond_true] at hk
        exact fun _=>hk (.l _)
      ·have hbad:uBad b.list a.int xs=true:=by unfold uBad;rw [decide_eq_true (by omega)];simp
       rw [hbad,cond_true] at hk
       exact hk (.l _)
    ·rw [hl,cond_false] at hk
     have hne:¬ ((litE (uN b.list a.int).toNat (List.drop (uA b.list a.int).toNat b.list) (m.int - (xs.length:Int)).toNat == 0)=true):=by rw [hl];simp
     rw [show (litE (uN b.list a.int).toNat (List.drop (uA b.list a.int).toNat b.list) (m.int - (xs.length:Int)).toNat,([]:List U)).1=litE (uN b.list a.int).toNat (List.drop (uA b.list a.int).toNat b.list) (m.int - (xs.length:Int)).toNat from rfl,hl,cond_false] at hk
     exact hk
   ·rw [show uOk b.list a.int=false from hok,cond_false] at hk
    exact fun _=>hk (.l _)
  ·rw [decide_eq_false hal,Bool.false_and,cond_false] at hk
   exact hk (.l _)
 ·exact h.elim
theorem unp_args {us:List (List U)} (h:shapeOk PR [25,3] us):∃ b m,us=[[b],[m]]:=by
 obtain ⟨u,u2,rfl,h1,h2⟩:=shape2 (by kernel_rfl:Cs PR 25=some (false,[.sl false [.int .u8]])) (by kernel_rfl:Cs PR 3=some (false,[.int .i64])) h
 obtain ⟨a,rfl⟩:=len1 h1
 obtain ⟨b,rfl⟩:=len1 h2
 exact ⟨a,b,rfl⟩
theorem unp_ok:SpecFP PR 25 unpP unpS:=fun fn us hfn hpre=>by
 have hf:PR.funcs[(25:Nat)]? = some Try.f25:=by kernel_rfl
 rw [hf] at hfn;cases hfn
 refine fn_okH (C:=unpC) (mkC_ok eqs0_ok mixed_ok .nil (.cons next_ok (.cons len_ok .nil))) hf (by kernel_rfl) (loops_three (by kernel_rfl) unp_loop0 unp_loop2 unp_loop5) fun hok=>?_
 have hp:Try.f25.params.toList=[25,3]:=by kernel_rfl
 rw [hp] at hok
 obtain ⟨b,m,hus⟩:=unp_args hok.1
 subst hus
 have hb:b.list.length≤1073741824:=hpre
 refine .eq (unp_tree _ b m) ?_
 rw [show unpS [[b],[m]]=[[.l (bif (unpX b.list m.int).1 == 0 then (unpX b.list m.int).2 else [])],[.i (unpX b.list m.int).1]] from rfl]
 unfold unpX
 refine bd (fun h1=>?_) (fun h1=>bd (fun h2=>?_) (fun h2=>?_))
 ·rw [decide_eq_true h1];rfl
 ·rw [decide_eq_true (show 1048576 < m.int by omega),Bool.or_true];rfl
 ·rw [decide_eq_false h1,decide_eq_false (show ¬ 1048576 < m.int by omega),Bool.or_false,cond_false]
  refine ⟨⟨by trivial,by trivial,by trivial,by trivial,by trivial,by trivial,by trivial,by trivial,by trivial,by trivial,by trivial,by trivial,by trivial,by trivial,by trivial,by trivial,by trivial,by omega,by omega,hb,by omega,by omega,by omega⟩,bi (fun h3=>?_) (fun h3=>?_)⟩
  ·have h3:((unp b.list m.int (b.list.length + 1) 0 []).1 == 0)=true:=h3
   have h4:(unp b.list m.int (b.list.length + 1) 0 []).1=0:=by simpa using h3
   rw [h3,cond_true,h4]
   rfl
  ·have h3:((unp b.list m.int (b.list.length + 1) 0 []).1 == 0)=false:=h3
   rw [h3,cond_false]
   exact fun _=>rfl
end Go.Mat

namespace Go.Mat
open Go Go.Den Go.Proofs
def cbN (g:U):Int:=IntKind.wrap IntKind.i64 ((16:Int) * 2 ^ min (Int.toNat g.int) (IntKind.bits IntKind.i64))
def cbB (s c f:U):List U:=List.drop (Int.toNat (IntKind.wrap IntKind.i64 (s.int * 16))) (List.take (Int.toNat (IntKind.wrap IntKind.i64 (IntKind.wrap IntKind.i64 (s.int + c.int) * 16))) f.list)
def cbU (s c z f g:U):Int × List U:=unpX (List.drop (Int.toNat 0) (List.take (Int.toNat z.int) (cbB s c f))) (cbN g)
def cbV (s c z f g:U):List U:=bif Prod.fst (cbU s c z f g) == 0 then Prod.snd (cbU s c z f g) else []
def whN (f:U):Int:=IntKind.wrap IntKind.i64 ((bif decide ((65536:Int) < IntKind.wrap IntKind.i64 (Int.tdiv ((List.length f.list:Nat):Int) 16)) then (65536:Int) else IntKind.wrap IntKind.i64 (Int.tdiv ((List.length f.list:Nat):Int) 16)) * 16)
def cbFin (b:List U) (m g:Int):Int × List U:=bif ((b.length:Int) == 16 * 2 ^ g.toNat) && (sumI 0 b == m) then (0,b) else (13,[])
def cbX (k s c z m g:Int) (f:List U):Int × List U:=
 bif mayR k s c z m g then
  bif (k == 0) || (k == 1) then (0,List.replicate (16 * 2 ^ g.toNat) (.i 0)) else
  bif decide (((f.length / 16:Nat):Int) < s + c) then (6,[]) else
  bif k == 3 then (bif (unpX (((f.take ((s + c) * 16).toNat).drop (s * 16).toNat).take z.toNat) (16 * 2 ^ g.toNat)).1 == 0 then cbFin (unpX (((f.take ((s + c) * 16).toNat).drop (s * 16).toNat).take z.toNat) (16 * 2 ^ g.toNat)).2 m g else (13,[]))
  else cbFin ((f.take ((s + c) * 16).toNat).drop (s * 16).toNat) m g
 else (1,[])
def bytesX (us:List (List U)):Int × List U:=cbX (nth (.i 0) (nth [] us 0) 0).int (nth (.i 0) (nth [] us 0) 1).int (nth (.i 0) (nth [] us 0) 2).int (nth (.i 0) (nth [] us 0) 3).int (nth (.i 0) (nth [] us 0) 4).int (nth (.i 0) (nth [] us 2) 0).int (nth (.i 0) (nth [] us 1) 0).list
def bytesS:List (List U)→List (List U):=fun us=>[[.l (bytesX us).2],[.i (bytesX us).1]]
noncomputable def cbC:Ctx:=mkC PR eqs0 (fnsCons 23 mayS (fnsConsP 24 cloneP cloneS (fnsConsP 25 unpP unpS (fnsCons 26 sumS fnsNil)))) trsNil noLoops noOut noOut
theorem bytes_tree (R:RF) (k s c z m f g:U):(run cbC Try.f10 [[k,s,c,z,m],[f],[g]] R)=(bif !mayR k.int s.int c.int z.int m.int g.int then R [[U.l []],[U.i 1]] else bif decide (g.int < 0) then False else bif k.int == 0 then bif decide ((0:Int)≤cbN g∧cbN g≤cbN g∧cbN g≤(↑room:Int)) then R [[U.l (List.replicate (Int.toNat (cbN g)) (U.i 0))],[U.i 0]] else False else bif k.int == 1 then bif decide ((0:Int)≤cbN g∧cbN g≤cbN g∧cbN g≤(↑room:Int)) then R [[U.l (List.replicate (Int.toNat (cbN g)) (U.i 0))],[U.i 0]] else False else bif decide (IntKind.wrap .i64 (s.int + c.int) > IntKind.wrap .i64 (Int.tdiv (f.list.length:Int) 16)) then R [[U.l []],[U.i 6]] else bif decide ((0:Int)≤IntKind.wrap .i64 (s.int * 16)∧IntKind.wrap .i64 (s.int * 16)≤IntKind.wrap .i64 (IntKind.wrap .i64 (s.int + c.int) * 16)∧IntKind.wrap .i64 (IntKind.wrap .i64 (s.int + c.int) * 16)≤IntKind.wrap .i64 (IntKind.wrap .i64 (s.int + c.int) * 16)∧IntKind.wrap .i64 (IntKind.wrap .i64 (s.int + c.int) * 16)≤(f.list.length:Int)) && true then cloneP [[U.l (cbB s c f)]]∧bif k.int == 3 then bif decide ((0:Int)≤0∧(0:Int)≤z.int∧z.int≤z.int∧z.int≤(↑(List.length (cbB s c f)):Int)) && true then unpP [[U.l (List.drop (Int.toNat 0) (List.take (Int.toNat z.int) (cbB s c f)))],[U.i (cbN g)]]∧bif Prod.fst (cbU s c z f g) != 0 then R [[U.l []],[U.i 13]] else bif (↑(List.length (cbV s c z f g)):Int) != cbN g then R [[U.l []],[U.i 13]] else bif sumI 0 (cbV s c z f g) != m.int then R [[U.l []],[U.i 13]] else R [[U.l (cbV s c z f g)],[U.i 0]] else False else bif (↑(List.length (cbB s c f)):Int) != cbN g then R [[U.l []],[U.i 13]] else bif sumI 0 (cbB s c f) != m.int then R [[U.l []],[U.i 13]] else R [[U.l (cbB s c f)],[U.i 0]] else False):=by kernel_rfl
def wholeS:List (List U)→List (List U):=fun us=>[[.l ((nth (.i 0) (nth [] us 0) 0).list.take (min ((nth (.i 0) (nth [] us 0) 0).list.length / 16) 65536 * 16))]]
theorem whole_tree (R:RF) (f:U):(run K0 Try.f38 [[f]] R)=(bif decide ((0:Int)≤0∧(0:Int)≤whN f∧whN f≤whN f∧whN f≤(↑(List.length f.list):Int)) && true then R [[U.l (List.drop (Int.toNat 0) (List.take (Int.toNat (whN f)) f.list))]] else False):=by kernel_rfl
end Go.Mat

namespace Go.Mat
open Go Go.Den Go.Proofs
set_option maxRecDepth 100000
theorem may_facts {k s c z m g:Int} (h:mayR k s c z m g=true):0≤g∧g≤6∧(k=0∨k=1∨(k=2∨k=3)∧2≤s∧0≤c∧c≤64∧s + c≤65536∧(k=2→c=2 ^ g.toNat)∧(k=3→1≤z∧z≤c * 16)):=by
 unfold mayR at h
 split at h
 ·cases h
 rename_i hg
 have h64:(2:Int) ^ g.toNat≤64:=by
  have h1:g.toNat≤6:=by omega
  have:(2:Nat) ^ g.toNat≤2 ^ 6:=Nat.pow_le_pow_right (by decide) h1
  have e:((2 ^ g.toNat:Nat):Int)=(2:Int) ^ g.toNat:=by norm_cast
  omega
 refine ⟨by omega,by omega,?_⟩
 split at h
 ·rename_i hk
  rcases hk with hk | hk
  ·exact .inl hk
  ·exact .inr (.inl hk)
 split at h
 ·rename_i hk
  rw [Bool.and_eq_true] at h
  have h1:=of_decide_eq_true h.1
  have h2:=h.2
  unfold placeR at h2
  simp only [Bool.and_eq_true,decide_eq_true_eq] at h2
  exact .inr (.inr ⟨.inl hk,by omega,by omega,by omega,by omega,fun _=>h1.1,by omega⟩)
 split at h
 ·rename_i hk
  rw [Bool.and_eq_true] at h
  have h1:=of_decide_eq_true h.1
  have h2:=h.2
  unfold placeR at h2
  simp only [Bool.and_eq_true,decide_eq_true_eq] at h2
  exact .inr (.inr ⟨.inr hk,by omega,by omega,by omega,by omega,by omega,by omega⟩)
 ·cases h
theorem cbN_eq {g:U} (h0:0≤g.int) (h6:g.int≤6):cbN g=16 * 2 ^ g.int.toNat∧16≤(16:Int) * 2 ^ g.int.toNat∧(16:Int) * 2 ^ g.int.toNat≤1024:=by
 have h64:(2:Int) ^ g.int.toNat≤64∧1≤(2:Int) ^ g.int.toNat:=by
  have h1:g.int.toNat≤6:=by omega
  have:(2:Nat) ^ g.int.toNat≤2 ^ 6:=Nat.pow_le_pow_right (by decide) h1
  have h2:1≤(2:Nat) ^ g.int.toNat:=Nat.one_le_two_pow
  have e:((2 ^ g.int.toNat:Nat):Int)=(2:Int) ^ g.int.toNat:=by norm_cast
  omega
 refine ⟨?_,by omega,by omega⟩
 unfold cbN
 rw [Nat.min_eq_left (by simp [IntKind.bits];omega)]
 exact i64_in (by omega) (by omega)
theorem whN_eq {f:U} (hl:f.list.length≤maxLen):whN f=((min (f.list.length / 16) 65536 * 16:Nat):Int):=by
 unfold maxLen at hl
 unfold whN
 have e1:IntKind.wrap .i64 (Int.tdiv (f.list.length:Int) 16)=((f.list.length / 16:Nat):Int):=by
  rw [Int.tdiv_eq_ediv_of_nonneg (by omega)]
  exact i64_in (by omega) (by omega)
 rw [e1]
 have e2:(bif decide ((65536:Int) < ((f.list.length / 16:Nat):Int)) then (65536:Int) else ((f.list.length / 16:Nat):Int))=((min (f.list.length / 16) 65536:Nat):Int):=by
  by_cases h:(65536:Int) < ((f.list.length / 16:Nat):Int)
  ·rw [decide_eq_true h,cond_true];omega
  ·rw [decide_eq_false h,cond_false];omega
 rw [e2,i64_in (by omega) (by omega)]
 omega
theorem whole_ok:SpecF PR 38 wholeS:=fun fn us hfn=>by
 have hf:PR.funcs[(38:Nat)]? = some Try.f38:=by kernel_rfl
 rw [hf] at hfn;cases hfn
 refine fn_okH (C:=K0) (mkC_ok eqs0_ok mixed_ok .nil .nil) hf (by kernel_rfl) (loops_none (by kernel_rfl)) fun hok=>?_
 have hp:Try.f38.params.toList=[25]:=by kernel_rfl
 rw [hp] at hok
 obtain ⟨f,hus⟩:=bytes_args hok.1
 have hl:f.list.length≤maxLen:=by
  subst hus
  exact (hok.2 [vl (.int .u8) f] (by kernel_rfl)).1.1
 subst hus
 refine .eq (whole_tree _ f) ?_
 rw [whN_eq hl]
 refine broom (by omega) rfl ?_
 rw [Int.toNat_natCast]
 rfl
theorem ent3_args {us:List (List U)} (h:shapeOk PR [24,25,3] us):∃ k s c z m f g,us=[[k,s,c,z,m],[f],[g]]:=by
 obtain ⟨u,u2,u3,rfl,h1,h2,h3⟩:=shape3 (by kernel_rfl:Cs PR 24=some (true,[.int .i64,.int .i64,.int .i64,.int .i64,.int .u32])) (by kernel_rfl:Cs PR 25=some (false,[.sl false [.int .u8]])) (by kernel_rfl:Cs PR 3=some (false,[.int .i64])) h
 obtain ⟨k,s,c,z,m,rfl⟩:=len5 h1
 obtain ⟨f,rfl⟩:=len1 h2
 obtain ⟨g,rfl⟩:=len1 h3
 exact ⟨k,s,c,z,m,f,g,rfl⟩
theorem cbFin_eq {b:List U} {m g:Int} {R:RF} (hR:∀ e l,cbFin b m g=(e,l)→R [[.l l],[.i e]]):bif (b.length:Int) != 16 * 2 ^ g.toNat then R [[U.l []],[U.i 13]] else bif sumI 0 b != m then R [[U.l []],[U.i 13]] else R [[U.l b],[U.i 0]]:=by
 unfold cbFin at hR
 refine bi (fun h=>?_) (fun h=>bi (fun h2=>?_) (fun h2=>?_))
 ·have h:((b.length:Int) == 16 * 2 ^ g.toNat)=false:=by simpa using h
  rw [h,Bool.false_and,cond_false] at hR
  exact hR _ _ rfl
 ·have h2:(sumI 0 b == m)=false:=by simpa using h2
  rw [h2,Bool.and_false,cond_false] at hR
  exact hR _ _ rfl
 ·have h:((b.length:Int) == 16 * 2 ^ g.toNat)=true:=by simpa using h
  have h2:(sumI 0 b == m)=true:=by simpa using h2
  rw [h,h2,Bool.and_true,cond_true] at hR
  exact hR _ _ rfl
theorem bytes_ok15:SpecF PR 10 bytesS:=fun fn us hfn=>by
 have hf:PR.funcs[(10:Nat)]? = some Try.f10:=by kernel_rfl
 rw [hf] at hfn;cases hfn
 refine fn_okH (C:=cbC) (mkC_ok eqs0_ok mixed_ok (.cons may_ok (.consP clone_ok (.consP unp_ok (.cons sum_ok .nil)))) .nil) hf (by kernel_rfl) (loops_none (by kernel_rfl)) fun hok=>?_
 have hp:Try.f10.params.toList=[24,25,3]:=by kernel_rfl
 rw [hp] at hok
 obtain ⟨k,s,c,z,m,f,g,hus⟩:=ent3_args hok.1
 have hl:f.list.length≤maxLen:=by
  subst hus
  exact (hok.2 [.agg [vi k,vi s,vi c,vi z,vw m],vl (.int .u8) f,vi g] (by kernel_rfl)).2.1.1
 subst hus
 unfold maxLen at hl
 refine .eq (bytes_tree _ k s c z m f g) ?_
 rw [show bytesS [[k,s,c,z,m],[f],[g]]=[[.l (cbX k.int s.int c.int z.int m.int g.int f.list).2],[.i (cbX k.int s.int c.int z.int m.int g.int f.list).1]] from rfl]
 refine bi (fun h=>?_) (fun h=>df (fun hg=>?_) ?_)
 ·unfold cbX
  rw [nt h];rfl
 ·have:=may_facts (nf h)
  omega
 ·obtain ⟨hg0,hg6,hcases⟩:=may_facts (nf h)
  obtain ⟨hN,hN0,hN1⟩:=cbN_eq hg0 hg6
  unfold cbX
  rw [nf h,cond_true,hN]
  refine bi (fun h0=>?_) (fun h0=>bi (fun h1=>?_) (fun h1=>?_))
  ·rw [h0,Bool.true_or,cond_true]
   exact dt ⟨by omega,by omega,by unfold room;omega⟩ (by rw [show ((16:Int) * 2 ^ g.int.toNat).toNat=16 * 2 ^ g.int.toNat by norm_cast])
  ·rw [h1,Bool.or_true,cond_true]
   exact dt ⟨by omega,by omega,by unfold room;omega⟩ (by rw [show ((16:Int) * 2 ^ g.int.toNat).toNat=16 * 2 ^ g.int.toNat by norm_cast])
  ·have k0:¬ k.int=0:=by simpa using h0
   have k1:¬ k.int=1:=by simpa using h1
   obtain ⟨hk,hs,hc0,hc1,hsc,hk2,hk3⟩:=(hcases.resolve_left k0).resolve_left k1
   have e1:IntKind.wrap .i64 (Int.tdiv (f.list.length:Int) 16)=((f.list.length / 16:Nat):Int):=by
    rw [Int.tdiv_eq_ediv_of_nonneg (by omega)]
    exact i64_in (by omega) (by omega)
   have hB:cbB s c f=(f.list.take ((s.int + c.int) * 16).toNat).drop (s.int * 16).toNat:=by
    unfold cbB
    rw [i64_in (x:=s.int + c.int) (by omega) (by omega),i64_in (x:=s.int * 16) (by omega) (by omega),i64_in (x:=(s.int + c.int) * 16) (by omega) (by omega)]
   rw [h0,h1,Bool.or_false,cond_false,e1,i64_in (x:=s.int + c.int) (by omega) (by omega),i64_in (x:=s.int * 16) (by omega) (by omega),i64_in (x:=(s.int + c.int) * 16) (by omega) (by omega)]
   refine bd (fun h2=>?_) (fun h2=>?_)
   ·rw [show decide (((f.list.length / 16:Nat):Int) < s.int + c.int)=true from decide_eq_true (by omega),cond_true]
   ·rw [show decide (((f.list.length / 16:Nat):Int) < s.int + c.int)=false from decide_eq_false (by omega),cond_false]
    have hBl:(cbB s c f).length=(c.int * 16).toNat:=by
     rw [hB,List.length_drop,List.length_take]
     omega
    refine broom (by omega) rfl ⟨show (cbB s c f).length≤1073741824 by omega,bi (fun h3=>?_) (fun h3=>?_)⟩
    ·have hk3:=hk3 (by simpa using h3)
     have hz:z.int≤((cbB s c f).length:Int):=by omega
     have hU:cbU s c z f g=unpX (((f.list.take ((s.int + c.int) * 16).toNat).drop (s.int * 16).toNat).take z.int.toNat) (16 * 2 ^ g.int.toNat):=by
      unfold cbU
      rw [hB,hN]
      rfl
     have hV:(cbU s c z f g).1=0→cbV s c z f g=(cbU s c z f g).2:=fun h=>by
      unfold cbV
      rw [h];rfl
     rw [h3,cond_true,← hU]
     refine broom (by omega) rfl ⟨show ((cbB s c f).take z.int.toNat).length≤1073741824 by rw [List.length_take];omega,bi (fun h4=>?_) (fun h4=>?_)⟩
     ·have h4:((cbU s c z f g).1 == 0)=false:=by simpa using h4
      rw [h4];rfl
     ·have h4:(cbU s c z f g).1=0:=by simpa using h4
      rw [hV h4,h4]
      exact cbFin_eq (R:=fun v=>v=_) fun e l he=>by rw [he];rfl
    ·rw [h3,cond_false,hB]
     exact cbFin_eq (R:=fun v=>v=_) fun e l he=>by rw [he]
end Go.Mat

namespace Go.Mat
open Go Go.Den Go.Proofs
noncomputable def K82:Ctx:=mkC PR eqs0 fnsNil trsNil noLoops noOut noOut
def entU (T:List U) (k:Nat):U:=nth (.i 0) (nth (.i 0) T (k / 8)).list (k % 8)
def entF (j:Nat) (T:List U) (i:Int):U:=bif decide (i < 0) then .i 0 else nth (.i 0) (entU T i.toNat).list j
def getS:List (List U)→List (List U):=fun us=>[[entF 0 (nth (.i 0) (nth [] us 0) 0).list (nth (.i 0) (nth [] us 1) 0).int,entF 1 (nth (.i 0) (nth [] us 0) 0).list (nth (.i 0) (nth [] us 1) 0).int,entF 2 (nth (.i 0) (nth [] us 0) 0).list (nth (.i 0) (nth [] us 1) 0).int,
 entF 3 (nth (.i 0) (nth [] us 0) 0).list (nth (.i 0) (nth [] us 1) 0).int,entF 4 (nth (.i 0) (nth [] us 0) 0).list (nth (.i 0) (nth [] us 1) 0).int]]
theorem get_tree (R:RF) (T i:U):(run K82 Try.f66 [[T],[i]] R)=(bif decide (i.int < 0) then R [[U.i 0,U.i 0,U.i 0,U.i 0,U.i 0]] else bif decide (IntKind.wrap .i64 (Int.tdiv i.int 8) ≥ (T.list.length:Int)) then R [[U.i 0,U.i 0,U.i 0,U.i 0,U.i 0]] else bif decide ((0:Int)≤IntKind.wrap .i64 (Int.tdiv i.int 8)∧IntKind.wrap .i64 (Int.tdiv i.int 8) < (T.list.length:Int)) then bif decide (Int.tmod i.int 8 ≥ (↑(List.length (U.list (nth (U.i 0) T.list (Int.toNat (IntKind.wrap .i64 (Int.tdiv i.int 8)))))):Int)) then R [[U.i 0,U.i 0,U.i 0,U.i 0,U.i 0]] else bif decide ((0:Int)≤Int.tmod i.int 8∧Int.tmod i.int (8:Int) < (↑(List.length (U.list (nth (U.i 0) T.list (Int.toNat (IntKind.wrap .i64 (Int.tdiv i.int 8)))))):Int)) then R [[nth (U.i 0) (U.list (nth (U.i 0) (U.list (nth (U.i 0) T.list (Int.toNat (IntKind.wrap .i64 (Int.tdiv i.int 8))))) (Int.toNat (Int.tmod i.int 8)))) (0:Nat),nth (U.i 0) (List.tail (U.list (nth (U.i 0) (U.list (nth (U.i 0) T.list (Int.toNat (IntKind.wrap .i64 (Int.tdiv i.int 8))))) (Int.toNat (Int.tmod i.int 8))))) (0:Nat),nth (U.i 0) (List.tail (List.tail (U.list (nth (U.i 0) (U.list (nth (U.i 0) T.list (Int.toNat (IntKind.wrap .i64 (Int.tdiv i.int 8))))) (Int.toNat (Int.tmod i.int 8)))))) (0:Nat),nth (U.i 0) (List.tail (List.tail (List.tail (U.list (nth (U.i 0) (U.list (nth (U.i 0) T.list (Int.toNat (IntKind.wrap .i64 (Int.tdiv i.int 8))))) (Int.toNat (Int.tmod i.int 8))))))) (0:Nat),nth (U.i 0) (List.tail (List.tail (List.tail (List.tail (U.list (nth (U.i 0) (U.list (nth (U.i 0) T.list (Int.toNat (IntKind.wrap .i64 (Int.tdiv i.int 8))))) (Int.toNat (Int.tmod i.int 8)))))))) (0:Nat)]] else False else False):=by kernel_rfl
noncomputable def oneF:Tr:=fun vs objs k=>match vs,objs with
 | [.val (.int .i64) i,.agg [.val (.sl false [.sl true ec]) T]],[]=>ec=EC∧k (.ret [.clo 79 [.ptr 2097153 0,.ptr 2097281 0]]) [(2097153,.box [.val (.sl false [.sl true EC]) T]),(2097281,.box [vi i])]
 | _,_=>False
theorem one_tree (R:RT) (T i:U):(runD K82 Try.f71 [vi i,.agg [vl (.sl true EC) T]] [] R)=(R (Out.ret [SV.clo 79 [SV.ptr 2097153 0,SV.ptr 2097281 0]]) [(2097153,Obj.box [SV.val (Ct.sl false [Ct.sl true [.int .i64,.int .i64,.int .i64,.int .i64,.int .u32]]) T]),(2097281,Obj.box [vi i])]):=by kernel_rfl
end Go.Mat

namespace Go.Mat
open Go Go.Den Go.Proofs
set_option maxRecDepth 100000
theorem nth_over (d:U):∀ (l:List U) (n:Nat),l.length≤n→nth d l n=d
 | [],n,_=>nth_nil d n
 | _ :: r,0,h=>by simp at h
 | _ :: r,n + 1,h=>nth_over d r n (by simpa using h)
theorem tdiv8 {i:Int} (h0:0≤i):Int.tdiv i 8=((i.toNat / 8:Nat):Int):=by
 rw [Int.tdiv_eq_ediv_of_nonneg h0];omega
theorem tmod8 {i:Int} (h0:0≤i):Int.tmod i 8=((i.toNat % 8:Nat):Int):=by
 rw [Int.tmod_eq_emod_of_nonneg h0];omega
theorem get_ok:SpecF PR 66 getS:=fun fn us hfn=>by
 have hf:PR.funcs[(66:Nat)]? = some Try.f66:=by kernel_rfl
 rw [hf] at hfn;cases hfn
 refine fn_okH (C:=K82) (mkC_ok eqs0_ok mixed_ok .nil .nil) hf (by kernel_rfl) (loops_none (by kernel_rfl)) fun hok=>?_
 have hp:Try.f66.params.toList=[36,3]:=by kernel_rfl
 rw [hp] at hok
 obtain ⟨u,u2,rfl,h1,h2⟩:=shape2 (by kernel_rfl:Cs PR 36=some (true,[.sl false [.sl true EC]])) (by kernel_rfl:Cs PR 3=some (false,[.int .i64])) hok.1
 obtain ⟨T,rfl⟩:=len1 h1
 obtain ⟨i,rfl⟩:=len1 h2
 have hi:-9223372036854775808≤i.int∧i.int≤9223372036854775807:=(hok.2 [.agg [.val (.sl false [.sl true EC]) T],.val (.int .i64) i] (by rfl)).2.1
 refine .eq (get_tree _ T i) ?_
 rw [show getS [[T],[i]]=[[entF 0 T.list i.int,entF 1 T.list i.int,entF 2 T.list i.int,entF 3 T.list i.int,entF 4 T.list i.int]] from rfl]
 unfold entF entU
 refine bd (fun h0=>by rw [decide_eq_true h0];rfl) (fun h0=>?_)
 rw [decide_eq_false h0]
 have hw:IntKind.wrap .i64 (Int.tdiv i.int 8)=((i.int.toNat / 8:Nat):Int):=by
  rw [tdiv8 (by omega)];exact i64_in (by omega) (by omega)
 rw [hw,tmod8 (by omega)]
 simp only [Int.toNat_natCast,cond_false]
 refine bd (fun h3=>?_) (fun h3=>dt ⟨by omega,by omega⟩ (bd (fun h4=>?_) (fun h4=>dt ⟨by omega,by omega⟩ ?_)))
 ·rw [nth_over _ T.list _ (by omega),show (U.i 0).list=[] from rfl]
  simp only [nth_nil,show (U.i 0).list=[] from rfl]
 ·rw [nth_over _ (nth (U.i 0) T.list _).list _ (by omega),show (U.i 0).list=[] from rfl]
  simp only [nth_nil]
 ·simp only [nth_tail]
theorem one_ok:SpecT PR 71 oneF:=fun fn hfn=>by
 have hf:PR.funcs[(71:Nat)]? = some Try.f71:=by kernel_rfl
 rw [hf] at hfn;cases hfn
 refine fnT_okH (C:=K82) (mkC_ok eqs0_ok mixed_ok .nil .nil) hf (by kernel_rfl) (loops_none (by kernel_rfl)) fun vs objs R h1 h2 h=>?_
 clear h1 h2
 unfold oneF at h
 split at h
 ·obtain ⟨rfl,h⟩:=h
  exact .eq (one_tree R _ _) h
 ·exact h.elim
end Go.Mat

namespace Go.Mat
open Go Go.Den Go.Proofs
abbrev KSt:Type:=St→Prop
abbrev TRC:Ct:=.sl false [.sl true EC]
noncomputable def KJ:Ctx:=(mkC PR eqs0 (fnsCons 66 getS fnsNil) trsNil noLoops noOut noOut).panics fun _ _=>False
noncomputable def oneC:Code:=bodyOf Try.f79
noncomputable def on0:Array Oper:=regOps (piece oneC [0])
noncomputable def on1:Array Oper:=regOps (piece oneC [1,0,0,0])
noncomputable def on2:Array Oper:=regOps (piece oneC [1,0,0,1,1,0,0,0])
noncomputable def on3:Array Oper:=regOps (piece oneC [1,0,0,1,1,0,0,1,0])
noncomputable def on4:Array Oper:=regOps (piece oneC [1,0,0,1,1,0,0,1,1,0])
noncomputable def on5:Array Oper:=regOps (piece oneC [1,0,0,1,1,1])
theorem on0_tree (k:KSt) (T:U):(execOps KJ on0.toList on0.toList ⟨[(1,.rptr [TRC] [T])],[]⟩ k)=(k (St.mk [(10,vi (U.i 0)),(9,vi (U.i (IntKind.wrap IntKind.i64 ((↑(List.length (U.list (nth (U.i 0) (List.drop (0:Nat) [T]) (0:Nat)))):Int) * 8)))),(8,vi (U.i (↑(List.length (U.list (nth (U.i
 0) (List.drop (0:Nat) [T]) (0:Nat)))):Int))),(7,SV.val (Ct.sl false [Ct.sl true [.int .i64,.int .i64,.int .i64,.int .i64,.int .u32]]) (nth (U.i 0) (List.drop (0:Nat) [T]) (0:Nat))),(6,
 SV.rptr [Ct.sl false [Ct.sl true [.int .i64,.int .i64,.int .i64,.int .i64,.int .u32]]] [T]),(1,SV.rptr [Ct.sl false [Ct.sl true [.int .i64,.int .i64,.int .i64,.int .i64,.int .u32]]] [T])] [])):=by kernel_rfl
theorem on1_tree (k:KSt) (i n:U):(execOps KJ on1.toList on1.toList ⟨[(10,vi i),(9,vi n)],[]⟩ k)=(k (St.mk [(11,SV.val Ct.bool (U.b (decide (i.int < n.int)))),(10,vi i),(9,vi n)] [])):=by kernel_rfl
theorem on2_tree (k:KSt) (i:U):(execOps KJ on2.toList on2.toList ⟨[(10,vi i)],[]⟩ k)=(k (St.mk [(4,vi i),(12,vi i),(10,vi i)] [])):=by kernel_rfl
theorem on3_tree (k:KSt) (i T:U):(execOps KJ on3.toList on3.toList ⟨[(4,vi i),(1,.rptr [TRC] [T])],[]⟩ k)=(k (St.mk [(5,SV.ptr 640 0),(15,SV.agg [vi (entF (0:Nat) T.list i.int),vi (entF (1:Nat) T.list i.int),vi (entF (2:Nat) T.list i.int),vi (entF (3:Nat) T.list i.int),SV.val (.int .u32) (entF
 (4:Nat) T.list i.int)]),(14,vi i),(13,SV.agg [SV.val (Ct.sl false [Ct.sl true [.int .i64,.int .i64,.int .i64,.int .i64,.int .u32]]) T]),(4,vi i),(1,SV.rptr [Ct.sl false [Ct.sl true [.int
 .i64,.int .i64,.int .i64,.int .i64,.int .u32]]] [T])] [(640,Obj.box [vi (entF (0:Nat) T.list i.int),vi (entF (1:Nat) T.list i.int),vi (entF (2:Nat) T.list i.int),vi (entF (3:Nat) T.list
 i.int),SV.val (.int .u32) (entF (4:Nat) T.list i.int)])])):=by kernel_rfl
theorem on4_tree (k:KSt) (i s a b c d e:U):(execOps KJ on4.toList (on4.toList.take 14) ⟨[(0,.own 1),(2,.rptr [.int .i64] [s]),(4,vi i),(5,.rptr EC [a,b,c,d,e])],[]⟩ k)=(bif U.int (nth (U.i 0) (List.drop (0:Nat) [a,b,c,d,e]) (0:Nat)) == 2 then k (St.mk [(29,.agg [vi s,vi i,vi a,vi b,vi c,vi d,.val (.int .u32) e]),(24,.val .bool (U.b true)),(28,.agg [vi a,vi b,vi c,vi d,.val (.int .u32) e]),(24,.val .bool (U.b true)),(27,vi i),(24,.val .bool (U.b true)),(26,vi s),(24,.val .bool (U.b true)),(25,.own 1),(24,.val .bool (U.b true)),(24,.val .bool (U.b true)),(23,.val .bool (U.b true)),(22,.und),(19,.val .bool (U.b true)),(21,.und),(19,.val .bool (U.b true)),(20,.und),(19,.val .bool (U.b true)),(19,.val .bool (U.b (U.int (nth (U.i 0) (List.drop (0:Nat) [a,b,c,d,e]) (0:Nat)) == 2))),(18,.val .bool (U.b (U.int (nth (U.i 0) (List.drop (0:Nat) [a,b,c,d,e]) (0:Nat)) == 2))),(17,vi (nth (U.i 0) (List.drop (0:Nat) [a,b,c,d,e]) (0:Nat))),(16,.rptr [.int .i64,.int .i64,.int .i64,.int .i64,.int .u32] [a,b,c,d,e]),(0,.own 1),(2,.rptr [.int .i64] [s]),(4,vi i),(5,.rptr [.int .i64,.int .i64,.int .i64,.int .i64,.int .u32] [a,b,c,d,e])] []) else bif U.int (nth (U.i 0) (List.drop (0:Nat) [a,b,c,d,e]) (0:Nat)) == 3 then k (St.mk [(29,.agg [vi s,vi i,vi a,vi b,vi c,vi d,.val (.int .u32) e]),(24,.val .bool (U.b true)),(28,.agg [vi a,vi b,vi c,vi d,.val (.int .u32) e]),(24,.val .bool (U.b true)),(27,vi i),(24,.val .bool (U.b true)),(26,vi s),(24,.val .bool (U.b true)),(25,.own 1),(24,.val .bool (U.b true)),(24,.val .bool (U.b (U.int (nth (U.i 0) (List.drop (0:Nat) [a,b,c,d,e]) (0:Nat)) == 3))),(23,.val .bool (U.b (U.int (nth (U.i 0) (List.drop (0:Nat) [a,b,c,d,e]) (0:Nat)) == 3))),(22,.val .bool (U.b (U.int (nth (U.i 0) (List.drop (0:Nat) [a,b,c,d,e]) (0:Nat)) == 3))),(19,.val .bool (U.b false)),(21,vi (nth (U.i 0) (List.drop (0:Nat) [a,b,c,d,e]) (0:Nat))),(19,.val .bool (U.b false)),(20,.rptr [.int .i64,.int .i64,.int .i64,.int .i64,.int .u32] [a,b,c,d,e]),(19,.val .bool (U.b false)),(19,.val .bool (U.b (U.int (nth (U.i 0) (List.drop (0:Nat) [a,b,c,d,e]) (0:Nat)) == 2))),(18,.val .bool (U.b (U.int (nth (U.i 0) (List.drop (0:Nat) [a,b,c,d,e]) (0:Nat)) == 2))),(17,vi (nth (U.i 0) (List.drop (0:Nat) [a,b,c,d,e]) (0:Nat))),(16,.rptr [.int .i64,.int .i64,.int .i64,.int .i64,.int .u32] [a,b,c,d,e]),(0,.own 1),(2,.rptr [.int .i64] [s]),(4,vi i),(5,.rptr [.int .i64,.int .i64,.int .i64,.int .i64,.int .u32] [a,b,c,d,e])] []) else k (St.mk [(29,.und),(24,.val .bool (U.b false)),(28,.und),(24,.val .bool (U.b false)),(27,.und),(24,.val .bool (U.b false)),(26,.und),(24,.val .bool (U.b false)),(25,.und),(24,.val .bool (U.b false)),(24,.val .bool (U.b (U.int (nth (U.i 0) (List.drop (0:Nat) [a,b,c,d,e]) (0:Nat)) == 3))),(23,.val .bool (U.b (U.int (nth (U.i 0) (List.drop (0:Nat) [a,b,c,d,e]) (0:Nat)) == 3))),(22,.val .bool (U.b (U.int (nth (U.i 0) (List.drop (0:Nat) [a,b,c,d,e]) (0:Nat)) == 3))),(19,.val .bool (U.b false)),(21,vi (nth (U.i 0) (List.drop (0:Nat) [a,b,c,d,e]) (0:Nat))),(19,.val .bool (U.b false)),(20,.rptr [.int .i64,.int .i64,.int .i64,.int .i64,.int .u32] [a,b,c,d,e]),(19,.val .bool (U.b false)),(19,.val .bool (U.b (U.int (nth (U.i 0) (List.drop (0:Nat) [a,b,c,d,e]) (0:Nat)) == 2))),(18,.val .bool (U.b (U.int (nth (U.i 0) (List.drop (0:Nat) [a,b,c,d,e]) (0:Nat)) == 2))),(17,vi (nth (U.i 0) (List.drop (0:Nat) [a,b,c,d,e]) (0:Nat))),(16,.rptr [.int .i64,.int .i64,.int .i64,.int .i64,.int .u32] [a,b,c,d,e]),(0,.own 1),(2,.rptr [.int .i64] [s]),(4,vi i),(5,.rptr [.int .i64,.int .i64,.int .i64,.int .i64,.int .u32] [a,b,c,d,e])] [])):=by kernel_rfl
theorem on4b_tree (k:KSt):(execOps KJ on4.toList (on4.toList.drop 15) ⟨[(30,.val .bool (.b true)),(24,.val .bool (.b true))],[]⟩ k)=(k (St.mk [(32,SV.val Ct.bool (U.b !true)),(31,SV.val Ct.bool (U.b !true)),(24,SV.val Ct.bool (U.b true)),(30,SV.val Ct.bool (U.b true)),(24,SV.val Ct.bool (U.b true))] [])):=by kernel_rfl
theorem on4c_tree (k:KSt) (i s a b c d e:U):(execOps KJ on4.toList on4.toList ⟨[(0,.own 1),(2,.rptr [.int .i64] [s]),(4,vi i),(5,.rptr EC [a,b,c,d,e])],[]⟩ k)=(bif U.int (nth (U.i 0) (List.drop (0:Nat) [a,b,c,d,e]) (0:Nat)) == 2 then False else bif U.int (nth (U.i 0) (List.drop (0:Nat) [a,b,c,d,e]) (0:Nat)) == 3 then False else k (St.mk [(32,.val .bool (U.b false)),(31,.und),(24,.val .bool (U.b false)),(30,.und),(24,.val .bool (U.b false)),(29,.und),(24,.val .bool (U.b false)),(28,.und),(24,.val .bool (U.b false)),(27,.und),(24,.val .bool (U.b false)),(26,.und),(24,.val .bool (U.b false)),(25,.und),(24,.val .bool (U.b false)),(24,.val .bool (U.b (U.int (nth (U.i 0) (List.drop (0:Nat) [a,b,c,d,e]) (0:Nat)) == 3))),(23,.val .bool (U.b (U.int (nth (U.i 0) (List.drop (0:Nat) [a,b,c,d,e]) (0:Nat)) == 3))),(22,.val .bool (U.b (U.int (nth (U.i 0) (List.drop (0:Nat) [a,b,c,d,e]) (0:Nat)) == 3))),(19,.val .bool (U.b false)),(21,vi (nth (U.i 0) (List.drop (0:Nat) [a,b,c,d,e]) (0:Nat))),(19,.val .bool (U.b false)),(20,.rptr [.int .i64,.int .i64,.int .i64,.int .i64,.int .u32] [a,b,c,d,e]),(19,.val .bool (U.b false)),(19,.val .bool (U.b (U.int (nth (U.i 0) (List.drop (0:Nat) [a,b,c,d,e]) (0:Nat)) == 2))),(18,.val .bool (U.b (U.int (nth (U.i 0) (List.drop (0:Nat) [a,b,c,d,e]) (0:Nat)) == 2))),(17,vi (nth (U.i 0) (List.drop (0:Nat) [a,b,c,d,e]) (0:Nat))),(16,.rptr [.int .i64,.int .i64,.int .i64,.int .i64,.int .u32] [a,b,c,d,e]),(0,.own 1),(2,.rptr [.int .i64] [s]),(4,vi i),(5,.rptr [.int .i64,.int .i64,.int .i64,.int .i64,.int .u32] [a,b,c,d,e])] [])):=by kernel_rfl
theorem on5_tree (k:KSt) (i:U):(execOps KJ on5.toList on5.toList ⟨[(10,vi i)],[]⟩ k)=(k (St.mk [(10,vi (U.i (IntKind.wrap IntKind.i64 (i.int + 1)))),(33,vi (U.i (IntKind.wrap IntKind.i64 (i.int + 1)))),(10,vi i)] [])):=by kernel_rfl
end Go.Mat

namespace Go.Mat
open Go Go.Den Go.Proofs Go.RowKit
set_option maxRecDepth 100000
theorem KJ_ok:KJ.Ok:=(mkC_ok eqs0_ok mixed_ok (.cons get_ok .nil) .nil).panics _
theorem KJ_pan:∀ s σ,¬ KJ.pan s σ:=fun _ _ h=>h
abbrev LNC:List Ct:=[.int .i64,.int .i64,.int .i64,.int .i64,.int .i64,.int .i64,.int .u32]
def lineU (s:U) (T:List U) (i:Nat):List U:=[s,.i i,entF 0 T i,entF 1 T i,entF 2 T i,entF 3 T i,entF 4 T i]
def hitR (T:List U) (i:Nat):Bool:=(entF 0 T i).int == 2 || (entF 0 T i).int == 3
def linesTo (s:U) (T:List U) (n:Nat):List (List U):=((List.range n).filter (hitR T)).map (lineU s T)
def lineX (l:List U):List SV:=[.agg (vals LNC l)]
theorem linesTo_hit {s:U} {T:List U} {i:Nat} (h:hitR T i=true):linesTo s T (i + 1)=linesTo s T i ++ [lineU s T i]:=by
 unfold linesTo
 rw [List.range_succ,List.filter_append,List.map_append]
 simp [h]
theorem linesTo_miss {s:U} {T:List U} {i:Nat} (h:hitR T i=false):linesTo s T (i + 1)=linesTo s T i:=by
 unfold linesTo
 rw [List.range_succ,List.filter_append,List.map_append]
 simp [h]
theorem linesTo_pre {s:U} {T:List U}:∀ (d i:Nat),∃ r,linesTo s T (i + d)=linesTo s T i ++ r
 | 0,i=>⟨[],by simp⟩
 | d + 1,i=>by
  obtain ⟨r,hr⟩:=linesTo_pre (s:=s) (T:=T) d i
  cases h:hitR T (i + d) with
  | true=>exact ⟨r ++ [lineU s T (i + d)],by rw [← Nat.add_assoc,linesTo_hit h,hr,List.append_assoc]⟩
  | false=>exact ⟨r,by rw [← Nat.add_assoc,linesTo_miss h,hr]⟩
theorem linesTo_at {s:U} {T:List U} {i n:Nat} (h:hitR T i=true) (hn:i < n):((linesTo s T n).map lineX)[(linesTo s T i).length]? = some (lineX (lineU s T i)):=by
 obtain ⟨r,hr⟩:=linesTo_pre (s:=s) (T:=T) (n - (i + 1)) (i + 1)
 rw [show i + 1 + (n - (i + 1))=n by omega,linesTo_hit h,List.append_assoc] at hr
 rw [hr,List.map_append,List.getElem?_append_right (by simp)]
 simp
theorem scal_line {w:World} {Z Z':Nat→Prop} {G:Nat→Value} {s a b c d e f:U} {vs:List Value} (h:RepSVs w Z G (vals LNC [s,a,b,c,d,e,f]) vs):RepSVs w Z' G (vals LNC [s,a,b,c,d,e,f]) vs:=by
 obtain ⟨v1,t1,e1,r1,v2,t2,e2,r2,v3,t3,e3,r3,v4,t4,e4,r4,v5,t5,e5,r5,v6,t6,e6,r6,v7,t7,e7,r7,r8⟩:=h
 exact ⟨v1,t1,e1,r1,v2,t2,e2,r2,v3,t3,e3,r3,v4,t4,e4,r4,v5,t5,e5,r5,v6,t6,e6,r6,v7,t7,e7,r7,r8⟩
theorem one_code:bodyOf Try.f79 = .seq (.region (regId (piece oneC [0])) on0 false) (.block 0 (.loop (.seq (.region (regId (piece oneC [1,0,0,0])) on1 false) (.seq (.cond (.tmp 11) .skip (.exit 0))
  (.seq (.block 1 (.seq (.region (regId (piece oneC [1,0,0,1,1,0,0,0])) on2 false) (.seq (.region (regId (piece oneC [1,0,0,1,1,0,0,1,0])) on3 false) (.seq (.region (regId (piece oneC [1,0,0,1,1,0,0,1,1,0])) on4 false) (.cond (.tmp 32) .ret .skip)))))
    (.region (regId (piece oneC [1,0,0,1,1,1])) on5 false)))))):=by kernel_rfl
noncomputable def oneO:Oper:=(on4[14]?).get (by kernel_rfl)
theorem oneO_at:on4[14]? = some oneO:=by kernel_rfl
theorem oneO_op:oneO.op = .call { callee:=.value (.tmp 25),args:=#[.tmp 29],argTypes:=#[54] }:=by kernel_rfl
theorem oneO_dst:oneO.dst=some 30:=by kernel_rfl
theorem oneO_guard:oneO.guard=some (8,true):=by kernel_rfl
theorem one_seq (s T:U) (hT:T.list.length≤1048576):SeqOk PR 79 [.rptr [TRC] [T],.rptr [.int .i64] [s]] ((linesTo s T.list (8 * T.list.length)).map lineX):=by
 intro w0 Z vs l J hZ hvs hJ0 hfut hround
 obtain ⟨p1,t1,rfl,hp1,p2,t2,rfl,hp2,ht⟩:=hvs
 have ht:t2=[]:=ht
 subst ht
 generalize hNN:8 * T.list.length=N at hround ⊢
 generalize hyv:(Value.func (.yield l) #[] #[])=yv at hround ⊢
 obtain ⟨G,hG⟩:∃ G:Nat→Value,G=fun i=>if i=1 then yv else .pointer none:=⟨_,rfl⟩
 have hflat:∀ i,(G i).oneCell' = true:=fun i=>by
  rw [hG,← hyv]
  by_cases h:i=1
  ·simp only [h,if_true];rfl
  ·simp only [h,if_false];rfl
 have hG1:G 1=yv:=by rw [hG];rfl
 have hf:PR.funcs[(79:Nat)]? = some Try.f79:=by kernel_rfl
 have hb:Try.f79.body=some (bodyOf Try.f79):=by kernel_rfl
 have hnt:Try.f79.ntmps=34:=by kernel_rfl
 have hres:∀ (a:Act) (w:World),∃ v,(results Try.f79 a.tmps).run PR w = .ok v w:=by
  intro a w
  have hr:Try.f79.results = #[]:=by kernel_rfl
  exact ⟨_,results_none hr _ _ _⟩
 refine calls_of_wp hf hb ?_
 rw [one_code,hnt]
 generalize ha0:({ tmps:=(#[yv] ++ [p1,p2].toArray) ++ Array.replicate (34 - (#[yv] ++ [p1,p2].toArray).size) undef,defers:=[] }:Act)=a0
 have a0s:a0.tmps.size=34:=by rw [← ha0];simp
 have a00:a0.tmps.getD 0 undef=yv:=by rw [← ha0];simp [Array.getD_eq_getD_getElem?]
 have a01:a0.tmps.getD 1 undef=p1:=by rw [← ha0];simp [Array.getD_eq_getD_getElem?]
 have a02:a0.tmps.getD 2 undef=p2:=by rw [← ha0];simp [Array.getD_eq_getD_getElem?]
 have a0d:a0.defers=[]:=by rw [← ha0]
 have rpT:∀ {w:World} {Z':Nat→Prop} {G':Nat→Value},(∀ b,Z b→Z' b)→(∀ b,Z b→w.heap[b]? = w0.heap[b]?)→RepSV w Z' G' (.rptr [TRC] [T]) p1:=fun hs hz=>
  RepSV.mono ⟨hs,hz⟩ _ _ (show RepSV w0 Z _ (.rptr [TRC] [T]) p1 from hp1)
 have rpS:∀ {w:World} {Z':Nat→Prop} {G':Nat→Value},(∀ b,Z b→Z' b)→(∀ b,Z b→w.heap[b]? = w0.heap[b]?)→RepSV w Z' G' (.rptr [.int .i64] [s]) p2:=fun hs hz=>
  RepSV.mono ⟨hs,hz⟩ _ _ (show RepSV w0 Z _ (.rptr [.int .i64] [s]) p2 from hp2)
 refine wp_seq (it_region KJ_ok KJ_pan (n:=34) (G:=G) (Z:=Z) (env:=[(1,.rptr [TRC] [T])]) (k:=fun σ=>get σ.env 9=vi (.i N)∧get σ.env 10=vi (.i 0)) (by kernel_rfl) (by kernel_rfl) a0s (fun t=>?_) hZ hflat ?_ ?_)
 ·rw [get_cons]
  split
  ·rename_i h;subst h;rw [a01];exact rpT (fun _ h=>h) (fun _ _=>rfl)
  ·trivial
 ·rw [on0_tree]
  refine ⟨?_,rfl⟩
  show vi (.i (IntKind.wrap .i64 (((T.list.length:Nat):Int) * 8)))=vi (.i N)
  rw [i64_in (by omega) (by omega),show ((T.list.length:Nat):Int) * 8=(N:Int) by omega]
 ·intro σ1 a1 w1 Z1 G1 ⟨hk9,hk10⟩ hs1 hF1 hz1 hd1 _ hkeep
  have e0:a1.tmps.getD 0 undef=yv:=(hkeep 0 (by decide +kernel)).trans a00
  have e1:a1.tmps.getD 1 undef=p1:=(hkeep 1 (by decide +kernel)).trans a01
  have e2:a1.tmps.getD 2 undef=p2:=(hkeep 2 (by decide +kernel)).trans a02
  have e9:a1.tmps.getD 9 undef = .int .i64 (N:Int):=by
   have:=hs1 9
   rw [hk9] at this
   exact this.1
  have e10:a1.tmps.getD 10 undef = .int .i64 ((0:Nat):Int):=by
   have:=hs1 10
   rw [hk10] at this
   exact this.1
  refine wp_block (wp_loop (fun a w=>∃ j,j≤N∧a.tmps.size=34∧a.defers=[]∧a.tmps.getD 0 undef=yv∧a.tmps.getD 1 undef=p1∧a.tmps.getD 2 undef=p2∧a.tmps.getD 9 undef = .int .i64 (N:Int)∧a.tmps.getD 10 undef = .int .i64 ((j:Nat):Int)∧J (linesTo s T.list j).length w∧(∀ b,Z b→w.heap[b]? = w0.heap[b]?)∧w0.heap.size≤w.heap.size)
   (fun a _=>N - (match a.tmps.getD 10 undef with | .int _ i=>i.toNat | _=>0)) ⟨0,Nat.zero_le _,hz1,hd1.trans a0d,e0,e1,e2,e9,e10,hfut 0 _ _ hJ0 hF1,fun b hb=>hF1.block b (hZ b hb) id,hF1.size⟩ ?_)
  rintro a w ⟨j,hj,hs,hd,h0,h1,h2,h9,h10,hJ,hz,hsz⟩
  have hZw:∀ b,Z b→b < w.heap.size:=fun b hb=>Nat.lt_of_lt_of_le (hZ b hb) hsz
  refine wp_seq (it_region KJ_ok KJ_pan (n:=34) (G:=G) (Z:=Z) (env:=[(10,vi (.i j)),(9,vi (.i N))]) (k:=fun σ=>get σ.env 11=vb (.b (decide ((j:Int) < (N:Int))))) (by kernel_rfl) (by kernel_rfl) hs (fun t=>?_) hZw hflat ?_ ?_)
  ·rw [get_cons,get_cons]
   split
   ·rename_i h;subst h;rw [h10];exact rep_i64 (by omega) (by omega)
   ·split
    ·rename_i h;subst h;rw [h9];exact rep_i64 (by omega) (by omega)
    ·trivial
  ·rw [on1_tree]
   rfl
  ·intro σ2 a2 w2 Z2 G2 hk2 hs2 hF2 hz2 hd2 _ hkeep2
   have e20:a2.tmps.getD 0 undef=yv:=(hkeep2 0 (by decide +kernel)).trans h0
   have e21:a2.tmps.getD 1 undef=p1:=(hkeep2 1 (by decide +kernel)).trans h1
   have e22:a2.tmps.getD 2 undef=p2:=(hkeep2 2 (by decide +kernel)).trans h2
   have e29:a2.tmps.getD 9 undef = .int .i64 (N:Int):=(hkeep2 9 (by decide +kernel)).trans h9
   have e2x:a2.tmps.getD 10 undef = .int .i64 ((j:Nat):Int):=(hkeep2 10 (by decide +kernel)).trans h10
   have hzz2:∀ b,Z b→w2.heap[b]? = w0.heap[b]?:=fun b hb=>(hF2.block b (hZw b hb) id).trans (hz b hb)
   have hJ2:=hfut _ _ _ hJ hF2
   have hsz2:w0.heap.size≤w2.heap.size:=Nat.le_trans hsz hF2.size
   have hZ2:∀ b,Z b→b < w2.heap.size:=fun b hb=>Nat.lt_of_lt_of_le (hZ b hb) hsz2
   have hc:a2.eval (.tmp 11) = .bool (decide ((j:Int) < (N:Int))):=by
    have:=hs2 11
    rw [hk2] at this
    exact this
   refine wp_seq (wp_cond_split hc (fun hlt=>wp_skip ?_) (fun hlt=>wp_exit ?_))
   ·have hlt:j < N:=by have:=of_decide_eq_true hlt;omega
    refine wp_seq (wp_block (wp_seq (it_region KJ_ok KJ_pan (n:=34) (G:=G) (Z:=Z) (env:=[(10,vi (.i j))]) (k:=fun σ=>get σ.env 4=vi (.i j)) (by kernel_rfl) (by kernel_rfl) hz2 (fun t=>?_) hZ2 hflat ?_ ?_)))
    ·rw [get_cons]
     split
     ·rename_i h;subst h;rw [e2x];exact rep_i64 (by omega) (by omega)
     ·trivial
    ·rw [on2_tree]
     rfl
    intro σ3 a3 w3 Z3 G3 hk3 hs3 hF3 hz3 hd3 _ hkeep3
    have e30:a3.tmps.getD 0 undef=yv:=(hkeep3 0 (by decide +kernel)).trans e20
    have e31:a3.tmps.getD 1 undef=p1:=(hkeep3 1 (by decide +kernel)).trans e21
    have e32:a3.tmps.getD 2 undef=p2:=(hkeep3 2 (by decide +kernel)).trans e22
    have e39:a3.tmps.getD 9 undef = .int .i64 (N:Int):=(hkeep3 9 (by decide +kernel)).trans e29
    have e3x:a3.tmps.getD 10 undef = .int .i64 ((j:Nat):Int):=(hkeep3 10 (by decide +kernel)).trans e2x
    have e34:a3.tmps.getD 4 undef = .int .i64 ((j:Nat):Int):=by
     have:=hs3 4
     rw [hk3] at this
     exact this.1
    have hzz3:∀ b,Z b→w3.heap[b]? = w0.heap[b]?:=fun b hb=>(hF3.block b (hZ2 b hb) id).trans (hzz2 b hb)
    have hJ3:=hfut _ _ _ hJ2 hF3
    have hsz3:w0.heap.size≤w3.heap.size:=Nat.le_trans hsz2 hF3.size
    have hZ3:∀ b,Z b→b < w3.heap.size:=fun b hb=>Nat.lt_of_lt_of_le (hZ b hb) hsz3
    refine wp_seq (it_regionS KJ_ok KJ_pan (n:=34) (G:=G) (Z:=Z) (env:=[(4,vi (.i j)),(1,.rptr [TRC] [T])])
     (k:=fun σ=>get σ.env 5 = .ptr 640 0∧getO σ.objs 640=some (.box (vals EC [entF 0 T.list j,entF 1 T.list j,entF 2 T.list j,entF 3 T.list j,entF 4 T.list j]))) (by kernel_rfl) (by kernel_rfl) hz3 (fun t=>?_) hZ3 hflat ?_ ?_)
    ·rw [get_cons,get_cons]
     split
     ·rename_i h;subst h;rw [e34];exact rep_i64 (by omega) (by omega)
     ·split
      ·rename_i h;subst h;rw [e31];exact rpT (fun _ h=>h) hzz3
      ·trivial
    ·rw [on3_tree]
     exact ⟨rfl,rfl⟩
    intro σ4 a4 w4 Z4 G4 ⟨hk4,ho4⟩ S4 hkeep4
    have e40:a4.tmps.getD 0 undef=yv:=(hkeep4 0 (by decide +kernel)).trans e30
    have e41:a4.tmps.getD 1 undef=p1:=(hkeep4 1 (by decide +kernel)).trans e31
    have e42:a4.tmps.getD 2 undef=p2:=(hkeep4 2 (by decide +kernel)).trans e32
    have e49:a4.tmps.getD 9 undef = .int .i64 (N:Int):=(hkeep4 9 (by decide +kernel)).trans e39
    have e4x:a4.tmps.getD 10 undef = .int .i64 ((j:Nat):Int):=(hkeep4 10 (by decide +kernel)).trans e3x
    have e44:a4.tmps.getD 4 undef = .int .i64 ((j:Nat):Int):=(hkeep4 4 (by decide +kernel)).trans e34
    have hF4:Fut (fun _=>False) w3 w4:=S4.fut
    have hzz4:∀ b,Z b→w4.heap[b]? = w0.heap[b]?:=fun b hb=>(hF4.block b (hZ3 b hb) id).trans (hzz3 b hb)
    have hJ4:=hfut _ _ _ hJ3 hF4
    have hsz4:w0.heap.size≤w4.heap.size:=Nat.le_trans hsz3 hF4.size
    have hd4:a4.defers=[]:=(show a4.defers=a3.defers from S4.calm).trans (hd3.trans (hd2.trans hd))
    have hG4:G4 1=yv:=(S4.odd 1 rfl).trans hG1
    obtain ⟨Z5,hZ5,S5,hptr⟩:=S4.shut (id:=640) (cs:=EC) (us:=[entF 0 T.list j,entF 1 T.list j,entF 2 T.list j,entF 3 T.list j,entF 4 T.list j]) ho4
    have e45:RepSV w4 Z5 G4 (.rptr EC [entF 0 T.list j,entF 1 T.list j,entF 2 T.list j,entF 3 T.list j,entF 4 T.list j]) (a4.tmps.getD 5 undef):=by
     have:=S4.slot 5
     rw [hk4] at this
     exact hptr _ this
    have hsub:∀ b,Z b→Z5 b:=fun b hb=>hZ5 b (S4.sub b hb)
    have hslots:∀ t,RepSV w4 Z5 G4 (get [(0,.own 1),(2,.rptr [.int .i64] [s]),(4,vi (.i j)),(5,.rptr EC [entF 0 T.list j,entF 1 T.list j,entF 2 T.list j,entF 3 T.list j,entF 4 T.list j])] t) (a4.tmps.getD t undef):=fun t=>by
     rw [get_cons,get_cons,get_cons,get_cons]
     split
     ·rename_i h;subst h;rw [e40];exact hG4.symm
     ·split
      ·rename_i h;subst h;rw [e42];exact rpS hsub hzz4
      ·split
       ·rename_i h;subst h;rw [e44];exact rep_i64 (by omega) (by omega)
       ·split
        ·rename_i h;subst h;exact e45
        ·trivial
    have hend:∀ (a5:Act) (w5:World),a5.tmps.size=34→a5.defers=[]→(∀ t,(∀ o ∈ on4.toList,o.dst≠some t)→a5.tmps.getD t undef=a4.tmps.getD t undef)→J (linesTo s T.list (j + 1)).length w5→(∀ b,Z b→w5.heap[b]? = w0.heap[b]?)→w0.heap.size≤w5.heap.size→
      (Code.region (regId (piece oneC [1,0,0,1,1,1])) on5 false).wp PR (fun e a' w'=>e = .normal∧(∃ j,j≤N∧a'.tmps.size=34∧a'.defers=[]∧a'.tmps.getD 0 undef=yv∧a'.tmps.getD 1 undef=p1∧a'.tmps.getD 2 undef=p2∧a'.tmps.getD 9 undef = .int .i64 (N:Int)∧a'.tmps.getD 10 undef = .int .i64 ((j:Nat):Int)∧J (linesTo s T.list j).length w'∧(∀ b,Z b→w'.heap[b]? = w0.heap[b]?)∧w0.heap.size≤w'.heap.size)∧
        N - (match a'.tmps.getD 10 undef with | .int _ i=>i.toNat | _=>0) < N - (match a.tmps.getD 10 undef with | .int _ i=>i.toNat | _=>0)) a5 w5:=by
     intro a5 w5 hz5 hd5 hk5 hJ5 hzz5 hsz5
     have e50:a5.tmps.getD 0 undef=yv:=(hk5 0 (by decide +kernel)).trans e40
     have e51:a5.tmps.getD 1 undef=p1:=(hk5 1 (by decide +kernel)).trans e41
     have e52:a5.tmps.getD 2 undef=p2:=(hk5 2 (by decide +kernel)).trans e42
     have e59:a5.tmps.getD 9 undef = .int .i64 (N:Int):=(hk5 9 (by decide +kernel)).trans e49
     have e5x:a5.tmps.getD 10 undef = .int .i64 ((j:Nat):Int):=(hk5 10 (by decide +kernel)).trans e4x
     have hZ5:∀ b,Z b→b < w5.heap.size:=fun b hb=>Nat.lt_of_lt_of_le (hZ b hb) hsz5
     refine it_region KJ_ok KJ_pan (n:=34) (G:=G) (Z:=Z) (env:=[(10,vi (.i j))]) (k:=fun σ=>get σ.env 10=vi (.i ((j:Int) + 1))) (by kernel_rfl) (by kernel_rfl) hz5 (fun t=>?_) hZ5 hflat ?_ ?_
     ·rw [get_cons]
      split
      ·rename_i h;subst h;rw [e5x];exact rep_i64 (by omega) (by omega)
      ·trivial
     ·rw [on5_tree]
      show vi (.i (IntKind.wrap .i64 ((j:Int) + 1)))=_
      rw [i64_in (by omega) (by omega)]
     intro σ6 a6 w6 Z6 G6 hk6 hs6 hF6 hz6 hd6 _ hkeep6
     have e60:a6.tmps.getD 0 undef=yv:=(hkeep6 0 (by decide +kernel)).trans e50
     have e61:a6.tmps.getD 1 undef=p1:=(hkeep6 1 (by decide +kernel)).trans e51
     have e62:a6.tmps.getD 2 undef=p2:=(hkeep6 2 (by decide +kernel)).trans e52
     have e69:a6.tmps.getD 9 undef = .int .i64 (N:Int):=(hkeep6 9 (by decide +kernel)).trans e59
     have e6x:a6.tmps.getD 10 undef = .int .i64 (((j + 1:Nat):Int)):=by
      have:=hs6 10
      rw [hk6] at this
      exact this.1
     refine ⟨rfl,⟨j + 1,hlt,hz6,hd6.trans hd5,e60,e61,e62,e69,e6x,hfut _ _ _ hJ5 hF6,fun b hb=>(hF6.block b (hZ5 b hb) id).trans (hzz5 b hb),Nat.le_trans hsz5 hF6.size⟩,?_⟩
     rw [e6x,h10]
     show N - ((j + 1:Nat):Int).toNat < N - ((j:Nat):Int).toNat
     omega
    have hz4:a4.tmps.size=34:=S4.size
    cases hhit:hitR T.list j with
    | false=>
     refine wp_seq (it_region KJ_ok KJ_pan (n:=34) (G:=G4) (Z:=Z5) (env:=[(0,.own 1),(2,.rptr [.int .i64] [s]),(4,vi (.i j)),(5,.rptr EC [entF 0 T.list j,entF 1 T.list j,entF 2 T.list j,entF 3 T.list j,entF 4 T.list j])]) (k:=fun σ=>get σ.env 32=vb (.b false)) (by kernel_rfl) (by kernel_rfl) hz4 hslots S5.lt S4.flat ?_ ?_)
     ·rw [on4c_tree]
      obtain ⟨g1,g2⟩:=Bool.or_eq_false_iff.1 hhit
      exact bf g1 (bf g2 rfl)
     intro σ5 a5 w5 Z6 G6 hk5 hs5 hF5 hz5 hd5 _ hkeep5
     have hc5:a5.eval (.tmp 32) = .bool false:=by
      have:=hs5 32
      rw [hk5] at this
      exact this
     refine wp_cond_false hc5 (wp_skip ?_)
     exact wp_mono (hend a5 w5 hz5 (hd5.trans hd4) hkeep5 (by rw [linesTo_miss hhit];exact hfut _ _ _ hJ4 hF5) (fun b hb=>(hF5.block b (S5.lt b (hsub b hb)) id).trans (hzz4 b hb)) (Nat.le_trans hsz4 hF5.size)) (fun e a' w' h=>by obtain ⟨rfl,h1,h2⟩:=h;exact ⟨h1,h2⟩)
    | true=>
     refine wp_seq (it_yield KJ_ok KJ_pan (n:=34) (j:=14) (dst:=30) (tc:=25) (l:=l) (G:=G4) (Z:=Z5) (env:=[(0,.own 1),(2,.rptr [.int .i64] [s]),(4,vi (.i j)),(5,.rptr EC [entF 0 T.list j,entF 1 T.list j,entF 2 T.list j,entF 3 T.list j,entF 4 T.list j])]) (env2:=[(24,vb (.b true))])
      (k1:=fun σ=>get σ.env 25 = .own 1∧get σ.env 29 = .agg (vals LNC (lineU s T.list j))∧get σ.env 24=vb (.b true)) (k2:=fun σ=>get σ.env 32=vb (.b false))
      (Kw:=fun w'=>J (linesTo s T.list (j + 1)).length w'∧w4.heap.size≤w'.heap.size∧∀ b,Z b→w'.heap[b]? = w0.heap[b]?)
      (by kernel_rfl) (by kernel_rfl) oneO_at oneO_op oneO_dst hz4 hslots S5.lt S4.flat ?_ (.inr ⟨8,24,oneO_guard,by kernel_rfl,fun σ h=>h.2.2⟩) rfl (fun σ h t=>?_) rfl (fun w' h b hb=>Nat.lt_of_lt_of_le (S5.lt b hb) h.2.1) ?_ ?_ ?_)
     ·rw [on4_tree]
      refine bi (fun _=>⟨rfl,rfl,rfl⟩) (fun h=>?_)
      have hhit:((entF 0 T.list j).int == 2 || (entF 0 T.list j).int == 3)=true:=hhit
      have h:((entF 0 T.list j).int == 2)=false:=h
      rw [h] at hhit
      exact bt hhit ⟨rfl,rfl,rfl⟩
     ·rw [get_cons]
      split
      ·rename_i e;subst e;exact .inl h.2.2.symm
      ·exact .inr rfl
     ·intro σ5 a5 w5 Z6 G6 ⟨k25,k29,_⟩ hs5 hF5 hodd
      have hcl:a5.eval (.tmp 25)=yv:=by
       have:=hs5 25
       rw [k25] at this
       have this:a5.tmps.getD 25 undef=G6 1:=this
       exact this.trans ((hodd 1 rfl).trans hG4)
      refine ⟨hcl.trans hyv.symm,?_⟩
      have hzz5:∀ b,Z b→w5.heap[b]? = w0.heap[b]?:=fun b hb=>(hF5.block b (S5.lt b (hsub b hb)) id).trans (hzz4 b hb)
      have hs29:=hs5 29
      rw [k29] at hs29
      obtain ⟨fn,tm,as',bd,y1,y2⟩:=hround _ _ w5 [a5.eval (.tmp 29)] (linesTo_at hhit hlt) (hfut _ _ _ hJ4 hF5) hzz5 (by
       refine ⟨_,_,rfl,?_,rfl⟩
       obtain ⟨cs,hcs,h16⟩:=hs29
       refine ⟨cs,hcs,?_⟩
       exact RepSVs.okN (G:=G6) (p:=noN) (fun i h=>by cases h) _ _ rfl (scal_line h16))
      refine ⟨fn,tm,as',bd,y1,y2.mono ?_⟩
      rintro e w6 ⟨rfl,g1,g2,g3⟩
      refine ⟨rfl,?_,Nat.le_trans hF5.size g2,fun b hb=>(g3 b hb).trans (hzz5 b hb)⟩
      rw [linesTo_hit hhit,List.length_append]
      exact g1
     ·rw [on4b_tree]
      rfl
     ·intro σ5 a5 w5 w6 Z6 G6 hk5 ⟨g1,g2,g3⟩ hs5 hF5 hz5 hd5 hkeep5
      have hc5:a5.eval (.tmp 32) = .bool false:=by
       have:=hs5 32
       rw [hk5] at this
       exact this
      refine wp_cond_false hc5 (wp_skip ?_)
      have hZ6:∀ b,Z b→b < w5.heap.size:=fun b hb=>Nat.lt_of_lt_of_le (S5.lt b (hsub b hb)) g2
      exact wp_mono (hend a5 w6 hz5 (hd5.trans hd4) hkeep5 (hfut _ _ _ g1 hF5) (fun b hb=>(hF5.block b (hZ6 b hb) id).trans (g3 b hb)) (Nat.le_trans hsz4 (Nat.le_trans g2 hF5.size))) (fun e a' w' h=>by obtain ⟨rfl,h1,h2⟩:=h;exact ⟨h1,h2⟩)
   ·have hge:j=N:=by have:=of_decide_eq_false hlt;omega
    subst hge
    simp only [Exit.then,Exit.inBlock,if_true]
    obtain ⟨v,hv⟩:=hres a2 w2
    refine ⟨hd2.trans hd,v,hv,v,rfl,?_⟩
    rw [List.length_map]
    exact hJ2
end Go.Mat

namespace Go.Mat
open Go Go.Den Go.Proofs
noncomputable def K84:Ctx:=mkC PR eqs0 fnsNil trsNil noLoops noOut noOut
noncomputable def asC:Code:=bodyOf Try.f72
noncomputable def asRest:Code:=piece asC [1,1]
noncomputable def as2:Array Oper:=regOps (match piece asC [1,0,1,0] with | .rangeFunc _ _ a _=>a | _=>.skip)
noncomputable def as3:Array Oper:=regOps (match piece asC [1,0,1,0] with | .rangeFunc _ _ _ b=>piece b [0] | _=>.skip)
theorem as_head0 (k:KSt) (T s:U):(exec K84 (piece asC [0]) 0 ⟨argsT 0 [.nil,.clo 79 [.ptr 2097153 0,.ptr 2097281 0]],[(2097153,.box [.val TRC T]),(2097281,.box [vi s])]⟩ (fun e1 σ1=>e1 = .normal∧exec K84 (piece asC [1,0,0]) 0 σ1 (fun e2 σ2=>e2 = .normal∧k σ2)))=(Ex.normal=Ex.normal∧Ex.normal=Ex.normal∧k (St.mk [(6,SV.clo 79 [SV.ptr 2097153 0,SV.ptr 2097281 0]),(4,SV.own 636),(2,SV.ptr 256 0),(0,SV.nil),(1,SV.clo 79 [SV.ptr 2097153 0,SV.ptr 2097281
 0])] [(636,Obj.arr 54 []),(256,Obj.box [SV.own 258]),(258,Obj.arr 54 []),(2097153,Obj.box [SV.val (Ct.sl false [Ct.sl true [.int .i64,.int .i64,.int .i64,.int .i64,.int .u32]]) T]),(2097281,
 Obj.box [vi s])])):=by kernel_rfl
theorem as_head1 (k:KSt) (T s:U) (xs:List U):(exec K84 (piece asC [0]) 0 ⟨argsT 0 [.own 2097152,.clo 79 [.ptr 2097281 0,.ptr 2097409 0]],[(2097152,.arr 54 xs),(2097281,.box [.val TRC T]),(2097409,.box [vi s])]⟩ (fun e1 σ1=>e1 = .normal∧exec K84 (piece asC [1,0,0]) 0 σ1 (fun e2 σ2=>e2 = .normal∧k σ2)))=(Ex.normal=Ex.normal∧Ex.normal=Ex.normal∧k (St.mk [(6,SV.clo 79 [SV.ptr 2097281 0,SV.ptr 2097409 0]),(4,SV.own 636),(2,SV.ptr 256 0),(0,SV.own 2097152),(1,SV.clo 79 [SV.ptr 2097281 0,
 SV.ptr 2097409 0])] [(636,Obj.arr 54 []),(256,Obj.box [SV.own 2097152]),(2097152,Obj.arr 54 xs),(2097281,Obj.box [SV.val (Ct.sl false [Ct.sl true [.int .i64,.int .i64,.int .i64,.int .i64,.int
 .u32]]) T]),(2097409,Obj.box [vi s])])):=by kernel_rfl
theorem as_round (k:KSt) (a b c d e f g:U) (xs:List U):(execOps KJ as2.toList as2.toList ⟨[(7,.agg [vi a,vi b,vi c,vi d,vi e,vi f,.val (.int .u32) g]),(2,.ptr 641 0)],[(641,.box [.own 642]),(642,.arr 54 xs)]⟩ (fun σ1=>execOps KJ as3.toList as3.toList σ1 k))=(bif decide (List.length xs + 1≤room) && true then k (St.mk [(11,SV.own 642),(10,SV.own 1406),(9,SV.agg [vi a,vi b,vi c,vi d,vi e,vi f,SV.val (.int .u32) g]),(8,SV.unk),(5,SV.ptr 640 0),
 (7,SV.agg [vi a,vi b,vi c,vi d,vi e,vi f,SV.val (.int .u32) g]),(2,SV.ptr 641 0)] [(641,Obj.box [SV.own 642]),(642,Obj.arr 54 (xs ++ [U.l [a,b,c,d,e,f,g]])),(1406,Obj.arr 54 [U.l [a,
 b,c,d,e,f,g]]),(640,Obj.box [vi a,vi b,vi c,vi d,vi e,vi f,SV.val (.int .u32) g])]) else False):=by kernel_rfl
theorem as_rest0 (R:RT) (T s:U) (xs:List U):(exec K84 asRest 0 ⟨[(2,.ptr 644 0)],[(644,.box [.own 642]),(642,.arr 54 xs)]⟩ (endT PR Try.f72 [(2097153,.box [.val TRC T]),(2097281,.box [vi s])] R))=(R (Out.ret [SV.own 2097408]) [(2097408,Obj.arr 54 xs)]):=by kernel_rfl
theorem as_rest1 (R:RT) (T s:U) (xs ys:List U):(exec K84 asRest 0 ⟨[(2,.ptr 644 0)],[(644,.box [.own 2097152]),(2097152,.arr 54 xs)]⟩ (endT PR Try.f72 [(2097152,.arr 54 ys),(2097281,.box [.val TRC T]),(2097409,.box [vi s])] R))=(R (Out.ret [SV.own 2097152]) [(2097152,Obj.arr 54 xs)]):=by kernel_rfl
end Go.Mat

namespace Go.Mat
open Go Go.Den Go.Proofs Go.RowKit
set_option maxRecDepth 100000
def linesOf (s:U) (T:List U):List U:=(linesTo s T (8 * T.length)).map .l
theorem linesTo_seven {s:U} {T:List U} {n:Nat}:∀ l ∈ linesTo s T n,∃ a b c d e f g,l=[a,b,c,d,e,f,g]:=fun l hl=>by
 unfold linesTo at hl
 obtain ⟨i,_,rfl⟩:=List.mem_map.1 hl
 exact ⟨_,_,_,_,_,_,_,rfl⟩
theorem linesTo_len (s:U) (T:List U) (n:Nat):(linesTo s T n).length≤n:=by
 unfold linesTo
 rw [List.length_map]
 exact Nat.le_trans (List.length_filter_le _ _) (by simp)
theorem K84_ok:K84.Ok:=mkC_ok eqs0_ok mixed_ok .nil .nil
theorem as_code:bodyOf Try.f72 = .seq (piece asC [0]) (.seq (.seq (piece asC [1,0,0]) (.block 0 (.rangeFunc (.tmp 6) #[7] (.region 2 as2 false) (.block 1 (.region 3 as3 false))))) asRest):=by kernel_rfl
theorem as_getO_two {i j:Nat} {p q:Den.Obj} {X:Objs} (h1:getO X i=some p) (h2:getO X j=some q):∀ id o,getO [(i,p),(j,q)] id=some o→getO X id=some o:=by
 intro id o h
 rw [getO_cons] at h
 split at h
 ·rename_i e;subst e;cases h;exact h1
 ·rw [getO_cons] at h
  split at h
  ·rename_i e;subst e;cases h;exact h2
  ·cases h
def asOb (xs:List U) (L:List (List U)) (k:Nat):Objs:=[(641,.box [.own 642]),(642,.arr 54 (xs ++ (L.take k).map .l))]
theorem as_lines_ok (s:U) (T:List U) (n:Nat):∀ x ∈ (linesTo s T n).map lineX,okN.okNs noN x=true∧x.length=1:=fun x hx=>by
 obtain ⟨l,hl,rfl⟩:=List.mem_map.1 hx
 exact ⟨rfl,rfl⟩
theorem as_rounds {s:U} {T:List U} {n:Nat} {xs:List U} (hr:xs.length + n≤1073741824):∀ k x,((linesTo s T n).map lineX)[k]? = some x→
  execOps KJ as2.toList as2.toList ⟨setE [(2,.ptr 641 0)] ([7].zip x),asOb xs (linesTo s T n) k⟩ (fun σ1=>execOps KJ as3.toList as3.toList σ1 (fun σ2=>∀ id o,getO (asOb xs (linesTo s T n) (k + 1)) id=some o→getO σ2.objs id=some o)):=by
 intro k x hx
 rw [List.getElem?_map] at hx
 obtain ⟨l,hl,rfl⟩:=Option.map_eq_some_iff.1 hx
 have hk:k < (linesTo s T n).length:=(List.getElem?_eq_some_iff.1 hl).1
 have hlen:=linesTo_len s T n
 obtain ⟨a,b,c,d,e,f,g,rfl⟩:=linesTo_seven _ (List.mem_of_getElem? hl)
 have htk:(linesTo s T n).take (k + 1)=(linesTo s T n).take k ++ [[a,b,c,d,e,f,g]]:=by
  rw [List.take_add_one,hl];rfl
 have main:=as_round (fun σ2=>∀ id o,getO (asOb xs (linesTo s T n) (k + 1)) id=some o→getO σ2.objs id=some o) a b c d e f g (xs ++ ((linesTo s T n).take k).map .l)
 have hsh:(⟨setE [(2,.ptr 641 0)] ([7].zip (lineX [a,b,c,d,e,f,g])),asOb xs (linesTo s T n) k⟩:St)=⟨[(7,.agg [vi a,vi b,vi c,vi d,vi e,vi f,.val (.int .u32) g]),(2,.ptr 641 0)],[(641,.box [.own 642]),(642,.arr 54 (xs ++ ((linesTo s T n).take k).map .l))]⟩:=rfl
 rw [hsh,main]
 clear main hsh
 have hl2:(xs ++ ((linesTo s T n).take k).map U.l).length + 1≤room:=by
  unfold room
  rw [List.length_append,List.length_map,List.length_take]
  omega
 refine broom hl2 rfl ?_
 unfold asOb
 rw [htk,List.map_append,← List.append_assoc]
 exact as_getO_two rfl rfl
theorem as_nil (s T:U) (hT:T.list.length≤65536) (hr:([]:List U).length + 8 * T.list.length≤1073741824) {R:Out→Objs→Prop} (hR:R (.ret [.own 2097408]) [(2097408,.arr 54 (linesOf s T.list))]) {a:Act} {w:World} {Z:Nat→Prop} {G:Nat→Value}
  (S:Sim PR ⟨w,Blocks G [(2097153,.box [.val TRC T]),(2097281,.box [vi s])],fun _=>False,Z,false,false,G,[]⟩ Try.f72.ntmps ⟨argsT 0 [.nil,.clo 79 [.ptr 2097153 0,.ptr 2097281 0]],[(2097153,.box [.val TRC T]),(2097281,.box [vi s])]⟩ a w Z G) :
  (bodyOf Try.f72).wp PR (markPost PR Try.f72 (EndsT PR R w Z G [(2097153,.box [.val TRC T]),(2097281,.box [vi s])])) a w:=by
 have hn:Try.f72.ntmps=13:=by kernel_rfl
 rw [as_code]
 have S:Sim K84.P ⟨w,Blocks G [(2097153,.box [.val TRC T]),(2097281,.box [vi s])],fun _=>False,Z,false,false,G,[]⟩ Try.f72.ntmps ⟨argsT 0 [.nil,.clo 79 [.ptr 2097153 0,.ptr 2097281 0]],[(2097153,.box [.val TRC T]),(2097281,.box [vi s])]⟩ a w Z G:=S
 have hfl:=S.flat
 have hhead:Holds (exec K84 (piece asC [0]) 0 ⟨argsT 0 [.nil,.clo 79 [.ptr 2097153 0,.ptr 2097281 0]],[(2097153,.box [.val TRC T]),(2097281,.box [vi s])]⟩ (fun e1 σ1=>e1 = .normal∧exec K84 (piece asC [1,0,0]) 0 σ1 (fun e2 σ2=>e2 = .normal∧
   σ2=⟨[(6,.clo 79 [.ptr 2097153 0,.ptr 2097281 0]),(4,.own 636),(2,.ptr 256 0),(0,.nil),(1,.clo 79 [.ptr 2097153 0,.ptr 2097281 0])],[(636,.arr 54 []),(256,.box [.own 258]),(258,.arr 54 ([]:List U)),(2097153,.box [.val TRC T]),(2097281,.box [vi s])]⟩))):=
  .eq (as_head0 _ T s) ⟨rfl,rfl,rfl⟩
 have nopan:∀ {Q:Exit→Act→World→Prop} {Θ:Anc},Pans K84 Θ Try.f72.ntmps Q:=fun _ _ _ _ _ _ _ h=>h.elim
 refine wp_seq (exec_soundH K84_ok rfl rfl (fun _ h=>h) nopan ?_ ?_ (by kernel_rfl) S hhead ?_)
 ·rintro c a w d v ⟨h | h,_⟩<;>cases h
 ·rw [hn];exact (by kernel_rfl:codeOk 13 (piece asC [0])=true)
 rintro e1 σ1 a1 w1 Z1 G1 ⟨rfl,h1⟩ S1
 refine wp_seq (wp_seq (exec_soundH K84_ok rfl rfl (fun _ h=>h) nopan ?_ ?_ (by kernel_rfl) S1 ⟨h1⟩ ?_))
 ·rintro c a w d v ⟨h | h,_⟩<;>cases h
 ·rw [hn];exact (by kernel_rfl:codeOk 13 (piece asC [1,0,0])=true)
 rintro e2 σ2 a2 w2 Z2 G2 ⟨rfl,rfl⟩ S2
 obtain ⟨Z3,hZ3,S3,hp3⟩:=S2.shut (id:=2097153) (cs:=[TRC]) (us:=[T]) rfl
 have S3:Sim PR ⟨w,Blocks G [(2097153,.box [.val TRC T]),(2097281,.box [vi s])],fun _=>False,Z,false,false,G,[]⟩ Try.f72.ntmps _ a2 w2 Z3 G2:=S3
 obtain ⟨Z4,hZ4,S4,hp4⟩:=S3.shut (id:=2097281) (cs:=[.int .i64]) (us:=[s]) rfl
 have S5:=S4.know (t:=6) (s:=.clo 79 [.rptr [TRC] [T],.rptr [.int .i64] [s]]) (by
  obtain ⟨vs,h1,v,t,h2,h3,v',t',h4,h5,h6⟩:=S2.slot 6
  refine ⟨vs,h1,v,t,h2,RepSV.mono ⟨hZ4,fun _ _=>rfl⟩ _ _ (hp3 v h3),v',t',h4,hp4 v' ?_,h6⟩
  exact RepSV.mono ⟨hZ3,fun _ _=>rfl⟩ (.ptr 2097281 0) v' h5)
 obtain ⟨G6,_,S6⟩:=S5.rename (m:=[(256,641),(258,642)]) rfl rfl (a':=a2) rfl
 refine wp_block (range_sound (C:=KJ) KJ_ok KJ_pan (fun _ h=>h) S6 (xs:=(linesTo s T.list (8 * T.list.length)).map lineX) (caps:=[.rptr [TRC] [T],.rptr [.int .i64] [s]]) rfl rfl (f:=79) (gn:=Try.f79) (by kernel_rfl) (by kernel_rfl) (by kernel_rfl)
  (one_seq s T (by omega)) (as_lines_ok s T.list _) (ob:=asOb ([]:List U) (linesTo s T.list (8 * T.list.length))) ?_ (env:=[(2,.ptr 641 0)]) rfl ?_ ?_ (by kernel_rfl) ?_ (by kernel_rfl) ?_ (as_rounds hr) ?_)
 ·unfold asOb
  rw [List.take_zero,List.map_nil,List.append_nil]
  exact as_getO_two rfl rfl
 ·intro t
  rw [get_cons]
  split
  ·rename_i h;subst h;exact .inl rfl
  ·exact .inr rfl
 ·intro t ht
  have ht:t ∈ [7]:=ht
  rw [hn]
  rcases List.mem_cons.1 ht with rfl | ht
  ·decide
  ·cases ht
 ·rw [hn];exact (by kernel_rfl:opersOk 13 as2.toList=true)
 ·rw [hn];exact (by kernel_rfl:opersOk 13 as3.toList=true)
 ·intro a' w' Z' G' D hta hda S' hD hle hZD hbD
  rw [List.length_map] at S' hbD
  have hob:asOb ([]:List U) (linesTo s T.list (8 * T.list.length)) (linesTo s T.list (8 * T.list.length)).length=[(641,.box [.own 642]),(642,.arr 54 (linesOf s T.list))]:=by
   unfold asOb linesOf
   rw [List.take_length]
   rfl
  rw [hob] at S' hbD
  obtain ⟨G7,hG7,S7⟩:=S'.renameTo (m:=[(641,644),(642,642)]) rfl rfl rfl hfl (a':=a') rfl
  refine marked_restT (C:=K84) K84_ok ?_ (by kernel_rfl) (loopsOk_of (loops_none (by kernel_rfl))) S7 hfl ?_ hD hle hZD ?_ (.eq (as_rest0 R T s (linesOf s T.list)) hR)
  ·rw [hn];exact (by kernel_rfl:codeOk 13 asRest=true)
  ·rw [hda,show a2.defers=[] from S2.calm]
  ·intro id o ho hb
   obtain ⟨i,p,h3,h4,_⟩:=getO_pickR ho
   have hid:i=641∧id=644∨i=642∧id=642:=by
    rcases List.mem_cons.1 h3 with h | h
    ·cases h;exact .inl ⟨rfl,rfl⟩
    ·rcases List.mem_cons.1 h with h | h
     ·cases h;exact .inr ⟨rfl,rfl⟩
     ·cases h
   rcases hid with ⟨rfl,rfl⟩ | ⟨rfl,rfl⟩
   ·exact hbD 641 p h4 (by rw [← hG7 641 644 rfl];exact hb)
   ·exact hbD 642 p h4 (by rw [← hG7 642 642 rfl];exact hb)
theorem as_own (s T:U) (xs:List U) (hT:T.list.length≤65536) (hr:xs.length + 8 * T.list.length≤1073741824) {R:Out→Objs→Prop} (hR:R (.ret [.own 2097152]) [(2097152,.arr 54 (xs ++ linesOf s T.list))]) {a:Act} {w:World} {Z:Nat→Prop} {G:Nat→Value}
  (S:Sim PR ⟨w,Blocks G [(2097152,.arr 54 xs),(2097281,.box [.val TRC T]),(2097409,.box [vi s])],fun _=>False,Z,false,false,G,[]⟩ Try.f72.ntmps ⟨argsT 0 [.own 2097152,.clo 79 [.ptr 2097281 0,.ptr 2097409 0]],[(2097152,.arr 54 xs),(2097281,.box [.val TRC T]),(2097409,.box [vi s])]⟩ a w Z G) :
  (bodyOf Try.f72).wp PR (markPost PR Try.f72 (EndsT PR R w Z G [(2097152,.arr 54 xs),(2097281,.box [.val TRC T]),(2097409,.box [vi s])])) a w:=by
 have hn:Try.f72.ntmps=13:=by kernel_rfl
 rw [as_code]
 have S:Sim K84.P ⟨w,Blocks G [(2097152,.arr 54 xs),(2097281,.box [.val TRC T]),(2097409,.box [vi s])],fun _=>False,Z,false,false,G,[]⟩ Try.f72.ntmps ⟨argsT 0 [.own 2097152,.clo 79 [.ptr 2097281 0,.ptr 2097409 0]],[(2097152,.arr 54 xs),(2097281,.box [.val TRC T]),(2097409,.box [vi s])]⟩ a w Z G:=S
 have hfl:=S.flat
 have hhead:Holds (exec K84 (piece asC [0]) 0 ⟨argsT 0 [.own 2097152,.clo 79 [.ptr 2097281 0,.ptr 2097409 0]],[(2097152,.arr 54 xs),(2097281,.box [.val TRC T]),(2097409,.box [vi s])]⟩ (fun e1 σ1=>e1 = .normal∧exec K84 (piece asC [1,0,0]) 0 σ1 (fun e2 σ2=>e2 = .normal∧
   σ2=⟨[(6,.clo 79 [.ptr 2097281 0,.ptr 2097409 0]),(4,.own 636),(2,.ptr 256 0),(0,.own 2097152),(1,.clo 79 [.ptr 2097281 0,.ptr 2097409 0])],[(636,.arr 54 []),(256,.box [.own 2097152]),(2097152,.arr 54 xs),(2097281,.box [.val TRC T]),(2097409,.box [vi s])]⟩))):=
  .eq (as_head1 _ T s xs) ⟨rfl,rfl,rfl⟩
 have nopan:∀ {Q:Exit→Act→World→Prop} {Θ:Anc},Pans K84 Θ Try.f72.ntmps Q:=fun _ _ _ _ _ _ _ h=>h.elim
 refine wp_seq (exec_soundH K84_ok rfl rfl (fun _ h=>h) nopan ?_ ?_ (by kernel_rfl) S hhead ?_)
 ·rintro c a w d v ⟨h | h,_⟩<;>cases h
 ·rw [hn];exact (by kernel_rfl:codeOk 13 (piece asC [0])=true)
 rintro e1 σ1 a1 w1 Z1 G1 ⟨rfl,h1⟩ S1
 refine wp_seq (wp_seq (exec_soundH K84_ok rfl rfl (fun _ h=>h) nopan ?_ ?_ (by kernel_rfl) S1 ⟨h1⟩ ?_))
 ·rintro c a w d v ⟨h | h,_⟩<;>cases h
 ·rw [hn];exact (by kernel_rfl:codeOk 13 (piece asC [1,0,0])=true)
 rintro e2 σ2 a2 w2 Z2 G2 ⟨rfl,rfl⟩ S2
 obtain ⟨Z3,hZ3,S3,hp3⟩:=S2.shut (id:=2097281) (cs:=[TRC]) (us:=[T]) rfl
 have S3:Sim PR ⟨w,Blocks G [(2097152,.arr 54 xs),(2097281,.box [.val TRC T]),(2097409,.box [vi s])],fun _=>False,Z,false,false,G,[]⟩ Try.f72.ntmps _ a2 w2 Z3 G2:=S3
 obtain ⟨Z4,hZ4,S4,hp4⟩:=S3.shut (id:=2097409) (cs:=[.int .i64]) (us:=[s]) rfl
 have S5:=S4.know (t:=6) (s:=.clo 79 [.rptr [TRC] [T],.rptr [.int .i64] [s]]) (by
  obtain ⟨vs,h1,v,t,h2,h3,v',t',h4,h5,h6⟩:=S2.slot 6
  refine ⟨vs,h1,v,t,h2,RepSV.mono ⟨hZ4,fun _ _=>rfl⟩ _ _ (hp3 v h3),v',t',h4,hp4 v' ?_,h6⟩
  exact RepSV.mono ⟨hZ3,fun _ _=>rfl⟩ (.ptr 2097409 0) v' h5)
 obtain ⟨G6,_,S6⟩:=S5.rename (m:=[(256,641),(2097152,642)]) rfl rfl (a':=a2) rfl
 refine wp_block (range_sound (C:=KJ) KJ_ok KJ_pan (fun _ h=>h) S6 (xs:=(linesTo s T.list (8 * T.list.length)).map lineX) (caps:=[.rptr [TRC] [T],.rptr [.int .i64] [s]]) rfl rfl (f:=79) (gn:=Try.f79) (by kernel_rfl) (by kernel_rfl) (by kernel_rfl)
  (one_seq s T (by omega)) (as_lines_ok s T.list _) (ob:=asOb xs (linesTo s T.list (8 * T.list.length))) ?_ (env:=[(2,.ptr 641 0)]) rfl ?_ ?_ (by kernel_rfl) ?_ (by kernel_rfl) ?_ (as_rounds hr) ?_)
 ·unfold asOb
  rw [List.take_zero,List.map_nil,List.append_nil]
  exact as_getO_two rfl rfl
 ·intro t
  rw [get_cons]
  split
  ·rename_i h;subst h;exact .inl rfl
  ·exact .inr rfl
 ·intro t ht
  have ht:t ∈ [7]:=ht
  rw [hn]
  rcases List.mem_cons.1 ht with rfl | ht
  ·decide
  ·cases ht
 ·rw [hn];exact (by kernel_rfl:opersOk 13 as2.toList=true)
 ·rw [hn];exact (by kernel_rfl:opersOk 13 as3.toList=true)
 ·intro a' w' Z' G' D hta hda S' hD hle hZD hbD
  rw [List.length_map] at S' hbD
  have hob:asOb xs (linesTo s T.list (8 * T.list.length)) (linesTo s T.list (8 * T.list.length)).length=[(641,.box [.own 642]),(642,.arr 54 (xs ++ linesOf s T.list))]:=by
   unfold asOb linesOf
   rw [List.take_length]
  rw [hob] at S' hbD
  obtain ⟨G7,hG7,S7⟩:=S'.renameTo (m:=[(641,644),(642,2097152)]) rfl rfl rfl hfl (a':=a') rfl
  refine marked_restT (C:=K84) K84_ok ?_ (by kernel_rfl) (loopsOk_of (loops_none (by kernel_rfl))) S7 hfl ?_ hD hle hZD ?_ (.eq (as_rest1 R T s (xs ++ linesOf s T.list) xs) hR)
  ·rw [hn];exact (by kernel_rfl:codeOk 13 asRest=true)
  ·rw [hda,show a2.defers=[] from S2.calm]
  ·intro id o ho hb
   obtain ⟨i,p,h3,h4,_⟩:=getO_pickR ho
   have hid:i=641∧id=644∨i=642∧id=2097152:=by
    rcases List.mem_cons.1 h3 with h | h
    ·cases h;exact .inl ⟨rfl,rfl⟩
    ·rcases List.mem_cons.1 h with h | h
     ·cases h;exact .inr ⟨rfl,rfl⟩
     ·cases h
   rcases hid with ⟨rfl,rfl⟩ | ⟨rfl,rfl⟩
   ·exact hbD 641 p h4 (by rw [← hG7 641 644 rfl];exact hb)
   ·exact hbD 642 p h4 (by rw [← hG7 642 2097152 rfl];exact hb)
end Go.Mat

namespace Go.Mat
open Go Go.Den Go.Proofs
noncomputable def appF:Tr:=fun vs objs k=>match vs,objs with
 | [.nil,.clo f [.ptr a pa,.ptr b pb]],[(a2,.box [.val (.sl false [.sl true ec]) T]),(b2,.box [.val (.int .i64) s])]=>
  (f=79∧a=2097153∧pa=0∧b=2097281∧pb=0∧a2=2097153∧b2=2097281∧ec=EC∧T.list.length≤65536)∧k (.ret [.own 2097408]) [(2097408,.arr 54 (linesOf s T.list))]
 | [.own o,.clo f [.ptr a pa,.ptr b pb]],[(o2,.arr t xs),(a2,.box [.val (.sl false [.sl true ec]) T]),(b2,.box [.val (.int .i64) s])]=>
  (o=2097152∧o2=2097152∧t=54∧f=79∧a=2097281∧pa=0∧b=2097409∧pb=0∧a2=2097281∧b2=2097409∧ec=EC∧T.list.length≤65536∧xs.length + 8 * T.list.length≤1073741824)∧
  k (.ret [.own 2097152]) [(2097152,.arr 54 (xs ++ linesOf s T.list))]
 | _,_=>False
noncomputable def colC:Ctx:=mkC PR eqs0 fnsNil (trsCons 72 [true,true] appF trsNil) noLoops noOut noOut
noncomputable def colF:Tr:=fun vs objs k=>match vs,objs with
 | [.clo f [.ptr a pa,.ptr b pb]],[(a2,.box [.val (.sl false [.sl true ec]) T]),(b2,.box [.val (.int .i64) s])]=>
  (f=79∧a=2097153∧pa=0∧b=2097281∧pb=0∧a2=2097153∧b2=2097281∧ec=EC∧T.list.length≤65536)∧k (.ret [.own 2097408]) [(2097408,.arr 54 (linesOf s T.list))]
 | _,_=>False
theorem col_tree (R:RT) (T s:U):(runD colC Try.f70 [.clo 79 [.ptr 2097153 0,.ptr 2097281 0]] [(2097153,.box [.val TRC T]),(2097281,.box [vi s])] R)=((nat_lit 79=nat_lit 79∧nat_lit 2097153=nat_lit 2097153∧nat_lit 0=nat_lit 0∧nat_lit 2097281=nat_lit 2097281∧nat_lit 0=nat_lit 0∧nat_lit 2097153=nat_lit 2097153∧nat_lit 2097281 =
 nat_lit 2097281∧[Ct.int IntKind.i64,Ct.int IntKind.i64,Ct.int IntKind.i64,Ct.int IntKind.i64,Ct.int IntKind.u32]=[Ct.int IntKind.i64,Ct.int IntKind.i64,Ct.int IntKind.i64,Ct.int IntKind.i64,
 Ct.int IntKind.u32]∧List.length (U.list T)≤(65536:Nat))∧R (Out.ret [SV.own (nat_lit 2097408)]) [(nat_lit 2097408,Obj.arr (nat_lit 54) (linesOf s (U.list T)))]):=by kernel_rfl
def shotLines:Int→List U→List U
 | _,[]=>[]
 | i,h :: r=>linesOf (.i i) (nth (.i 0) h.list 2).list ++ shotLines (i + 1) r
def shotsFit:List U→Bool
 | []=>true
 | h :: r=>decide ((nth (.i 0) h.list 2).list.length≤65536) && shotsFit r
noncomputable def eaLoop:LoopF:=fun _ svs os k=>match svs,os with
 | [.val (.int .i64) i,.val (.int .i64) n,.val (.sl true sc) S,.own o],[.arr t xs]=>
  (i = .i i.int∧o=1168∧t=54∧sc=SC∧n.int=(S.list.length:Int)∧0≤i.int∧i.int≤(S.list.length:Int)∧S.list.length≤1000∧xs.length + 524288 * (S.list.length - i.int.toNat)≤1073741824∧shotsFit (S.list.drop i.int.toNat)=true)∧
  k (.exit 0) ⟨[(3,.own 1168)],[(1168,.arr 54 (xs ++ shotLines i.int (S.list.drop i.int.toNat)))]⟩
 | _,_=>False
noncomputable def eaC:Ctx:=mkC PR eqs0 fnsNil (trsCons 72 [true,true] appF (trsCons 70 [true] colF (trsCons 71 [] oneF trsNil)))
 (loopCons 0 [13,12,11,3] [1168] eaLoop noLoops) (outCons 0 [3] [1168] noOut) noOut
def eachS:List (List U)→List (List U):=fun us=>[[.l (linesOf (.i (-1)) (nth (.i 0) (nth [] us 0) 3).list ++ shotLines 0 (nth (.i 0) (nth [] us 0) 4).list)]]
def eachP:List (List U)→Prop:=fun us=>(nth (.i 0) (nth [] us 0) 3).list.length≤65536∧(nth (.i 0) (nth [] us 0) 4).list.length≤1000∧shotsFit (nth (.i 0) (nth [] us 0) 4).list=true
theorem ea_tree (R:RF) (c sz bk T S M Q:U):(run eaC Try.f61 [[c,sz,bk,T,S,M,Q]] R)=([Ct.int IntKind.i64,Ct.int IntKind.i64,Ct.int IntKind.i64,Ct.int IntKind.i64,Ct.int IntKind.u32]=[.int .i64,.int .i64,.int .i64,.int .i64,.int .u32]∧(nat_lit 79=nat_lit 79∧nat_lit 2097153=nat_lit 2097153∧nat_lit 0=nat_lit 0∧nat_lit 2097281=nat_lit 2097281∧nat_lit 0=nat_lit 0∧nat_lit 2097153=nat_lit 2097153∧nat_lit 2097281=nat_lit 2097281∧[Ct.int IntKind.i64,Ct.int IntKind.i64,Ct.int IntKind.i64,Ct.int IntKind.i64,Ct.int IntKind.u32]=[.int .i64,.int .i64,.int .i64,.int .i64,.int .u32]∧T.list.length≤(65536:Nat))∧(U.i (0:Int)=U.i (0:Int)∧nat_lit 1168=nat_lit 1168∧nat_lit 54=nat_lit 54∧[Ct.str,Ct.int IntKind.i64,Ct.sl false [Ct.sl true [Ct.int IntKind.i64,Ct.int IntKind.i64,Ct.int IntKind.i64,Ct.int IntKind.i64,Ct.int IntKind.u32]]]=[.str,.int .i64,Ct.sl false [.sl true [.int .i64,.int .i64,.int .i64,.int .i64,.int .u32]]]∧(S.list.length:Int)=(S.list.length:Int)∧(0:Int)≤(0:Int)∧(0:Int)≤(S.list.length:Int)∧S.list.length≤(1000:Nat)∧List.length (linesOf (U.i (-1:Int)) T.list) + (524288:Nat) * (S.list.length - Int.toNat (0:Int))≤(1073741824:Nat)∧shotsFit (List.drop (Int.toNat (0:Int)) S.list)=true)∧R [[U.l (linesOf (U.i (-1:Int)) T.list ++ shotLines (0:Int) (List.drop (Int.toNat (0:Int)) S.list))]]):=by kernel_rfl
theorem ea_round (pan:KP) (μ:Mu) (N:Nat) (k:KE) (i n S:U) (xs:List U):(exec (eaC.panics pan) (loopBody Try.f61 0) 0 ⟨[(13,vi i),(12,vi n),(11,vt SC S),(3,.own 1168)],[(1168,.arr 54 xs)]⟩ (again PR (some ([3],[1168])) none pan [13,12,11,3] [1168] eaLoop μ N k))=(bif decide (i.int < n.int) then bif decide ((0:Int)≤i.int∧i.int < (S.list.length:Int)) then [Ct.int IntKind.i64,Ct.int IntKind.i64,Ct.int IntKind.i64,Ct.int IntKind.i64,Ct.int IntKind.u32]=[.int .i64,.int .i64,.int .i64,.int .i64,.int .u32]∧(nat_lit 2097152=nat_lit 2097152∧nat_lit 2097152=nat_lit 2097152∧nat_lit 54=nat_lit 54∧nat_lit 79=nat_lit 79∧nat_lit 2097281=nat_lit 2097281∧nat_lit 0=nat_lit 0∧nat_lit 2097409=nat_lit 2097409∧nat_lit 0=nat_lit 0∧nat_lit 2097281=nat_lit 2097281∧nat_lit 2097409=nat_lit 2097409∧[Ct.int IntKind.i64,Ct.int IntKind.i64,Ct.int IntKind.i64,Ct.int IntKind.i64,Ct.int IntKind.u32]=[.int .i64,.int .i64,.int .i64,.int .i64,.int .u32]∧List.length (U.list (nth (U.i (0:Int)) (List.tail (List.tail (U.list (nth (U.i (0:Int)) S.list (Int.toNat i.int))))) (0:Nat)))≤(65536:Nat)∧List.length xs + (8:Nat) * List.length (U.list (nth (U.i (0:Int)) (List.tail (List.tail (U.list (nth (U.i (0:Int)) S.list (Int.toNat i.int))))) (0:Nat)))≤(1073741824:Nat))∧bif Nat.blt (μ [.val (.int IntKind.i64) (U.i (IntKind.wrap .i64 (i.int + (1:Int)))),.val (.int IntKind.i64) n,.val (.sl true [.str,.int .i64,Ct.sl false [.sl true [.int .i64,.int .i64,.int .i64,.int .i64,.int .u32]]]) S,.own (nat_lit 1168)] [.arr (nat_lit 54) (xs ++ linesOf i (U.list (nth (U.i (0:Int)) (List.tail (List.tail (U.list (nth (U.i (0:Int)) S.list (Int.toNat i.int))))) (0:Nat))))]) N then (U.i (IntKind.wrap .i64 (i.int + (1:Int)))=U.i (IntKind.wrap .i64 (i.int + (1:Int)))∧nat_lit 1168=nat_lit 1168∧nat_lit 54=nat_lit 54∧[Ct.str,Ct.int IntKind.i64,Ct.sl false [Ct.sl true [Ct.int IntKind.i64,Ct.int IntKind.i64,Ct.int IntKind.i64,Ct.int IntKind.i64,Ct.int IntKind.u32]]]=[.str,.int .i64,Ct.sl false [.sl true [.int .i64,.int .i64,.int .i64,.int .i64,.int .u32]]]∧n.int=(S.list.length:Int)∧(0:Int)≤IntKind.wrap .i64 (i.int + (1:Int))∧IntKind.wrap .i64 (i.int + (1:Int))≤(S.list.length:Int)∧S.list.length≤(1000:Nat)∧List.length (xs ++ linesOf i (U.list (nth (U.i (0:Int)) (List.tail (List.tail (U.list (nth (U.i (0:Int)) S.list (Int.toNat i.int))))) (0:Nat)))) + (524288:Nat) * (S.list.length - Int.toNat (IntKind.wrap .i64 (i.int + (1:Int))))≤(1073741824:Nat)∧shotsFit (List.drop (Int.toNat (IntKind.wrap .i64 (i.int + (1:Int)))) S.list)=true)∧k (Ex.exit (nat_lit 0)) (St.mk [(nat_lit 3,.own (nat_lit 1168))] [(nat_lit 1168,.arr (nat_lit 54) (xs ++ linesOf i (U.list (nth (U.i (0:Int)) (List.tail (List.tail (U.list (nth (U.i (0:Int)) S.list (Int.toNat i.int))))) (0:Nat))) ++ shotLines (IntKind.wrap .i64 (i.int + (1:Int))) (List.drop (Int.toNat (IntKind.wrap .i64 (i.int + (1:Int)))) S.list)))]) else False else False else k (Ex.exit (nat_lit 0)) (St.mk [(nat_lit 3,.own (nat_lit 1168))] [(nat_lit 1168,.arr (nat_lit 54) xs)])):=by kernel_rfl
end Go.Mat

namespace Go.Mat
open Go Go.Den Go.Proofs
set_option maxRecDepth 100000
theorem app_ok:SpecT PR 72 appF:=fun fn hfn=>by
 have hf:PR.funcs[(72:Nat)]? = some Try.f72:=by kernel_rfl
 rw [hf] at hfn;cases hfn
 have hb:Try.f72.body=some (bodyOf Try.f72):=by kernel_rfl
 have hn:Try.f72.ntmps=13:=by kernel_rfl
 refine fnT_walkM hf hb (by kernel_rfl) fun vs objs R hcan h=>?_
 clear hcan
 unfold appF at h
 split at h
 ·rename_i f a pa b pb a2 ec T b2 s
  obtain ⟨⟨rfl,rfl,rfl,rfl,rfl,rfl,rfl,rfl,hT⟩,hR⟩:=h
  exact ⟨by rw [hn];decide,fun a w Z G S=>as_nil s T hT (by simp only [List.length_nil];omega) hR S⟩
 ·rename_i o f a pa b pb o2 t xs a2 ec T b2 s
  obtain ⟨⟨rfl,rfl,rfl,rfl,rfl,rfl,rfl,rfl,rfl,rfl,rfl,hT,hr⟩,hR⟩:=h
  exact ⟨by rw [hn];decide,fun a w Z G S=>as_own s T xs hT hr hR S⟩
 ·exact h.elim
theorem col_ok:SpecT PR 70 colF:=fun fn hfn=>by
 have hf:PR.funcs[(70:Nat)]? = some Try.f70:=by kernel_rfl
 rw [hf] at hfn;cases hfn
 refine fnT_okH (C:=colC) (mkC_ok eqs0_ok mixed_ok .nil (.cons app_ok .nil)) hf (by kernel_rfl) (loops_none (by kernel_rfl)) fun vs objs R h1 h2 h=>?_
 clear h1 h2
 unfold colF at h
 split at h
 ·obtain ⟨⟨rfl,rfl,rfl,rfl,rfl,rfl,rfl,rfl,hT⟩,hR⟩:=h
  exact .eq (col_tree R _ _) ⟨⟨by trivial,by trivial,by trivial,by trivial,by trivial,by trivial,by trivial,by trivial,hT⟩,hR⟩
 ·exact h.elim
theorem linesOf_len (s:U) (T:List U):(linesOf s T).length≤8 * T.length:=by
 unfold linesOf
 rw [List.length_map]
 exact linesTo_len s T _
theorem ea_loop:LoopOk eaC 0 (loopBody Try.f61 0):=by
 refine loopOk_of (F:=eaLoop) (ts:=[13,12,11,3]) (os:=[1168]) rfl (fun svs _=>match svs with | .val _ i :: _ :: .val _ S :: _=>((S.list.length:Int) - i.int).toNat | _=>0) ?_
 intro pan svs os k ho1 ho2 h
 unfold eaLoop at h
 split at h
 ·rename_i i n sc S o t xs
  obtain ⟨⟨hi,rfl,rfl,rfl,hn,h0,hle,hS,hx,hf⟩,hk⟩:=h
  refine .eq (ea_round pan _ _ k i n S xs) ?_
  refine bd (fun hlt=>dt ⟨h0,by omega⟩ ?_) (fun hlt=>?_)
  ·rw [drop_at (by omega),shotsFit] at hf
   rw [drop_at (by omega),shotLines] at hk
   simp only [Bool.and_eq_true,decide_eq_true_eq] at hf
   obtain ⟨f1,f2⟩:=hf
   have hwi:IntKind.wrap .i64 (i.int + 1)=i.int + 1:=i64_in (by omega) (by omega)
   have hc:(i.int + 1).toNat=i.int.toNat + 1:=by omega
   have hll:=linesOf_len i (nth (.i 0) (U.at S.list i.int.toNat).list 2).list
   simp only [nth_tail,Nat.zero_add,Nat.reduceAdd]
   rw [hwi,hc]
   rw [← hi] at hk
   refine ⟨by trivial,⟨by trivial,by trivial,by trivial,by trivial,by trivial,by trivial,by trivial,by trivial,by trivial,by trivial,by trivial,f1,(show xs.length + 8 * (nth (.i 0) (U.at S.list i.int.toNat).list 2).list.length≤1073741824 by omega)⟩,blt (by simp only [U.int_i];omega) ⟨⟨by trivial,by trivial,by trivial,by trivial,hn,by omega,by omega,hS,?_,f2⟩,?_⟩⟩
   ·rw [List.length_append]
    have e:S.list.length - i.int.toNat=(S.list.length - (i.int.toNat + 1)) + 1:=by omega
    rw [e,Nat.mul_add] at hx
    show xs.length + (linesOf i (nth (.i 0) (U.at S.list i.int.toNat).list 2).list).length + 524288 * (S.list.length - (i.int.toNat + 1))≤1073741824
    omega
   ·rw [List.append_assoc]
    exact hk
  ·rw [List.drop_of_length_le (by omega),shotLines,List.append_nil] at hk
   exact hk
 ·exact h.elim
theorem each_ok:SpecFP PR 61 eachP eachS:=fun fn us hfn hpre=>by
 have hf:PR.funcs[(61:Nat)]? = some Try.f61:=by kernel_rfl
 rw [hf] at hfn;cases hfn
 refine fn_okH (C:=eaC) (mkC_ok eqs0_ok mixed_ok .nil (.cons app_ok (.cons col_ok (.cons one_ok .nil)))) hf (by kernel_rfl) (loops_one (by kernel_rfl) ea_loop) fun hok=>?_
 have hp:Try.f61.params.toList=[41]:=by kernel_rfl
 rw [hp] at hok
 obtain ⟨u,rfl,h1⟩:=shape1 (by kernel_rfl:Cs PR 41=some (true,[.int .i64,.int .i64,.str,.sl false [.sl true EC],.sl true SC,.sl true BC,.sl false [.int .i64]])) hok.1
 obtain ⟨c,sz,bk,T,S,M,Q,rfl⟩:∃ a b c d e f g,u=[a,b,c,d,e,f,g]:=match u,h1 with | [a,b,c,d,e,f,g],_=>⟨a,b,c,d,e,f,g,rfl⟩
 obtain ⟨h1,h2,h3⟩:T.list.length≤65536∧S.list.length≤1000∧shotsFit S.list=true:=hpre
 refine .eq (ea_tree _ c sz bk T S M Q) ?_
 have hll:=linesOf_len (.i (-1)) T.list
 refine ⟨by trivial,⟨by trivial,by trivial,by trivial,by trivial,by trivial,by trivial,by trivial,by trivial,h1⟩,⟨by trivial,by trivial,by trivial,by trivial,by trivial,by omega,by omega,h2,?_,?_⟩,?_⟩
 ·rw [show Int.toNat 0=0 from rfl,Nat.sub_zero];omega
 ·exact h3
 ·rfl
end Go.Mat

namespace Go.Mat
open Go Go.Den Go.Proofs
def stI (L i:U):Int:=U.int (nth (.i 0) (List.tail (List.tail (List.tail (U.list (nth (.i 0) L.list (Int.toNat i.int)))))) 0)
def ctI (L i:U):Int:=U.int (nth (.i 0) (List.tail (List.tail (List.tail (List.tail (U.list (nth (.i 0) L.list (Int.toNat i.int))))))) 0)
def addR (f:Nat→Int):Nat→List U→List U
 | _,[]=>[]
 | k,x :: r=>.i (x.int + f k) :: addR f (k + 1) r
abbrev lnSt (l:U):U:=nth (.i 0) l.list 3
abbrev lnCt (l:U):U:=nth (.i 0) l.list 4
def fitL:List U→Bool
 | []=>true
 | l :: r=>(decide (0≤(lnSt l).int) && decide ((lnSt l).int≤65536) && decide (0≤(lnCt l).int) && decide ((lnCt l).int≤65536)) && fitL r
def inI (a b:Int) (k:Nat):Int:=bif decide (a≤k) && decide ((k:Int) < b) then 1 else 0
def coverR:List U→Nat→Int
 | [],_=>0
 | l :: r,k=>inI (lnSt l).int ((lnSt l).int + (lnCt l).int) k + coverR r k
def bndR (b:Int) (xs:List U):Bool:=xs.all fun x=>decide (0≤x.int) && decide (x.int≤b)
def nrmR (xs:List U):Prop:=xs=addR (fun _=>0) 0 xs
noncomputable def ofLoop0:LoopF:=fun _ svs os k=>match svs,os with
 | [.val (.int .i64) i,.val (.int .i64) m,.own o,.val (.int .i64) n,.ptr pp po],[.arr t xs,.box [.val (.int .i64) c,.val (.int .i64) sz,.val .str bk,.val (.sl false [.sl true x1]) T,.val (.sl true x2) S,.val (.sl true x3) M,.val (.sl false [.int .i64]) Q]]=>
  (o=2558∧t=3∧x1=EC∧x2=SC∧x3=BC∧pp=256∧po=0∧0≤i.int∧m.int≤(xs.length:Int)∧xs.length≤65536∧nrmR xs∧bndR 1000 (xs.drop i.int.toNat)=true)∧
  k (.exit 0) ⟨[(5,.own 2558),(1,vi n),(2,.ptr 256 0)],[(2558,.arr 3 (addR (inI i.int m.int) 0 xs)),(256,.box [vi c,vi sz,vs bk,vl (.sl true EC) T,vt SC S,vt BC M,vl (.int .i64) Q])]⟩
 | _,_=>False
noncomputable def ofLoop4:LoopF:=fun _ svs os k=>match svs,os with
 | [.val (.int .i64) i,.val (.int .i64) e,.own o,.val (.int .i64) j,.val (.int .i64) n2,.val (.sl true lc) L,.val (.int .i64) n],[.arr t xs]=>
  (o=2558∧t=3∧lc=LNC∧0≤i.int∧e.int≤(xs.length:Int)∧xs.length≤65536∧nrmR xs∧bndR 4611686018427387904 (xs.drop i.int.toNat)=true)∧
  k (.exit 4) ⟨[(5,.own 2558),(35,vi j),(34,vi n2),(33,.val (.sl true LNC) L),(1,vi n)],[(2558,.arr 3 (addR (inI i.int e.int) 0 xs))]⟩
 | _,_=>False
noncomputable def ofLoop2:LoopF:=fun _ svs os k=>match svs,os with
 | [.val (.int .i64) i,.val (.int .i64) m,.val (.sl true lc) L,.own o,.val (.int .i64) n],[.arr t xs]=>
  (o=2558∧t=3∧lc=LNC∧m.int=(L.list.length:Int)∧0≤i.int∧i.int≤(L.list.length:Int)∧L.list.length≤1073741824∧n.int=(xs.length:Int)∧xs.length≤65536∧nrmR xs∧fitL (L.list.drop i.int.toNat)=true∧bndR (1 + i.int) xs=true)∧
  k (.exit 2) ⟨[(5,.own 2558)],[(2558,.arr 3 (addR (coverR (L.list.drop i.int.toNat)) 0 xs))]⟩
 | _,_=>False
noncomputable def ofC:Ctx:=mkC PR eqs0 (fnsConsP 61 eachP eachS fnsNil) trsNil (loopCons 0 [22,21,5,1,2] [2558,256] ofLoop0 (loopCons 2 [35,34,33,5,1] [2558] ofLoop2 (loopCons 4 [11,10,5,35,34,33,1] [2558] ofLoop4 noLoops)))
 (outCons 0 [5,1,2] [2558,256] (outCons 2 [5] [2558] (outCons 4 [5,35,34,33,1] [2558] noOut))) noOut
theorem of_round0 (pan:KP) (μ:Mu) (N:Nat) (k:KE) (i m n c sz bk T S M Q:U) (xs:List U):(exec (ofC.panics pan) (loopBody Try.f40 0) 0 ⟨[(22,vi i),(21,vi m),(5,.own 2558),(1,vi n),(2,.ptr 256 0)],[(2558,.arr 3 xs),(256,.box [vi c,vi sz,vs bk,vl (.sl true EC) T,vt SC S,vt BC M,vl (.int .i64) Q])]⟩ (again PR (some ([5,1,2],[2558,256])) none pan [22,21,5,1,2] [2558,256] ofLoop0 μ N k))=(bif decide (i.int < m.int) then bif decide ((0:Int)≤i.int∧i.int < (xs.length:Int)) then bif Nat.blt (Int.toNat i.int) (List.length xs) then bif decide ((0:Int)≤i.int∧i.int < (xs.length:Int)) then bif Nat.blt (Int.toNat i.int) (List.length xs) then bif Nat.blt (μ [vi (U.i (IntKind.wrap .i64 (i.int + 1))),vi m,.own 2558,vi n,.ptr 256 0] [.arr 3 (List.set xs (Int.toNat i.int) (nth (U.i 0) (patchU [nth (U.i 0) xs (Int.toNat i.int)] (0:Nat) [U.i (IntKind.wrap .i64 (U.int (nth (U.i 0) xs (Int.toNat i.int)) + 1))]) (0:Nat))),.box [vi c,vi sz,.val .str bk,.val (.sl false [.sl true EC]) T,.val (.sl true [.str,.int .i64,Ct.sl false [.sl true EC]]) S,.val (.sl true [.str,Ct.bool,Ct.sl true [.int .i64,.int .i64]]) M,.val (.sl false [.int .i64]) Q]]) N then (2558=nat_lit 2558∧nat_lit 3=nat_lit 3∧EC=EC∧[Ct.str,.int .i64,Ct.sl false [Ct.sl true EC]]=[.str,.int .i64,Ct.sl false [.sl true EC]]∧[Ct.str,Ct.bool,Ct.sl true [.int .i64,.int .i64]]=[.str,Ct.bool,Ct.sl true [.int .i64,.int .i64]]∧nat_lit 256=nat_lit 256∧nat_lit 0=nat_lit 0∧(0:Int)≤IntKind.wrap .i64 (i.int + 1)∧m.int≤(↑(List.length (List.set xs (Int.toNat i.int) (nth (U.i 0) (patchU [nth (U.i 0) xs (Int.toNat i.int)] (0:Nat) [U.i (IntKind.wrap .i64 (U.int (nth (U.i 0) xs (Int.toNat i.int)) + 1))]) (0:Nat)))):Int)∧List.length (List.set xs (Int.toNat i.int) (nth (U.i 0) (patchU [nth (U.i 0) xs (Int.toNat i.int)] (0:Nat) [U.i (IntKind.wrap .i64 (U.int (nth (U.i 0) xs (Int.toNat i.int)) + 1))]) (0:Nat)))≤(65536:Nat)∧nrmR (List.set xs (Int.toNat i.int) (nth (U.i 0) (patchU [nth (U.i 0) xs (Int.toNat i.int)] (0:Nat) [U.i (IntKind.wrap .i64 (U.int (nth (U.i 0) xs (Int.toNat i.int)) + 1))]) (0:Nat)))∧bndR 1000 (List.drop (Int.toNat (IntKind.wrap .i64 (i.int + 1))) (List.set xs (Int.toNat i.int) (nth (U.i 0) (patchU [nth (U.i 0) xs (Int.toNat i.int)] (0:Nat) [U.i (IntKind.wrap .i64 (U.int (nth (U.i 0) xs (Int.toNat i.int)) + 1))]) (0:Nat))))=true)∧k (Ex.exit 0) (St.mk [(5,.own 2558),(1,vi n),(2,.ptr 256 0)] [(2558,.arr 3 (addR (inI (IntKind.wrap .i64 (i.int + 1)) m.int) (0:Nat) (List.set xs (Int.toNat i.int) (nth (U.i 0) (patchU [nth (U.i 0) xs (Int.toNat i.int)] (0:Nat) [U.i (IntKind.wrap .i64 (U.int (nth (U.i 0) xs (Int.toNat i.int)) + 1))]) (0:Nat))))),(256,.box [vi c,vi sz,.val .str bk,.val (.sl false [.sl true EC]) T,.val (.sl true [.str,.int .i64,Ct.sl false [.sl true EC]]) S,.val (.sl true [.str,Ct.bool,Ct.sl true [.int .i64,.int .i64]]) M,.val (.sl false [.int .i64]) Q])]) else False else False else False else False else False else k (Ex.exit 0) (St.mk [(5,.own 2558),(1,vi n),(2,.ptr 256 0)] [(2558,.arr 3 xs),(256,.box [vi c,vi sz,.val .str bk,.val (.sl false [.sl true EC]) T,.val (.sl true [.str,.int .i64,Ct.sl false [.sl true EC]]) S,.val (.sl true [.str,Ct.bool,Ct.sl true [.int .i64,.int .i64]]) M,.val (.sl false [.int .i64]) Q])])):=by kernel_rfl
theorem of_round4 (pan:KP) (μ:Mu) (N:Nat) (k:KE) (i e j n2 L n:U) (xs:List U):(exec (ofC.panics pan) (loopBody Try.f40 2) 4 ⟨[(11,vi i),(10,vi e),(5,.own 2558),(35,vi j),(34,vi n2),(33,.val (.sl true LNC) L),(1,vi n)],[(2558,.arr 3 xs)]⟩ (again PR (some ([5,35,34,33,1],[2558])) none pan [11,10,5,35,34,33,1] [2558] ofLoop4 μ N k))=(bif decide (i.int < e.int) then bif decide ((0:Int)≤i.int∧i.int < (xs.length:Int)) then bif Nat.blt (Int.toNat i.int) (List.length xs) then bif decide ((0:Int)≤i.int∧i.int < (xs.length:Int)) then bif Nat.blt (Int.toNat i.int) (List.length xs) then bif Nat.blt (μ [vi (U.i (IntKind.wrap .i64 (i.int + 1))),vi e,.own 2558,vi j,vi n2,.val (.sl true LNC) L,vi n] [.arr 3 (List.set xs (Int.toNat i.int) (nth (U.i 0) (patchU [nth (U.i 0) xs (Int.toNat i.int)] (0:Nat) [U.i (IntKind.wrap .i64 (U.int (nth (U.i 0) xs (Int.toNat i.int)) + 1))]) (0:Nat)))]) N then (2558=nat_lit 2558∧nat_lit 3=nat_lit 3∧LNC=LNC∧(0:Int)≤IntKind.wrap .i64 (i.int + 1)∧e.int≤(↑(List.length (List.set xs (Int.toNat i.int) (nth (U.i 0) (patchU [nth (U.i 0) xs (Int.toNat i.int)] (0:Nat) [U.i (IntKind.wrap .i64 (U.int (nth (U.i 0) xs (Int.toNat i.int)) + 1))]) (0:Nat)))):Int)∧List.length (List.set xs (Int.toNat i.int) (nth (U.i 0) (patchU [nth (U.i 0) xs (Int.toNat i.int)] (0:Nat) [U.i (IntKind.wrap .i64 (U.int (nth (U.i 0) xs (Int.toNat i.int)) + 1))]) (0:Nat)))≤(65536:Nat)∧nrmR (List.set xs (Int.toNat i.int) (nth (U.i 0) (patchU [nth (U.i 0) xs (Int.toNat i.int)] (0:Nat) [U.i (IntKind.wrap .i64 (U.int (nth (U.i 0) xs (Int.toNat i.int)) + 1))]) (0:Nat)))∧bndR 4611686018427387904 (List.drop (Int.toNat (IntKind.wrap .i64 (i.int + 1))) (List.set xs (Int.toNat i.int) (nth (U.i 0) (patchU [nth (U.i 0) xs (Int.toNat i.int)] (0:Nat) [U.i (IntKind.wrap .i64 (U.int (nth (U.i 0) xs (Int.toNat i.int)) + 1))]) (0:Nat))))=true)∧k (Ex.exit 4) (St.mk [(5,.own 2558),(35,vi j),(34,vi n2),(33,.val (.sl true LNC) L),(1,vi n)] [(2558,.arr 3 (addR (inI (IntKind.wrap .i64 (i.int + 1)) e.int) (0:Nat) (List.set xs (Int.toNat i.int) (nth (U.i 0) (patchU [nth (U.i 0) xs (Int.toNat i.int)] (0:Nat) [U.i (IntKind.wrap .i64 (U.int (nth (U.i 0) xs (Int.toNat i.int)) + 1))]) (0:Nat)))))]) else False else False else False else False else False else k (Ex.exit 4) (St.mk [(5,.own 2558),(35,vi j),(34,vi n2),(33,.val (.sl true LNC) L),(1,vi n)] [(2558,.arr 3 xs)])):=by kernel_rfl
theorem of_round2 (pan:KP) (μ:Mu) (N:Nat) (k:KE) (i m L n:U) (xs:List U):(exec (ofC.panics pan) (loopBody Try.f40 1) 2 ⟨[(35,vi i),(34,vi m),(33,.val (.sl true LNC) L),(5,.own 2558),(1,vi n)],[(2558,.arr 3 xs)]⟩ (again PR (some ([5],[2558])) none pan [35,34,33,5,1] [2558] ofLoop2 μ N k))=(bif decide (i.int < m.int) then bif decide ((0:Int)≤i.int∧i.int < (L.list.length:Int)) then bif decide (ctI L i≤0) then bif Nat.blt (μ [vi (U.i (IntKind.wrap .i64 (i.int + 1))),vi m,.val (.sl true LNC) L,.own 2558,vi n] [.arr 3 xs]) N then (2558=nat_lit 2558∧nat_lit 3=nat_lit 3∧LNC=LNC∧m.int=(L.list.length:Int)∧(0:Int)≤IntKind.wrap .i64 (i.int + 1)∧IntKind.wrap .i64 (i.int + 1)≤(L.list.length:Int)∧L.list.length≤(1073741824:Nat)∧n.int=(xs.length:Int)∧List.length xs≤(65536:Nat)∧nrmR xs∧fitL (List.drop (Int.toNat (IntKind.wrap .i64 (i.int + 1))) L.list)=true∧bndR ((1:Int) + IntKind.wrap .i64 (i.int + 1)) xs=true)∧k (Ex.exit 2) (St.mk [(5,.own 2558)] [(2558,.arr 3 (addR (coverR (List.drop (Int.toNat (IntKind.wrap .i64 (i.int + 1))) L.list)) (0:Nat) xs))]) else False else bif decide (stI L i ≥ n.int) then bif Nat.blt (μ [vi (U.i (IntKind.wrap .i64 (i.int + 1))),vi m,.val (.sl true LNC) L,.own 2558,vi n] [.arr 3 xs]) N then (2558=nat_lit 2558∧nat_lit 3=nat_lit 3∧LNC=LNC∧m.int=(L.list.length:Int)∧(0:Int)≤IntKind.wrap .i64 (i.int + 1)∧IntKind.wrap .i64 (i.int + 1)≤(L.list.length:Int)∧L.list.length≤(1073741824:Nat)∧n.int=(xs.length:Int)∧List.length xs≤(65536:Nat)∧nrmR xs∧fitL (List.drop (Int.toNat (IntKind.wrap .i64 (i.int + 1))) L.list)=true∧bndR ((1:Int) + IntKind.wrap .i64 (i.int + 1)) xs=true)∧k (Ex.exit 2) (St.mk [(5,.own 2558)] [(2558,.arr 3 (addR (coverR (List.drop (Int.toNat (IntKind.wrap .i64 (i.int + 1))) L.list)) (0:Nat) xs))]) else False else bif decide (ctI L i < n.int) then bif decide (stI L i > 0) then bif decide (ctI L i ≥ IntKind.wrap .i64 (n.int - stI L i)) then (2558=nat_lit 2558∧nat_lit 3=nat_lit 3∧LNC=LNC∧((0:Int)≤bif decide (stI L i < 0) then (0:Int) else stI L i)∧n.int≤(xs.length:Int)∧List.length xs≤(65536:Nat)∧nrmR xs∧bndR 4611686018427387904 (List.drop (Int.toNat (bif decide (stI L i < 0) then (0:Int) else stI L i)) xs)=true)∧bif Nat.blt (μ [vi (U.i (IntKind.wrap .i64 (i.int + 1))),vi m,.val (.sl true LNC) L,.own 2558,vi n] [.arr 3 (addR (inI (bif decide (stI L i < 0) then (0:Int) else stI L i) n.int) (0:Nat) xs)]) N then (2558=nat_lit 2558∧nat_lit 3=nat_lit 3∧LNC=LNC∧m.int=(L.list.length:Int)∧(0:Int)≤IntKind.wrap .i64 (i.int + 1)∧IntKind.wrap .i64 (i.int + 1)≤(L.list.length:Int)∧L.list.length≤(1073741824:Nat)∧n.int=(↑(List.length (addR (inI (bif decide (stI L i < 0) then (0:Int) else stI L i) n.int) (0:Nat) xs)):Int)∧List.length (addR (inI (bif decide (stI L i < 0) then (0:Int) else stI L i) n.int) (0:Nat) xs)≤(65536:Nat)∧nrmR (addR (inI (bif decide (stI L i < 0) then (0:Int) else stI L i) n.int) (0:Nat) xs)∧fitL (List.drop (Int.toNat (IntKind.wrap .i64 (i.int + 1))) L.list)=true∧bndR ((1:Int) + IntKind.wrap .i64 (i.int + 1)) (addR (inI (bif decide (stI L i < 0) then (0:Int) else stI L i) n.int) (0:Nat) xs)=true)∧k (Ex.exit 2) (St.mk [(5,.own 2558)] [(2558,.arr 3 (addR (coverR (List.drop (Int.toNat (IntKind.wrap .i64 (i.int + 1))) L.list)) (0:Nat) (addR (inI (bif decide (stI L i < 0) then (0:Int) else stI L i) n.int) (0:Nat) xs)))]) else False else (2558=nat_lit 2558∧nat_lit 3=nat_lit 3∧LNC=LNC∧((0:Int)≤bif decide (stI L i < 0) then (0:Int) else stI L i)∧(bif decide ((bif decide (IntKind.wrap .i64 (stI L i + ctI L i) < 0) then (0:Int) else IntKind.wrap .i64 (stI L i + ctI L i)) < n.int) then bif decide (IntKind.wrap .i64 (stI L i + ctI L i) < 0) then (0:Int) else IntKind.wrap .i64 (stI L i + ctI L i) else n.int)≤(xs.length:Int)∧List.length xs≤(65536:Nat)∧nrmR xs∧bndR 4611686018427387904 (List.drop (Int.toNat (bif decide (stI L i < 0) then (0:Int) else stI L i)) xs)=true)∧bif Nat.blt (μ [vi (U.i (IntKind.wrap .i64 (i.int + 1))),vi m,.val (.sl true LNC) L,.own 2558,vi n] [.arr 3 (addR (inI (bif decide (stI L i < 0) then (0:Int) else stI L i) (bif decide ((bif decide (IntKind.wrap .i64 (stI L i + ctI L i) < 0) then (0:Int) else IntKind.wrap .i64 (stI L i + ctI L i)) < n.int) then bif decide (IntKind.wrap .i64 (stI L i + ctI L i) < 0) then (0:Int) else IntKind.wrap .i64 (stI L i + ctI L i) else n.int)) (0:Nat) xs)]) N then (2558=nat_lit 2558∧nat_lit 3=nat_lit 3∧LNC=LNC∧m.int=(L.list.length:Int)∧(0:Int)≤IntKind.wrap .i64 (i.int + 1)∧IntKind.wrap .i64 (i.int + 1)≤(L.list.length:Int)∧L.list.length≤(1073741824:Nat)∧n.int=(↑(List.length (addR (inI (bif decide (stI L i < 0) then (0:Int) else stI L i) (bif decide ((bif decide (IntKind.wrap .i64 (stI L i + ctI L i) < 0) then (0:Int) else IntKind.wrap .i64 (stI L i + ctI L i)) < n.int) then bif decide (IntKind.wrap .i64 (stI L i + ctI L i) < 0) then (0:Int) else IntKind.wrap .i64 (stI L i + ctI L i) else n.int)) (0:Nat) xs)):Int)∧List.length (addR (inI (bif decide (stI L i < 0) then (0:Int) else stI L i) (bif decide ((bif decide (IntKind.wrap .i64 (stI L i + ctI L i) < 0) then (0:Int) else IntKind.wrap .i64 (stI L i + ctI L i)) < n.int) then bif decide (IntKind.wrap .i64 (stI L i + ctI L i) < 0) then (0:Int) else IntKind.wrap .i64 (stI L i + ctI L i) else n.int)) (0:Nat) xs)≤(65536:Nat)∧nrmR (addR (inI (bif decide (stI L i < 0) then (0:Int) else stI L i) (bif decide ((bif decide (IntKind.wrap .i64 (stI L i + ctI L i) < 0) then (0:Int) else IntKind.wrap .i64 (stI L i + ctI L i)) < n.int) then bif decide (IntKind.wrap .i64 (stI L i + ctI L i) < 0) then (0:Int) else IntKind.wrap .i64 (stI L i + ctI L i) else n.int)) (0:Nat) xs)∧fitL (List.drop (Int.toNat (IntKind.wrap .i64 (i.int + 1))) L.list)=true∧bndR ((1:Int) + IntKind.wrap .i64 (i.int + 1)) (addR (inI (bif decide (stI L i < 0) then (0:Int) else stI L i) (bif decide ((bif decide (IntKind.wrap .i64 (stI L i + ctI L i) < 0) then (0:Int) else IntKind.wrap .i64 (stI L i + ctI L i)) < n.int) then bif decide (IntKind.wrap .i64 (stI L i + ctI L i) < 0) then (0:Int) else IntKind.wrap .i64 (stI L i + ctI L i) else n.int)) (0:Nat) xs)=true)∧k (Ex.exit 2) (St.mk [(5,.own 2558)] [(2558,.arr 3 (addR (coverR (List.drop (Int.toNat (IntKind.wrap .i64 (i.int + 1))) L.list)) (0:Nat) (addR (inI (bif decide (stI L i < 0) then (0:Int) else stI L i) (bif decide ((bif decide (IntKind.wrap .i64 (stI L i + ctI L i) < 0) then (0:Int) else IntKind.wrap .i64 (stI L i + ctI L i)) < n.int) then bif decide (IntKind.wrap .i64 (stI L i + ctI L i) < 0) then (0:Int) else IntKind.wrap .i64 (stI L i + ctI L i) else n.int)) (0:Nat) xs)))]) else False else (2558=nat_lit 2558∧nat_lit 3=nat_lit 3∧LNC=LNC∧((0:Int)≤bif decide (stI L i < 0) then (0:Int) else stI L i)∧(bif decide ((bif decide (IntKind.wrap .i64 (stI L i + ctI L i) < 0) then (0:Int) else IntKind.wrap .i64 (stI L i + ctI L i)) < n.int) then bif decide (IntKind.wrap .i64 (stI L i + ctI L i) < 0) then (0:Int) else IntKind.wrap .i64 (stI L i + ctI L i) else n.int)≤(xs.length:Int)∧List.length xs≤(65536:Nat)∧nrmR xs∧bndR 4611686018427387904 (List.drop (Int.toNat (bif decide (stI L i < 0) then (0:Int) else stI L i)) xs)=true)∧bif Nat.blt (μ [vi (U.i (IntKind.wrap .i64 (i.int + 1))),vi m,.val (.sl true LNC) L,.own 2558,vi n] [.arr 3 (addR (inI (bif decide (stI L i < 0) then (0:Int) else stI L i) (bif decide ((bif decide (IntKind.wrap .i64 (stI L i + ctI L i) < 0) then (0:Int) else IntKind.wrap .i64 (stI L i + ctI L i)) < n.int) then bif decide (IntKind.wrap .i64 (stI L i + ctI L i) < 0) then (0:Int) else IntKind.wrap .i64 (stI L i + ctI L i) else n.int)) (0:Nat) xs)]) N then (2558=nat_lit 2558∧nat_lit 3=nat_lit 3∧LNC=LNC∧m.int=(L.list.length:Int)∧(0:Int)≤IntKind.wrap .i64 (i.int + 1)∧IntKind.wrap .i64 (i.int + 1)≤(L.list.length:Int)∧L.list.length≤(1073741824:Nat)∧n.int=(↑(List.length (addR (inI (bif decide (stI L i < 0) then (0:Int) else stI L i) (bif decide ((bif decide (IntKind.wrap .i64 (stI L i + ctI L i) < 0) then (0:Int) else IntKind.wrap .i64 (stI L i + ctI L i)) < n.int) then bif decide (IntKind.wrap .i64 (stI L i + ctI L i) < 0) then (0:Int) else IntKind.wrap .i64 (stI L i + ctI L i) else n.int)) (0:Nat) xs)):Int)∧List.length (addR (inI (bif decide (stI L i < 0) then (0:Int) else stI L i) (bif decide ((bif decide (IntKind.wrap .i64 (stI L i + ctI L i) < 0) then (0:Int) else IntKind.wrap .i64 (stI L i + ctI L i)) < n.int) then bif decide (IntKind.wrap .i64 (stI L i + ctI L i) < 0) then (0:Int) else IntKind.wrap .i64 (stI L i + ctI L i) else n.int)) (0:Nat) xs)≤(65536:Nat)∧nrmR (addR (inI (bif decide (stI L i < 0) then (0:Int) else stI L i) (bif decide ((bif decide (IntKind.wrap .i64 (stI L i + ctI L i) < 0) then (0:Int) else IntKind.wrap .i64 (stI L i + ctI L i)) < n.int) then bif decide (IntKind.wrap .i64 (stI L i + ctI L i) < 0) then (0:Int) else IntKind.wrap .i64 (stI L i + ctI L i) else n.int)) (0:Nat) xs)∧fitL (List.drop (Int.toNat (IntKind.wrap .i64 (i.int + 1))) L.list)=true∧bndR ((1:Int) + IntKind.wrap .i64 (i.int + 1)) (addR (inI (bif decide (stI L i < 0) then (0:Int) else stI L i) (bif decide ((bif decide (IntKind.wrap .i64 (stI L i + ctI L i) < 0) then (0:Int) else IntKind.wrap .i64 (stI L i + ctI L i)) < n.int) then bif decide (IntKind.wrap .i64 (stI L i + ctI L i) < 0) then (0:Int) else IntKind.wrap .i64 (stI L i + ctI L i) else n.int)) (0:Nat) xs)=true)∧k (Ex.exit 2) (St.mk [(5,.own 2558)] [(2558,.arr 3 (addR (coverR (List.drop (Int.toNat (IntKind.wrap .i64 (i.int + 1))) L.list)) (0:Nat) (addR (inI (bif decide (stI L i < 0) then (0:Int) else stI L i) (bif decide ((bif decide (IntKind.wrap .i64 (stI L i + ctI L i) < 0) then (0:Int) else IntKind.wrap .i64 (stI L i + ctI L i)) < n.int) then bif decide (IntKind.wrap .i64 (stI L i + ctI L i) < 0) then (0:Int) else IntKind.wrap .i64 (stI L i + ctI L i) else n.int)) (0:Nat) xs)))]) else False else bif decide (stI L i < 0) then bif decide (stI L i > 0) then bif decide (ctI L i ≥ IntKind.wrap .i64 (n.int - stI L i)) then (2558=nat_lit 2558∧nat_lit 3=nat_lit 3∧LNC=LNC∧((0:Int)≤bif decide (stI L i < 0) then (0:Int) else stI L i)∧n.int≤(xs.length:Int)∧List.length xs≤(65536:Nat)∧nrmR xs∧bndR 4611686018427387904 (List.drop (Int.toNat (bif decide (stI L i < 0) then (0:Int) else stI L i)) xs)=true)∧bif Nat.blt (μ [vi (U.i (IntKind.wrap .i64 (i.int + 1))),vi m,.val (.sl true LNC) L,.own 2558,vi n] [.arr 3 (addR (inI (bif decide (stI L i < 0) then (0:Int) else stI L i) n.int) (0:Nat) xs)]) N then (2558=nat_lit 2558∧nat_lit 3=nat_lit 3∧LNC=LNC∧m.int=(L.list.length:Int)∧(0:Int)≤IntKind.wrap .i64 (i.int + 1)∧IntKind.wrap .i64 (i.int + 1)≤(L.list.length:Int)∧L.list.length≤(1073741824:Nat)∧n.int=(↑(List.length (addR (inI (bif decide (stI L i < 0) then (0:Int) else stI L i) n.int) (0:Nat) xs)):Int)∧List.length (addR (inI (bif decide (stI L i < 0) then (0:Int) else stI L i) n.int) (0:Nat) xs)≤(65536:Nat)∧nrmR (addR (inI (bif decide (stI L i < 0) then (0:Int) else stI L i) n.int) (0:Nat) xs)∧fitL (List.drop (Int.toNat (IntKind.wrap .i64 (i.int + 1))) L.list)=true∧bndR ((1:Int) + IntKind.wrap .i64 (i.int + 1)) (addR (inI (bif decide (stI L i < 0) then (0:Int) else stI L i) n.int) (0:Nat) xs)=true)∧k (Ex.exit 2) (St.mk [(5,.own 2558)] [(2558,.arr 3 (addR (coverR (List.drop (Int.toNat (IntKind.wrap .i64 (i.int + 1))) L.list)) (0:Nat) (addR (inI (bif decide (stI L i < 0) then (0:Int) else stI L i) n.int) (0:Nat) xs)))]) else False else (2558=nat_lit 2558∧nat_lit 3=nat_lit 3∧LNC=LNC∧((0:Int)≤bif decide (stI L i < 0) then (0:Int) else stI L i)∧(bif decide ((bif decide (IntKind.wrap .i64 (stI L i + ctI L i) < 0) then (0:Int) else IntKind.wrap .i64 (stI L i + ctI L i)) < n.int) then bif decide (IntKind.wrap .i64 (stI L i + ctI L i) < 0) then (0:Int) else IntKind.wrap .i64 (stI L i + ctI L i) else n.int)≤(xs.length:Int)∧List.length xs≤(65536:Nat)∧nrmR xs∧bndR 4611686018427387904 (List.drop (Int.toNat (bif decide (stI L i < 0) then (0:Int) else stI L i)) xs)=true)∧bif Nat.blt (μ [vi (U.i (IntKind.wrap .i64 (i.int + 1))),vi m,.val (.sl true LNC) L,.own 2558,vi n] [.arr 3 (addR (inI (bif decide (stI L i < 0) then (0:Int) else stI L i) (bif decide ((bif decide (IntKind.wrap .i64 (stI L i + ctI L i) < 0) then (0:Int) else IntKind.wrap .i64 (stI L i + ctI L i)) < n.int) then bif decide (IntKind.wrap .i64 (stI L i + ctI L i) < 0) then (0:Int) else IntKind.wrap .i64 (stI L i + ctI L i) else n.int)) (0:Nat) xs)]) N then (2558=nat_lit 2558∧nat_lit 3=nat_lit 3∧LNC=LNC∧m.int=(L.list.length:Int)∧(0:Int)≤IntKind.wrap .i64 (i.int + 1)∧IntKind.wrap .i64 (i.int + 1)≤(L.list.length:Int)∧L.list.length≤(1073741824:Nat)∧n.int=(↑(List.length (addR (inI (bif decide (stI L i < 0) then (0:Int) else stI L i) (bif decide ((bif decide (IntKind.wrap .i64 (stI L i + ctI L i) < 0) then (0:Int) else IntKind.wrap .i64 (stI L i + ctI L i)) < n.int) then bif decide (IntKind.wrap .i64 (stI L i + ctI L i) < 0) then (0:Int) else IntKind.wrap .i64 (stI L i + ctI L i) else n.int)) (0:Nat) xs)):Int)∧List.length (addR (inI (bif decide (stI L i < 0) then (0:Int) else stI L i) (bif decide ((bif decide (IntKind.wrap .i64 (stI L i + ctI L i) < 0) then (0:Int) else IntKind.wrap .i64 (stI L i + ctI L i)) < n.int) then bif decide (IntKind.wrap .i64 (stI L i + ctI L i) < 0) then (0:Int) else IntKind.wrap .i64 (stI L i + ctI L i) else n.int)) (0:Nat) xs)≤(65536:Nat)∧nrmR (addR (inI (bif decide (stI L i < 0) then (0:Int) else stI L i) (bif decide ((bif decide (IntKind.wrap .i64 (stI L i + ctI L i) < 0) then (0:Int) else IntKind.wrap .i64 (stI L i + ctI L i)) < n.int) then bif decide (IntKind.wrap .i64 (stI L i + ctI L i) < 0) then (0:Int) else IntKind.wrap .i64 (stI L i + ctI L i) else n.int)) (0:Nat) xs)∧fitL (List.drop (Int.toNat (IntKind.wrap .i64 (i.int + 1))) L.list)=true∧bndR ((1:Int) + IntKind.wrap .i64 (i.int + 1)) (addR (inI (bif decide (stI L i < 0) then (0:Int) else stI L i) (bif decide ((bif decide (IntKind.wrap .i64 (stI L i + ctI L i) < 0) then (0:Int) else IntKind.wrap .i64 (stI L i + ctI L i)) < n.int) then bif decide (IntKind.wrap .i64 (stI L i + ctI L i) < 0) then (0:Int) else IntKind.wrap .i64 (stI L i + ctI L i) else n.int)) (0:Nat) xs)=true)∧k (Ex.exit 2) (St.mk [(5,.own 2558)] [(2558,.arr 3 (addR (coverR (List.drop (Int.toNat (IntKind.wrap .i64 (i.int + 1))) L.list)) (0:Nat) (addR (inI (bif decide (stI L i < 0) then (0:Int) else stI L i) (bif decide ((bif decide (IntKind.wrap .i64 (stI L i + ctI L i) < 0) then (0:Int) else IntKind.wrap .i64 (stI L i + ctI L i)) < n.int) then bif decide (IntKind.wrap .i64 (stI L i + ctI L i) < 0) then (0:Int) else IntKind.wrap .i64 (stI L i + ctI L i) else n.int)) (0:Nat) xs)))]) else False else (2558=nat_lit 2558∧nat_lit 3=nat_lit 3∧LNC=LNC∧((0:Int)≤bif decide (stI L i < 0) then (0:Int) else stI L i)∧(bif decide ((bif decide (IntKind.wrap .i64 (stI L i + ctI L i) < 0) then (0:Int) else IntKind.wrap .i64 (stI L i + ctI L i)) < n.int) then bif decide (IntKind.wrap .i64 (stI L i + ctI L i) < 0) then (0:Int) else IntKind.wrap .i64 (stI L i + ctI L i) else n.int)≤(xs.length:Int)∧List.length xs≤(65536:Nat)∧nrmR xs∧bndR 4611686018427387904 (List.drop (Int.toNat (bif decide (stI L i < 0) then (0:Int) else stI L i)) xs)=true)∧bif Nat.blt (μ [vi (U.i (IntKind.wrap .i64 (i.int + 1))),vi m,.val (.sl true LNC) L,.own 2558,vi n] [.arr 3 (addR (inI (bif decide (stI L i < 0) then (0:Int) else stI L i) (bif decide ((bif decide (IntKind.wrap .i64 (stI L i + ctI L i) < 0) then (0:Int) else IntKind.wrap .i64 (stI L i + ctI L i)) < n.int) then bif decide (IntKind.wrap .i64 (stI L i + ctI L i) < 0) then (0:Int) else IntKind.wrap .i64 (stI L i + ctI L i) else n.int)) (0:Nat) xs)]) N then (2558=nat_lit 2558∧nat_lit 3=nat_lit 3∧LNC=LNC∧m.int=(L.list.length:Int)∧(0:Int)≤IntKind.wrap .i64 (i.int + 1)∧IntKind.wrap .i64 (i.int + 1)≤(L.list.length:Int)∧L.list.length≤(1073741824:Nat)∧n.int=(↑(List.length (addR (inI (bif decide (stI L i < 0) then (0:Int) else stI L i) (bif decide ((bif decide (IntKind.wrap .i64 (stI L i + ctI L i) < 0) then (0:Int) else IntKind.wrap .i64 (stI L i + ctI L i)) < n.int) then bif decide (IntKind.wrap .i64 (stI L i + ctI L i) < 0) then (0:Int) else IntKind.wrap .i64 (stI L i + ctI L i) else n.int)) (0:Nat) xs)):Int)∧List.length (addR (inI (bif decide (stI L i < 0) then (0:Int) else stI L i) (bif decide ((bif decide (IntKind.wrap .i64 (stI L i + ctI L i) < 0) then (0:Int) else IntKind.wrap .i64 (stI L i + ctI L i)) < n.int) then bif decide (IntKind.wrap .i64 (stI L i + ctI L i) < 0) then (0:Int) else IntKind.wrap .i64 (stI L i + ctI L i) else n.int)) (0:Nat) xs)≤(65536:Nat)∧nrmR (addR (inI (bif decide (stI L i < 0) then (0:Int) else stI L i) (bif decide ((bif decide (IntKind.wrap .i64 (stI L i + ctI L i) < 0) then (0:Int) else IntKind.wrap .i64 (stI L i + ctI L i)) < n.int) then bif decide (IntKind.wrap .i64 (stI L i + ctI L i) < 0) then (0:Int) else IntKind.wrap .i64 (stI L i + ctI L i) else n.int)) (0:Nat) xs)∧fitL (List.drop (Int.toNat (IntKind.wrap .i64 (i.int + 1))) L.list)=true∧bndR ((1:Int) + IntKind.wrap .i64 (i.int + 1)) (addR (inI (bif decide (stI L i < 0) then (0:Int) else stI L i) (bif decide ((bif decide (IntKind.wrap .i64 (stI L i + ctI L i) < 0) then (0:Int) else IntKind.wrap .i64 (stI L i + ctI L i)) < n.int) then bif decide (IntKind.wrap .i64 (stI L i + ctI L i) < 0) then (0:Int) else IntKind.wrap .i64 (stI L i + ctI L i) else n.int)) (0:Nat) xs)=true)∧k (Ex.exit 2) (St.mk [(5,.own 2558)] [(2558,.arr 3 (addR (coverR (List.drop (Int.toNat (IntKind.wrap .i64 (i.int + 1))) L.list)) (0:Nat) (addR (inI (bif decide (stI L i < 0) then (0:Int) else stI L i) (bif decide ((bif decide (IntKind.wrap .i64 (stI L i + ctI L i) < 0) then (0:Int) else IntKind.wrap .i64 (stI L i + ctI L i)) < n.int) then bif decide (IntKind.wrap .i64 (stI L i + ctI L i) < 0) then (0:Int) else IntKind.wrap .i64 (stI L i + ctI L i) else n.int)) (0:Nat) xs)))]) else False else bif decide (stI L i > 0) then bif decide (ctI L i ≥ IntKind.wrap .i64 (n.int - stI L i)) then (2558=nat_lit 2558∧nat_lit 3=nat_lit 3∧LNC=LNC∧((0:Int)≤bif decide (stI L i < 0) then (0:Int) else stI L i)∧n.int≤(xs.length:Int)∧List.length xs≤(65536:Nat)∧nrmR xs∧bndR 4611686018427387904 (List.drop (Int.toNat (bif decide (stI L i < 0) then (0:Int) else stI L i)) xs)=true)∧bif Nat.blt (μ [vi (U.i (IntKind.wrap .i64 (i.int + 1))),vi m,.val (.sl true LNC) L,.own 2558,vi n] [.arr 3 (addR (inI (bif decide (stI L i < 0) then (0:Int) else stI L i) n.int) (0:Nat) xs)]) N then (2558=nat_lit 2558∧nat_lit 3=nat_lit 3∧LNC=LNC∧m.int=(L.list.length:Int)∧(0:Int)≤IntKind.wrap .i64 (i.int + 1)∧IntKind.wrap .i64 (i.int + 1)≤(L.list.length:Int)∧L.list.length≤(1073741824:Nat)∧n.int=(↑(List.length (addR (inI (bif decide (stI L i < 0) then (0:Int) else stI L i) n.int) (0:Nat) xs)):Int)∧List.length (addR (inI (bif decide (stI L i < 0) then (0:Int) else stI L i) n.int) (0:Nat) xs)≤(65536:Nat)∧nrmR (addR (inI (bif decide (stI L i < 0) then (0:Int) else stI L i) n.int) (0:Nat) xs)∧fitL (List.drop (Int.toNat (IntKind.wrap .i64 (i.int + 1))) L.list)=true∧bndR ((1:Int) + IntKind.wrap .i64 (i.int + 1)) (addR (inI (bif decide (stI L i < 0) then (0:Int) else stI L i) n.int) (0:Nat) xs)=true)∧k (Ex.exit 2) (St.mk [(5,.own 2558)] [(2558,.arr 3 (addR (coverR (List.drop (Int.toNat (IntKind.wrap .i64 (i.int + 1))) L.list)) (0:Nat) (addR (inI (bif decide (stI L i < 0) then (0:Int) else stI L i) n.int) (0:Nat) xs)))]) else False else (2558=nat_lit 2558∧nat_lit 3=nat_lit 3∧LNC=LNC∧((0:Int)≤bif decide (stI L i < 0) then (0:Int) else stI L i)∧n.int≤(xs.length:Int)∧List.length xs≤(65536:Nat)∧nrmR xs∧bndR 4611686018427387904 (List.drop (Int.toNat (bif decide (stI L i < 0) then (0:Int) else stI L i)) xs)=true)∧bif Nat.blt (μ [vi (U.i (IntKind.wrap .i64 (i.int + 1))),vi m,.val (.sl true LNC) L,.own 2558,vi n] [.arr 3 (addR (inI (bif decide (stI L i < 0) then (0:Int) else stI L i) n.int) (0:Nat) xs)]) N then (2558=nat_lit 2558∧nat_lit 3=nat_lit 3∧LNC=LNC∧m.int=(L.list.length:Int)∧(0:Int)≤IntKind.wrap .i64 (i.int + 1)∧IntKind.wrap .i64 (i.int + 1)≤(L.list.length:Int)∧L.list.length≤(1073741824:Nat)∧n.int=(↑(List.length (addR (inI (bif decide (stI L i < 0) then (0:Int) else stI L i) n.int) (0:Nat) xs)):Int)∧List.length (addR (inI (bif decide (stI L i < 0) then (0:Int) else stI L i) n.int) (0:Nat) xs)≤(65536:Nat)∧nrmR (addR (inI (bif decide (stI L i < 0) then (0:Int) else stI L i) n.int) (0:Nat) xs)∧fitL (List.drop (Int.toNat (IntKind.wrap .i64 (i.int + 1))) L.list)=true∧bndR ((1:Int) + IntKind.wrap .i64 (i.int + 1)) (addR (inI (bif decide (stI L i < 0) then (0:Int) else stI L i) n.int) (0:Nat) xs)=true)∧k (Ex.exit 2) (St.mk [(5,.own 2558)] [(2558,.arr 3 (addR (coverR (List.drop (Int.toNat (IntKind.wrap .i64 (i.int + 1))) L.list)) (0:Nat) (addR (inI (bif decide (stI L i < 0) then (0:Int) else stI L i) n.int) (0:Nat) xs)))]) else False else (2558=nat_lit 2558∧nat_lit 3=nat_lit 3∧LNC=LNC∧((0:Int)≤bif decide (stI L i < 0) then (0:Int) else stI L i)∧n.int≤(xs.length:Int)∧List.length xs≤(65536:Nat)∧nrmR xs∧bndR 4611686018427387904 (List.drop (Int.toNat (bif decide (stI L i < 0) then (0:Int) else stI L i)) xs)=true)∧bif Nat.blt (μ [vi (U.i (IntKind.wrap .i64 (i.int + 1))),vi m,.val (.sl true LNC) L,.own 2558,vi n] [.arr 3 (addR (inI (bif decide (stI L i < 0) then (0:Int) else stI L i) n.int) (0:Nat) xs)]) N then (2558=nat_lit 2558∧nat_lit 3=nat_lit 3∧LNC=LNC∧m.int=(L.list.length:Int)∧(0:Int)≤IntKind.wrap .i64 (i.int + 1)∧IntKind.wrap .i64 (i.int + 1)≤(L.list.length:Int)∧L.list.length≤(1073741824:Nat)∧n.int=(↑(List.length (addR (inI (bif decide (stI L i < 0) then (0:Int) else stI L i) n.int) (0:Nat) xs)):Int)∧List.length (addR (inI (bif decide (stI L i < 0) then (0:Int) else stI L i) n.int) (0:Nat) xs)≤(65536:Nat)∧nrmR (addR (inI (bif decide (stI L i < 0) then (0:Int) else stI L i) n.int) (0:Nat) xs)∧fitL (List.drop (Int.toNat (IntKind.wrap .i64 (i.int + 1))) L.list)=true∧bndR ((1:Int) + IntKind.wrap .i64 (i.int + 1)) (addR (inI (bif decide (stI L i < 0) then (0:Int) else stI L i) n.int) (0:Nat) xs)=true)∧k (Ex.exit 2) (St.mk [(5,.own 2558)] [(2558,.arr 3 (addR (coverR (List.drop (Int.toNat (IntKind.wrap .i64 (i.int + 1))) L.list)) (0:Nat) (addR (inI (bif decide (stI L i < 0) then (0:Int) else stI L i) n.int) (0:Nat) xs)))]) else False else False else k (Ex.exit 2) (St.mk [(5,.own 2558)] [(2558,.arr 3 xs)])):=by kernel_rfl
theorem of_tree (R:RF) (c sz bk T S M Q n:U):(run ofC Try.f40 [[c,sz,bk,T,S,M,Q],[n]] R)=(bif decide (n.int < 0) then R [[U.l []]] else bif decide (n.int > 65536) then R [[U.l []]] else bif decide ((0:Int)≤n.int∧n.int≤n.int∧n.int≤(↑room:Int)) then (2558=nat_lit 2558∧nat_lit 3=nat_lit 3∧EC=EC∧[Ct.str,.int .i64,Ct.sl false [Ct.sl true EC]]=[.str,.int .i64,Ct.sl false [.sl true EC]]∧[Ct.str,Ct.bool,Ct.sl true [.int .i64,.int .i64]]=[.str,Ct.bool,Ct.sl true [.int .i64,.int .i64]]∧nat_lit 256=nat_lit 256∧nat_lit 0=nat_lit 0∧(0:Int)≤0∧(bif decide ((2:Int) < n.int) then (2:Int) else n.int)≤(↑(List.length (List.replicate (Int.toNat n.int) (U.i 0))):Int)∧List.length (List.replicate (Int.toNat n.int) (U.i 0))≤(65536:Nat)∧nrmR (List.replicate (Int.toNat n.int) (U.i 0))∧bndR 1000 (List.drop (Int.toNat 0) (List.replicate (Int.toNat n.int) (U.i 0)))=true)∧eachP [[c,sz,bk,T,S,M,Q]]∧(2558=nat_lit 2558∧nat_lit 3=nat_lit 3∧LNC=LNC∧(↑(List.length (linesOf (U.i (-1:Int)) T.list ++ shotLines 0 S.list)):Int)=(↑(List.length (linesOf (U.i (-1:Int)) T.list ++ shotLines 0 S.list)):Int)∧(0:Int)≤0∧(0:Int)≤(↑(List.length (linesOf (U.i (-1:Int)) T.list ++ shotLines 0 S.list)):Int)∧List.length (linesOf (U.i (-1:Int)) T.list ++ shotLines 0 S.list)≤(1073741824:Nat)∧n.int=(↑(List.length (addR (inI 0 (bif decide ((2:Int) < n.int) then (2:Int) else n.int)) (0:Nat) (List.replicate (Int.toNat n.int) (U.i 0)))):Int)∧List.length (addR (inI 0 (bif decide ((2:Int) < n.int) then (2:Int) else n.int)) (0:Nat) (List.replicate (Int.toNat n.int) (U.i 0)))≤(65536:Nat)∧nrmR (addR (inI 0 (bif decide ((2:Int) < n.int) then (2:Int) else n.int)) (0:Nat) (List.replicate (Int.toNat n.int) (U.i 0)))∧fitL (List.drop (Int.toNat 0) (linesOf (U.i (-1:Int)) T.list ++ shotLines 0 S.list))=true∧bndR ((1:Int) + 0) (addR (inI 0 (bif decide ((2:Int) < n.int) then (2:Int) else n.int)) (0:Nat) (List.replicate (Int.toNat n.int) (U.i 0)))=true)∧R [[U.l (addR (coverR (List.drop (Int.toNat 0) (linesOf (U.i (-1:Int)) T.list ++ shotLines 0 S.list))) (0:Nat) (addR (inI 0 (bif decide ((2:Int) < n.int) then (2:Int) else n.int)) (0:Nat) (List.replicate (Int.toNat n.int) (U.i 0))))]] else False):=by kernel_rfl
end Go.Mat

namespace Go.Mat
open Go Go.Den Go.Proofs
set_option maxRecDepth 100000
@[simp] theorem addR_len (f:Nat→Int):∀ (k:Nat) (xs:List U),(addR f k xs).length=xs.length
 | _,[]=>rfl
 | k,_ :: r=>by rw [addR,List.length_cons,List.length_cons,addR_len f (k + 1) r]
theorem addR_congr {f g:Nat→Int}:∀ (k:Nat) (xs:List U),(∀ j,k≤j→j < k + xs.length→f j=g j)→addR f k xs=addR g k xs
 | _,[],_=>rfl
 | k,x :: r,h=>by
  rw [addR,addR,h k (Nat.le_refl _) (by simp),addR_congr (k + 1) r fun j h1 h2=>h j (by omega) (by simp only [List.length_cons];omega)]
theorem addR_add {f g:Nat→Int}:∀ (k:Nat) (xs:List U),addR g k (addR f k xs)=addR (fun j=>f j + g j) k xs
 | _,[]=>rfl
 | k,x :: r=>by
  rw [addR,addR,addR,addR_add (k + 1) r]
  simp only [U.int_i,Int.add_assoc]
theorem nrm_add (f:Nat→Int) (xs:List U):nrmR (addR f 0 xs):=by
 unfold nrmR
 rw [addR_add]
 exact addR_congr 0 xs fun j _ _=>by omega
theorem addR_zero {f:Nat→Int} {xs:List U} (hn:nrmR xs) (h:∀ j,j < xs.length→f j=0):addR f 0 xs=xs:=by
 unfold nrmR at hn
 rw [addR_congr (g:=fun _=>0) 0 xs fun j _ h2=>h j (by omega)]
 exact hn.symm
theorem addR_set {f g:Nat→Int}:∀ (k i:Nat) (xs:List U),i < xs.length→(∀ j,j≠k + i→f j=g j)→addR f k (xs.set i (.i ((U.at xs i).int + 1)))=addR (fun j=>g j + (if j=k + i then f j + 1 - g j else 0)) k xs
 | _,_,[],h,_=>by simp at h
 | k,0,x :: r,_,hfg=>by
  show addR f k (.i (x.int + 1) :: r)=_
  rw [addR,addR]
  congr 1
  ·simp only [U.int_i,Nat.add_zero,if_true]
   congr 1
   omega
  ·refine addR_congr (k + 1) r fun j h1 _=>?_
   rw [if_neg (by omega),hfg j (by omega)]
   omega
 | k,i + 1,x :: r,h,hfg=>by
  show addR f k (x :: r.set i (.i ((U.at r i).int + 1)))=_
  rw [addR,addR,addR_set (f:=f) (g:=g) (k + 1) i r (by simpa using h) fun j hj=>hfg j (by omega)]
  congr 1
  ·rw [if_neg (by omega),hfg k (by omega),Int.add_zero]
  ·refine addR_congr (k + 1) r fun j _ _=>?_
   rw [show k + 1 + i=k + (i + 1) by omega]
theorem inI_step {i e:Int} (h0:0≤i) (hlt:i < e) {xs:List U} (hi:i.toNat < xs.length):addR (inI (i + 1) e) 0 (xs.set i.toNat (.i ((U.at xs i.toNat).int + 1)))=addR (inI i e) 0 xs:=by
 rw [addR_set (g:=inI i e) 0 i.toNat xs hi fun j hj=>?_]
 ·refine addR_congr 0 xs fun j _ _=>?_
  by_cases hj:j=0 + i.toNat
  ·rw [if_pos hj]
   unfold inI
   rw [decide_eq_false (by omega:¬ i + 1≤(j:Int)),decide_eq_true (by omega:i≤(j:Int)),decide_eq_true (by omega:(j:Int) < e)]
   rfl
  ·rw [if_neg hj,Int.add_zero]
 ·unfold inI
  by_cases h1:i≤(j:Int)
  ·rw [decide_eq_true h1,decide_eq_true (by omega:i + 1≤(j:Int))]
  ·rw [decide_eq_false h1,decide_eq_false (by omega:¬ i + 1≤(j:Int))]
theorem nrm_set {xs:List U} (hn:nrmR xs) (i:Nat) (z:Int):nrmR (xs.set i (.i z)):=by
 have key:∀ (k i:Nat) (xs:List U),xs=addR (fun _=>0) k xs→xs.set i (.i z)=addR (fun _=>0) k (xs.set i (.i z)):=by
  intro k i xs
  induction xs generalizing k i with
  | nil=>intro _;rfl
  | cons x r ih=>
   intro h
   rw [addR] at h
   injection h with h1 h2
   cases i with
   | zero=>
    show U.i z :: r=addR _ k (U.i z :: r)
    rw [addR,← h2]
    simp
   | succ i=>
    show x :: r.set i (.i z)=addR _ k (x :: r.set i (.i z))
    rw [addR,← h1,← ih (k + 1) i h2]
 exact key 0 i xs hn
theorem patch_one (y z:U):nth (U.i 0) (patchU [y] 0 [z]) 0=z:=rfl
theorem bnd_drop_set {b:Int} {xs:List U} {i:Nat} {z:U} (h:bndR b (xs.drop i)=true):bndR b ((xs.set i z).drop (i + 1))=true:=by
 refine List.all_eq_true.2 fun x hx=>?_
 rw [List.drop_set_of_lt (by omega)] at hx
 exact List.all_eq_true.1 h x (by
  have:(xs.drop (i + 1))=(xs.drop i).drop 1:=by rw [List.drop_drop]
  rw [this] at hx
  exact List.mem_of_mem_drop hx)
theorem bnd_head {b:Int} {xs:List U} {i:Nat} (h:bndR b (xs.drop i)=true) (hi:i < xs.length):0≤(U.at xs i).int∧(U.at xs i).int≤b:=by
 have hm:U.at xs i ∈ xs.drop i:=by rw [drop_at hi];exact List.mem_cons_self ..
 have:=List.all_eq_true.1 h _ hm
 simpa using this
theorem of_loop0:LoopOk ofC 0 (loopBody Try.f40 0):=by
 refine loopOk_of (F:=ofLoop0) (ts:=[22,21,5,1,2]) (os:=[2558,256]) rfl (fun svs _=>match svs with | .val _ i :: .val _ m :: _=>(m.int - i.int).toNat | _=>0) ?_
 intro pan svs os k ho1 ho2 h
 unfold ofLoop0 at h
 split at h
 ·rename_i i m o n pp po t xs c sz bk x1 T x2 S x3 M Q
  obtain ⟨⟨rfl,rfl,rfl,rfl,rfl,rfl,rfl,h0,hm,hx,hn,hb⟩,hk⟩:=h
  refine .eq (of_round0 pan _ _ k i m n c sz bk T S M Q xs) ?_
  refine bd (fun hlt=>?_) (fun hlt=>?_)
  ·have hi:i.int.toNat < xs.length:=by omega
   obtain ⟨b1,b2⟩:=bnd_head hb hi
   have hwi:IntKind.wrap .i64 (i.int + 1)=i.int + 1:=i64_in (by omega) (by omega)
   have hc:(i.int + 1).toNat=i.int.toNat + 1:=by omega
   have hwx:IntKind.wrap .i64 ((U.at xs i.int.toNat).int + 1)=(U.at xs i.int.toNat).int + 1:=i64_in (by omega) (by omega)
   refine dt ⟨h0,by omega⟩ (blt hi (dt ⟨h0,by omega⟩ (blt hi ?_)))
   rw [patch_one,hwi,hc,hwx]
   refine blt (by simp only [U.int_i];omega) ⟨⟨by trivial,by trivial,by trivial,by trivial,by trivial,by trivial,by trivial,by omega,?_,?_,nrm_set hn _ _,bnd_drop_set hb⟩,?_⟩
   ·rw [List.length_set];exact hm
   ·rw [List.length_set];exact hx
   ·rw [inI_step h0 hlt hi]
    exact hk
  ·rw [addR_zero hn fun j hj=>?_] at hk
   ·exact hk
   ·unfold inI
    by_cases h1:i.int≤(j:Int)
    ·rw [decide_eq_false (by omega:¬ (j:Int) < m.int),Bool.and_false];rfl
    ·rw [decide_eq_false h1];rfl
 ·exact h.elim
theorem of_loop4:LoopOk ofC 4 (loopBody Try.f40 2):=by
 refine loopOk_of (F:=ofLoop4) (ts:=[11,10,5,35,34,33,1]) (os:=[2558]) rfl (fun svs _=>match svs with | .val _ i :: .val _ m :: _=>(m.int - i.int).toNat | _=>0) ?_
 intro pan svs os k ho1 ho2 h
 unfold ofLoop4 at h
 split at h
 ·rename_i i m o j n2 lc L n t xs
  obtain ⟨⟨rfl,rfl,rfl,h0,hm,hx,hn,hb⟩,hk⟩:=h
  refine .eq (of_round4 pan _ _ k i m j n2 L n xs) ?_
  refine bd (fun hlt=>?_) (fun hlt=>?_)
  ·have hi:i.int.toNat < xs.length:=by omega
   obtain ⟨b1,b2⟩:=bnd_head hb hi
   have hwi:IntKind.wrap .i64 (i.int + 1)=i.int + 1:=i64_in (by omega) (by omega)
   have hc:(i.int + 1).toNat=i.int.toNat + 1:=by omega
   have hwx:IntKind.wrap .i64 ((U.at xs i.int.toNat).int + 1)=(U.at xs i.int.toNat).int + 1:=i64_in (by omega) (by omega)
   refine dt ⟨h0,by omega⟩ (blt hi (dt ⟨h0,by omega⟩ (blt hi ?_)))
   rw [patch_one,hwi,hc,hwx]
   refine blt (by simp only [U.int_i];omega) ⟨⟨by trivial,by trivial,by trivial,by omega,?_,?_,nrm_set hn _ _,bnd_drop_set hb⟩,?_⟩
   ·rw [List.length_set];exact hm
   ·rw [List.length_set];exact hx
   ·rw [inI_step h0 hlt hi]
    exact hk
  ·rw [addR_zero hn fun j hj=>?_] at hk
   ·exact hk
   ·unfold inI
    by_cases h1:i.int≤(j:Int)
    ·rw [decide_eq_false (by omega:¬ (j:Int) < m.int),Bool.and_false];rfl
    ·rw [decide_eq_false h1];rfl
 ·exact h.elim
theorem inI_01 (a b:Int) (j:Nat):0≤inI a b j∧inI a b j≤1:=by
 unfold inI
 cases decide (a≤(j:Int)) && decide ((j:Int) < b)<;>decide
theorem bnd_add {b:Int} {f:Nat→Int}:∀ (k:Nat) (xs:List U),bndR b xs=true→(∀ j,0≤f j∧f j≤1)→bndR (b + 1) (addR f k xs)=true
 | _,[],_,_=>rfl
 | k,x :: r,h,hf=>by
  have h:((decide (0≤x.int) && decide (x.int≤b)) && bndR b r)=true:=h
  simp only [Bool.and_eq_true,decide_eq_true_eq] at h
  obtain ⟨⟨h1,h2⟩,h3⟩:=h
  obtain ⟨f1,f2⟩:=hf k
  show ((decide (0≤(U.i (x.int + f k)).int) && decide ((U.i (x.int + f k)).int≤b + 1)) && bndR (b + 1) (addR f (k + 1) r))=true
  rw [bnd_add (k + 1) r h3 hf,decide_eq_true (by simp only [U.int_i];omega),decide_eq_true (by simp only [U.int_i];omega)]
  rfl
theorem inI_cut {st e hi n:Int} {j:Nat} (hj:(j:Int) < n) (h1:hi≤e) (h2:hi < e→n≤hi):inI st hi j=inI st e j:=by
 unfold inI
 by_cases h:(j:Int) < hi
 ·rw [decide_eq_true h,decide_eq_true (by omega:(j:Int) < e)]
 ·rw [decide_eq_false h,decide_eq_false (by omega:¬ (j:Int) < e)]
theorem of_loop2:LoopOk ofC 2 (loopBody Try.f40 1):=by
 refine loopOk_of (F:=ofLoop2) (ts:=[35,34,33,5,1]) (os:=[2558]) rfl (fun svs _=>match svs with | .val _ i :: .val _ m :: _=>(m.int - i.int).toNat | _=>0) ?_
 intro pan svs os k ho1 ho2 h
 unfold ofLoop2 at h
 split at h
 ·rename_i i m lc L o n t xs
  obtain ⟨⟨rfl,rfl,rfl,hm,h0,hle,hL,hn2,hx,hn,hf,hb⟩,hk⟩:=h
  refine .eq (of_round2 pan _ _ k i m L n xs) ?_
  refine bd (fun hlt=>dt ⟨h0,by omega⟩ ?_) (fun hlt=>?_)
  ·have hi:i.int.toNat < L.list.length:=by omega
   rw [drop_at hi,fitL] at hf
   rw [drop_at hi] at hk
   have hst:stI L i=(lnSt (U.at L.list i.int.toNat)).int:=by unfold stI;simp only [nth_tail]
   have hct:ctI L i=(lnCt (U.at L.list i.int.toNat)).int:=by unfold ctI;simp only [nth_tail]
   rw [← hst,← hct] at hf
   have hk:k (.exit 2) ⟨[(5,.own 2558)],[(2558,.arr 3 (addR (fun j=>inI (lnSt (U.at L.list i.int.toNat)).int ((lnSt (U.at L.list i.int.toNat)).int + (lnCt (U.at L.list i.int.toNat)).int) j + coverR (L.list.drop (i.int.toNat + 1)) j) 0 xs))]⟩:=hk
   rw [← hst,← hct] at hk
   clear hst hct
   generalize stI L i=st at *
   generalize ctI L i=ct at *
   simp only [Bool.and_eq_true,decide_eq_true_eq] at hf
   obtain ⟨⟨⟨⟨hst0,hst1⟩,hct0⟩,hct1⟩,f2⟩:=hf
   have hwi:IntKind.wrap .i64 (i.int + 1)=i.int + 1:=i64_in (by omega) (by omega)
   have hc:(i.int + 1).toNat=i.int.toNat + 1:=by omega
   have hw1:IntKind.wrap .i64 (st + ct)=st + ct:=i64_in (by omega) (by omega)
   have hw2:IntKind.wrap .i64 (n.int - st)=n.int - st:=i64_in (by omega) (by omega)
   have hd1:decide (st < 0)=false:=decide_eq_false (by omega)
   have hd2:decide (st + ct < 0)=false:=decide_eq_false (by omega)
   have hbd:bndR 4611686018427387904 (xs.drop st.toNat)=true:=by
    refine List.all_eq_true.2 fun x hx=>?_
    have:=List.all_eq_true.1 hb x (List.mem_of_mem_drop hx)
    simp only [Bool.and_eq_true,decide_eq_true_eq] at this ⊢
    omega
   rw [hwi,hc,hw1,hw2,hd1,hd2]
   simp only [cond_false]
   have hmin:(bif decide (st + ct < n.int) then st + ct else n.int)≤(xs.length:Int):=by
    by_cases h:st + ct < n.int
    ·rw [decide_eq_true h];simp only [cond_true];omega
    ·rw [decide_eq_false h];simp only [cond_false];omega
   have hmin1:(bif decide (st + ct < n.int) then st + ct else n.int)≤st + ct:=by
    by_cases h:st + ct < n.int
    ·rw [decide_eq_true h];simp only [cond_true];omega
    ·rw [decide_eq_false h];simp only [cond_false];omega
   have hmin2:(bif decide (st + ct < n.int) then st + ct else n.int) < st + ct→n.int≤(bif decide (st + ct < n.int) then st + ct else n.int):=by
    by_cases h:st + ct < n.int
    ·rw [decide_eq_true h];simp only [cond_true];omega
    ·rw [decide_eq_false h];simp only [cond_false];omega
   have hskip:(∀ j:Nat,(j:Int) < n.int→inI st (st + ct) j=0)→k (.exit 2) ⟨[(5,.own 2558)],[(2558,.arr 3 (addR (coverR (L.list.drop (i.int.toNat + 1))) 0 xs))]⟩:=fun h=>by
    rw [addR_congr (g:=coverR (L.list.drop (i.int.toNat + 1))) 0 xs fun j _ hj=>by rw [h j (by omega),Int.zero_add]] at hk
    exact hk
   have hb2:bndR (1 + (i.int + 1)) xs=true:=by
    refine List.all_eq_true.2 fun x hx=>?_
    have:=List.all_eq_true.1 hb x hx
    simp only [Bool.and_eq_true,decide_eq_true_eq] at this ⊢
    omega
   refine bd (fun h1=>?_) (fun h1=>bd (fun h2=>?_) (fun h2=>bd (fun h3=>bd (fun h4=>bd (fun h5=>(by
    refine ⟨⟨by trivial,by trivial,by trivial,hst0,by omega,hx,hn,hbd⟩,blt (by simp only [U.int_i];omega) ⟨⟨by trivial,by trivial,by trivial,hm,by omega,by omega,hL,?_,?_,nrm_add _ _,f2,?_⟩,?_⟩⟩
    ·rw [addR_len];exact hn2
    ·rw [addR_len];exact hx
    ·rw [show (1:Int) + (i.int + 1)=1 + i.int + 1 by omega]
     exact bnd_add 0 xs hb fun j=>inI_01 _ _ j
    ·rw [addR_add]
     rw [addR_congr (g:=fun j=>inI st (st + ct) j + coverR (L.list.drop (i.int.toNat + 1)) j) 0 xs fun j _ hj=>by
      rw [inI_cut (e:=st + ct) (hi:=n.int) (by omega:(j:Int) < n.int) (by omega) (by omega)]]
     exact hk)) (fun h5=>(by
    refine ⟨⟨by trivial,by trivial,by trivial,hst0,hmin,hx,hn,hbd⟩,blt (by simp only [U.int_i];omega) ⟨⟨by trivial,by trivial,by trivial,hm,by omega,by omega,hL,?_,?_,nrm_add _ _,f2,?_⟩,?_⟩⟩
    ·rw [addR_len];exact hn2
    ·rw [addR_len];exact hx
    ·rw [show (1:Int) + (i.int + 1)=1 + i.int + 1 by omega]
     exact bnd_add 0 xs hb fun j=>inI_01 _ _ j
    ·rw [addR_add]
     rw [addR_congr (g:=fun j=>inI st (st + ct) j + coverR (L.list.drop (i.int.toNat + 1)) j) 0 xs fun j _ hj=>by
      rw [inI_cut (e:=st + ct) (hi:=(bif decide (st + ct < n.int) then st + ct else n.int)) (by omega:(j:Int) < n.int) hmin1 hmin2]]
     exact hk))) (fun h4=>(by
    refine ⟨⟨by trivial,by trivial,by trivial,hst0,hmin,hx,hn,hbd⟩,blt (by simp only [U.int_i];omega) ⟨⟨by trivial,by trivial,by trivial,hm,by omega,by omega,hL,?_,?_,nrm_add _ _,f2,?_⟩,?_⟩⟩
    ·rw [addR_len];exact hn2
    ·rw [addR_len];exact hx
    ·rw [show (1:Int) + (i.int + 1)=1 + i.int + 1 by omega]
     exact bnd_add 0 xs hb fun j=>inI_01 _ _ j
    ·rw [addR_add]
     rw [addR_congr (g:=fun j=>inI st (st + ct) j + coverR (L.list.drop (i.int.toNat + 1)) j) 0 xs fun j _ hj=>by
      rw [inI_cut (e:=st + ct) (hi:=(bif decide (st + ct < n.int) then st + ct else n.int)) (by omega:(j:Int) < n.int) hmin1 hmin2]]
     exact hk))) (fun h3=>bd (fun h4=>bd (fun h5=>(by
    refine ⟨⟨by trivial,by trivial,by trivial,hst0,by omega,hx,hn,hbd⟩,blt (by simp only [U.int_i];omega) ⟨⟨by trivial,by trivial,by trivial,hm,by omega,by omega,hL,?_,?_,nrm_add _ _,f2,?_⟩,?_⟩⟩
    ·rw [addR_len];exact hn2
    ·rw [addR_len];exact hx
    ·rw [show (1:Int) + (i.int + 1)=1 + i.int + 1 by omega]
     exact bnd_add 0 xs hb fun j=>inI_01 _ _ j
    ·rw [addR_add]
     rw [addR_congr (g:=fun j=>inI st (st + ct) j + coverR (L.list.drop (i.int.toNat + 1)) j) 0 xs fun j _ hj=>by
      rw [inI_cut (e:=st + ct) (hi:=n.int) (by omega:(j:Int) < n.int) (by omega) (by omega)]]
     exact hk)) (fun h5=>(by
    refine ⟨⟨by trivial,by trivial,by trivial,hst0,by omega,hx,hn,hbd⟩,blt (by simp only [U.int_i];omega) ⟨⟨by trivial,by trivial,by trivial,hm,by omega,by omega,hL,?_,?_,nrm_add _ _,f2,?_⟩,?_⟩⟩
    ·rw [addR_len];exact hn2
    ·rw [addR_len];exact hx
    ·rw [show (1:Int) + (i.int + 1)=1 + i.int + 1 by omega]
     exact bnd_add 0 xs hb fun j=>inI_01 _ _ j
    ·rw [addR_add]
     rw [addR_congr (g:=fun j=>inI st (st + ct) j + coverR (L.list.drop (i.int.toNat + 1)) j) 0 xs fun j _ hj=>by
      rw [inI_cut (e:=st + ct) (hi:=n.int) (by omega:(j:Int) < n.int) (by omega) (by omega)]]
     exact hk))) (fun h4=>(by
    refine ⟨⟨by trivial,by trivial,by trivial,hst0,by omega,hx,hn,hbd⟩,blt (by simp only [U.int_i];omega) ⟨⟨by trivial,by trivial,by trivial,hm,by omega,by omega,hL,?_,?_,nrm_add _ _,f2,?_⟩,?_⟩⟩
    ·rw [addR_len];exact hn2
    ·rw [addR_len];exact hx
    ·rw [show (1:Int) + (i.int + 1)=1 + i.int + 1 by omega]
     exact bnd_add 0 xs hb fun j=>inI_01 _ _ j
    ·rw [addR_add]
     rw [addR_congr (g:=fun j=>inI st (st + ct) j + coverR (L.list.drop (i.int.toNat + 1)) j) 0 xs fun j _ hj=>by
      rw [inI_cut (e:=st + ct) (hi:=n.int) (by omega:(j:Int) < n.int) (by omega) (by omega)]]
     exact hk)))))
   ·refine blt (by simp only [U.int_i];omega) ⟨⟨by trivial,by trivial,by trivial,hm,by omega,by omega,hL,hn2,hx,hn,f2,hb2⟩,hskip fun j hj=>?_⟩
    unfold inI
    by_cases h:st≤(j:Int)
    ·rw [decide_eq_false (by omega:¬ (j:Int) < st + ct),Bool.and_false];rfl
    ·rw [decide_eq_false h];rfl
   ·refine blt (by simp only [U.int_i];omega) ⟨⟨by trivial,by trivial,by trivial,hm,by omega,by omega,hL,hn2,hx,hn,f2,hb2⟩,hskip fun j hj=>?_⟩
    unfold inI
    rw [decide_eq_false (by omega:¬ st≤(j:Int))];rfl
  ·rw [List.drop_of_length_le (by omega)] at hk
   rw [addR_zero (f:=coverR []) hn fun j _=>rfl] at hk
   exact hk
 ·exact h.elim
def linesM (us:List (List U)):List U:=linesOf (.i (-1)) (nth (.i 0) (nth [] us 0) 3).list ++ shotLines 0 (nth (.i 0) (nth [] us 0) 4).list
def ofV (L:List U) (n:Nat):List U:=(List.range n).map fun k=>.i ((if k < 2 then 1 else 0) + coverR L k)
def ofS:List (List U)→List (List U):=fun us=>[[.l (bif decide ((nth (.i 0) (nth [] us 1) 0).int < 0) then [] else bif decide (65536 < (nth (.i 0) (nth [] us 1) 0).int) then [] else ofV (linesM us) (nth (.i 0) (nth [] us 1) 0).int.toNat)]]
def ofP:List (List U)→Prop:=fun us=>eachP us∧fitL (linesM us)=true
theorem shotLines_len:∀ (i:Int) (S:List U),shotsFit S=true→(shotLines i S).length≤524288 * S.length
 | _,[],_=>Nat.le_refl _
 | i,h :: r,hf=>by
  rw [shotsFit] at hf
  simp only [Bool.and_eq_true,decide_eq_true_eq] at hf
  have h1:=linesOf_len (.i i) (nth (.i 0) h.list 2).list
  have h2:=shotLines_len (i + 1) r hf.2
  rw [shotLines,List.length_append,List.length_cons]
  omega
theorem addR_rep (f:Nat→Int):∀ (k n:Nat),addR f k (List.replicate n (.i 0))=(List.range' k n).map fun j=>.i (f j)
 | _,0=>rfl
 | k,n + 1=>by
  rw [List.replicate_succ,addR,addR_rep f (k + 1) n,List.range'_succ,List.map_cons]
  simp only [U.int_i,Int.zero_add]
theorem of_ok:SpecFP PR 40 ofP ofS:=fun fn us hfn hpre=>by
 have hf:PR.funcs[(40:Nat)]? = some Try.f40:=by kernel_rfl
 rw [hf] at hfn;cases hfn
 refine fn_okH (C:=ofC) (mkC_ok eqs0_ok mixed_ok (.consP each_ok .nil) .nil) hf (by kernel_rfl) (loops_three (by kernel_rfl) of_loop0 of_loop2 of_loop4) fun hok=>?_
 have hp:Try.f40.params.toList=[41,3]:=by kernel_rfl
 rw [hp] at hok
 obtain ⟨u,u2,rfl,h1,h2⟩:=shape2 (by kernel_rfl:Cs PR 41=some (true,[.int .i64,.int .i64,.str,.sl false [.sl true EC],.sl true SC,.sl true BC,.sl false [.int .i64]])) (by kernel_rfl:Cs PR 3=some (false,[.int .i64])) hok.1
 obtain ⟨c,sz,bk,T,S,M,Q,rfl⟩:∃ a b c d e f g,u=[a,b,c,d,e,f,g]:=match u,h1 with | [a,b,c,d,e,f,g],_=>⟨a,b,c,d,e,f,g,rfl⟩
 obtain ⟨n,rfl⟩:=len1 h2
 obtain ⟨hE,hfit⟩:=hpre
 obtain ⟨e1,e2,e3⟩:T.list.length≤65536∧S.list.length≤1000∧shotsFit S.list=true:=hE
 have hfit:fitL (linesOf (.i (-1)) T.list ++ shotLines 0 S.list)=true:=hfit
 have hlen:(linesOf (.i (-1)) T.list ++ shotLines 0 S.list).length≤1073741824:=by
  have h1:=linesOf_len (.i (-1)) T.list
  have h2:=shotLines_len 0 S.list e3
  rw [List.length_append]
  omega
 refine .eq (of_tree _ c sz bk T S M Q n) ?_
 rw [show ofS [[c,sz,bk,T,S,M,Q],[n]]=[[.l (bif decide (n.int < 0) then [] else bif decide (65536 < n.int) then [] else ofV (linesOf (.i (-1)) T.list ++ shotLines 0 S.list) n.int.toNat)]] from rfl]
 generalize linesOf (.i (-1)) T.list ++ shotLines 0 S.list=L at hfit hlen
 refine bd (fun h1=>by rw [decide_eq_true h1];rfl) (fun h1=>bd (fun h2=>by rw [decide_eq_false h1,decide_eq_true (by omega:65536 < n.int)];rfl) (fun h2=>?_))
 rw [decide_eq_false h1,decide_eq_false (by omega:¬ 65536 < n.int)]
 obtain ⟨m,hm⟩:∃ m:Nat,n.int=(m:Int):=⟨n.int.toNat,by omega⟩
 simp only [cond_false,Int.toNat_zero,List.drop_zero,hm,Int.toNat_natCast,List.length_replicate,addR_len]
 refine dt ⟨by omega,by omega,by unfold room;omega⟩ ⟨⟨by trivial,by trivial,by trivial,by trivial,by trivial,by trivial,by trivial,by omega,?_,by omega,?_,?_⟩,⟨e1,e2,e3⟩,⟨by trivial,by trivial,by trivial,by trivial,by omega,by omega,hlen,by trivial,by omega,nrm_add _ _,hfit,?_⟩,?_⟩
 ·by_cases h:(2:Int) < m
  ·rw [decide_eq_true h];simp only [cond_true];omega
  ·rw [decide_eq_false h];simp only [cond_false];omega
 ·unfold nrmR
  rw [addR_rep,List.map_const',List.length_range']
 ·refine List.all_eq_true.2 fun x hx=>?_
  rw [(List.mem_replicate.1 hx).2]
  rfl
 ·rw [Int.add_zero,show (1:Int)=0 + 1 from rfl]
  refine bnd_add 0 _ (List.all_eq_true.2 fun x hx=>?_) fun j=>inI_01 _ _ j
  rw [(List.mem_replicate.1 hx).2]
  rfl
 ·rw [addR_add,addR_rep]
  unfold ofV
  rw [List.range_eq_range']
  show [[U.l _]]=[[U.l _]]
  congr 3
  refine List.map_congr_left fun k hk=>?_
  have hk:k < m:=by
   have:=List.mem_range'_1.1 hk
   omega
  congr 2
  unfold inI
  rw [decide_eq_true (by omega:(0:Int)≤(k:Int))]
  by_cases h2:(2:Int) < m
  ·rw [decide_eq_true h2]
   simp only [cond_true,Bool.true_and]
   by_cases h:k < 2
   ·rw [if_pos h,decide_eq_true (by omega:(k:Int) < 2)];rfl
   ·rw [if_neg h,decide_eq_false (by omega:¬ (k:Int) < 2)];rfl
  ·rw [decide_eq_false h2]
   simp only [cond_false,Bool.true_and]
   rw [if_pos (by omega),decide_eq_true (by omega:(k:Int) < (m:Int))];rfl
end Go.Mat

namespace Go.Mat
open Go Go.Den Go.Proofs
def someS:List (List U)→List (List U):=fun us=>[[.b (!noneR (nth (.i 0) (nth [] us 0) 0).int (nth (.i 0) (nth [] us 0) 1).int (nth (.i 0) (nth [] us 0) 2).int (nth (.i 0) (nth [] us 0) 3).int (nth (.i 0) (nth [] us 0) 4).int)]]
noncomputable def K87:Ctx:=mkC PR eqs0 (fnsCons 65 noneS fnsNil) trsNil noLoops noOut noOut
theorem some_tree (R:RF) (a b c d e:U):(run K87 Try.f75 [[a,b,c,d,e]] R)=(R [[U.b !noneR a.int b.int c.int d.int e.int]]):=by kernel_rfl
def entNone (u:U):Bool:=noneR (nth (.i 0) u.list 0).int (nth (.i 0) u.list 1).int (nth (.i 0) u.list 2).int (nth (.i 0) u.list 3).int (nth (.i 0) u.list 4).int
def anyNN:List U→Bool
 | []=>false
 | u :: r=>bif !entNone u then true else anyNN r
def idxR:Int→List U→Int
 | _,[]=>-1
 | i,u :: r=>bif !entNone u then i else idxR (i + 1) r
noncomputable def ixLoop:LoopF:=fun _ svs os k=>match svs,os with
 | [.val (.int .i64) i,.val (.int .i64) n,.val (.sl true ec) L,.clo f []],[]=>
  (i = .i i.int∧ec=EC∧f=75∧n.int=(L.list.length:Int)∧0≤i.int∧i.int≤(L.list.length:Int))∧
  (bif anyNN (L.list.drop i.int.toNat) then k .ret ⟨[(4,vi (.i (idxR i.int (L.list.drop i.int.toNat))))],[]⟩ else k (.exit 0) ⟨[],[]⟩)
 | _,_=>False
noncomputable def ixC:Ctx:=mkC PR eqs0 (fnsCons 75 someS fnsNil) trsNil (loopCons 0 [8,7,0,1] [] ixLoop noLoops) (outCons 1048576 [4] [] (outCons 0 [] [] noOut)) noOut
theorem ix_round (pan:KP) (μ:Mu) (N:Nat) (k:KE) (i n L:U):(exec (ixC.panics pan) (loopBody Try.f80 0) 0 ⟨[(8,vi i),(7,vi n),(0,vt EC L),(1,.clo 75 [])],[]⟩ (again PR (some ([],[])) (some ([4],[])) pan [8,7,0,1] [] ixLoop μ N k))=(bif decide (i.int < n.int) then bif decide ((0:Int)≤i.int∧i.int < (L.list.length:Int)) then bif !noneR (U.int (nth (U.i 0) (U.list (nth (U.i 0) L.list (Int.toNat i.int))) (0:Nat))) (U.int (nth (U.i 0) (List.tail (U.list (nth (U.i 0) L.list (Int.toNat i.int)))) (0:Nat))) (U.int (nth (U.i 0) (List.tail (List.tail (U.list (nth (U.i 0) L.list (Int.toNat i.int))))) (0:Nat))) (U.int (nth (U.i 0) (List.tail (List.tail (List.tail (U.list (nth (U.i 0) L.list (Int.toNat i.int)))))) (0:Nat))) (U.int (nth (U.i 0) (List.tail (List.tail (List.tail (List.tail (U.list (nth (U.i 0) L.list (Int.toNat i.int))))))) (0:Nat))) then k Ex.ret (St.mk [(4,vi i)] []) else bif Nat.blt (μ [vi (U.i (IntKind.wrap .i64 (i.int + 1))),vi n,.val (.sl true EC) L,.clo 75 []] []) N then (U.i (IntKind.wrap .i64 (i.int + 1))=U.i (IntKind.wrap .i64 (i.int + 1))∧EC=EC∧nat_lit 75=nat_lit 75∧n.int=(L.list.length:Int)∧(0:Int)≤IntKind.wrap .i64 (i.int + 1)∧IntKind.wrap .i64 (i.int + 1)≤(L.list.length:Int))∧bif anyNN (List.drop (Int.toNat (IntKind.wrap .i64 (i.int + 1))) L.list) then k Ex.ret (St.mk [(4,vi (U.i (idxR (IntKind.wrap .i64 (i.int + 1)) (List.drop (Int.toNat (IntKind.wrap .i64 (i.int + 1))) L.list))))] []) else k (Ex.exit 0) (St.mk [] []) else False else False else k (Ex.exit 0) (St.mk [] [])):=by kernel_rfl
theorem ix_tree (R:RT) (L:U):(runD ixC Try.f80 [vt EC L,.clo 75 []] [] R)=((U.i (0:Int)=U.i 0∧EC=EC∧nat_lit 75=nat_lit 75∧(↑(List.length L.list):Int)=(↑(List.length L.list):Int)∧(0:Int)≤0∧(0:Int)≤(↑(List.length L.list):Int))∧bif anyNN (List.drop
 (Int.toNat 0) L.list) then R (Out.ret [vi (U.i (idxR 0 (List.drop (Int.toNat 0) L.list)))]) [] else R (Out.ret [vi (U.i (-1:Int))]) []):=by kernel_rfl
noncomputable def ixF:Tr:=fun vs objs k=>match vs,objs with
 | [.val (.sl true ec) L,.clo f []],[]=>(ec=EC∧f=75)∧k (.ret [vi (.i (idxR 0 L.list))]) []
 | _,_=>False
noncomputable def cfC:Ctx:=mkC PR eqs0 fnsNil (trsCons 80 [] ixF trsNil) noLoops noOut noOut
theorem cf_tree (R:RT) (L:U):(runD cfC Try.f74 [vt EC L,.clo 75 []] [] R)=((EC=EC∧nat_lit 75=nat_lit 75)∧R (Out.ret [SV.val Ct.bool (U.b (decide (idxR 0 L.list ≥ 0)))]) []):=by kernel_rfl
noncomputable def cfF:Tr:=fun vs objs k=>match vs,objs with
 | [.val (.sl true ec) L,.clo f []],[]=>(ec=EC∧f=75)∧k (.ret [vb (.b (anyNN L.list))]) []
 | _,_=>False
def fitsFrom (T:List U) (a b d e g:Int):Nat→Int→Bool
 | 0,_=>false
 | n + 1,c=>bif mayR a b d e g c then (bif tableR T 4096 c then true else fitsFrom T a b d e g n (c + 1)) else fitsFrom T a b d e g n (c + 1)
def anyS:List (List U)→List (List U):=fun us=>[[.b (fitsFrom (nth (.i 0) (nth [] us 0) 0).list (nth (.i 0) (nth [] us 1) 0).int (nth (.i 0) (nth [] us 1) 1).int (nth (.i 0) (nth [] us 1) 2).int (nth (.i 0) (nth [] us 1) 3).int (nth (.i 0) (nth [] us 1) 4).int 7 0)]]
noncomputable def arLoop:LoopF:=fun _ svs os k=>match svs,os with
 | [.val (.int .i64) i,.ptr p2 o2,.ptr p3 o3],[.box [.val (.sl false [.sl true ec]) T],.box [.val (.int .i64) a,.val (.int .i64) b,.val (.int .i64) d,.val (.int .i64) e,.val (.int .u32) g]]=>
  (ec=EC∧p2=256∧o2=0∧p3=384∧o3=0∧0≤i.int∧i.int≤7)∧
  (bif fitsFrom T.list a.int b.int d.int e.int g.int (7 - i.int).toNat i.int then k .ret ⟨[(4,vb (.b true))],[]⟩ else k (.exit 0) ⟨[],[]⟩)
 | _,_=>False
noncomputable def arC:Ctx:=mkC PR eqs0 (fnsCons 23 mayS (fnsCons 58 tableS fnsNil)) trsNil (loopCons 0 [6,2,3] [256,384] arLoop noLoops) (outCons 1048576 [4] [] (outCons 0 [] [] noOut)) noOut
theorem ar_round (pan:KP) (μ:Mu) (N:Nat) (k:KE) (i T a b d e g:U):(exec (arC.panics pan) (loopBody Try.f73 0) 0 ⟨[(6,vi i),(2,.ptr 256 0),(3,.ptr 384 0)],[(256,.box [.val TRC T]),(384,.box [vi a,vi b,vi d,vi e,.val (.int .u32) g])]⟩ (again PR (some ([],[])) (some ([4],[])) pan [6,2,3] [256,384] arLoop μ N k))=(bif decide (i.int < 7) then bif mayR a.int b.int d.int e.int g.int i.int then bif tableR T.list 4096 i.int then k Ex.ret (St.mk [(4,.val .bool (U.b true))] []) else bif Nat.blt (μ [vi (U.i (IntKind.wrap .i64 (i.int + 1))),.ptr 256 0,.ptr 384 0] [.box [.val (.sl false [.sl true EC]) T],.box [vi a,vi b,vi d,vi e,.val (.int .u32) g]]) N then (EC=EC∧nat_lit 256=nat_lit 256∧nat_lit 0=nat_lit 0∧nat_lit 384=nat_lit 384∧nat_lit 0=nat_lit 0∧(0:Int)≤IntKind.wrap .i64 (i.int + 1)∧IntKind.wrap .i64 (i.int + 1)≤7)∧bif fitsFrom T.list a.int b.int d.int e.int g.int (Int.toNat ((7:Int) - IntKind.wrap .i64 (i.int + 1))) (IntKind.wrap .i64 (i.int + 1)) then k Ex.ret (St.mk [(4,.val .bool (U.b true))] []) else k (Ex.exit 0) (St.mk [] []) else False else bif Nat.blt (μ [vi (U.i (IntKind.wrap .i64 (i.int + 1))),.ptr 256 0,.ptr 384 0] [.box [.val (.sl false [.sl true EC]) T],.box [vi a,vi b,vi d,vi e,.val (.int .u32) g]]) N then (EC=EC∧nat_lit 256=nat_lit 256∧nat_lit 0=nat_lit 0∧nat_lit 384=nat_lit 384∧nat_lit 0=nat_lit 0∧(0:Int)≤IntKind.wrap .i64 (i.int + 1)∧IntKind.wrap .i64 (i.int + 1)≤7)∧bif fitsFrom T.list a.int b.int d.int e.int g.int (Int.toNat ((7:Int) - IntKind.wrap .i64 (i.int + 1))) (IntKind.wrap .i64 (i.int + 1)) then k Ex.ret (St.mk [(4,.val .bool (U.b true))] []) else k (Ex.exit 0) (St.mk [] []) else False else k (Ex.exit 0) (St.mk [] [])):=by kernel_rfl
theorem ar_tree (R:RF) (T a b d e g:U):(run arC Try.f73 [[T],[a,b,d,e,g]] R)=((EC=EC∧nat_lit 256=nat_lit 256∧nat_lit 0=nat_lit 0∧nat_lit 384=nat_lit 384∧nat_lit 0=nat_lit 0∧(0:Int)≤0∧(0:Int)≤7)∧bif fitsFrom T.list a.int b.int d.int e.int g.int (Int.toNat
 ((7:Int) - 0)) 0 then R [[U.b true]] else R [[U.b false]]):=by kernel_rfl
end Go.Mat

namespace Go.Mat
open Go Go.Den Go.Proofs
set_option maxRecDepth 100000
theorem some_ok:SpecF PR 75 someS:=fun fn us hfn=>by
 have hf:PR.funcs[(75:Nat)]? = some Try.f75:=by kernel_rfl
 rw [hf] at hfn;cases hfn
 refine fn_okH (C:=K87) (mkC_ok eqs0_ok mixed_ok (.cons none_ok .nil) .nil) hf (by kernel_rfl) (loops_none (by kernel_rfl)) fun hok=>?_
 have hp:Try.f75.params.toList=[24]:=by kernel_rfl
 rw [hp] at hok
 obtain ⟨u,rfl,h1⟩:=shape1 (by kernel_rfl:Cs PR 24=some (true,EC)) hok.1
 obtain ⟨a,b,c,d,e,rfl⟩:=len5 h1
 exact .eq (some_tree _ a b c d e) rfl
theorem idxR_neg:∀ (i:Int) (L:List U),anyNN L=false→idxR i L = -1
 | _,[],_=>rfl
 | i,u :: r,h=>by
  rw [anyNN] at h
  rw [idxR]
  cases hu:!entNone u with
  | true=>rw [hu] at h;cases h
  | false=>rw [hu] at h;exact idxR_neg (i + 1) r h
theorem idxR_pos:∀ (i:Int) (L:List U),0≤i→anyNN L=true→0≤idxR i L
 | _,[],_,h=>by cases h
 | i,u :: r,h0,h=>by
  rw [anyNN] at h
  rw [idxR]
  cases hu:!entNone u with
  | true=>exact h0
  | false=>rw [hu] at h;exact idxR_pos (i + 1) r (by omega) h
theorem ix_loop:LoopOk ixC 0 (loopBody Try.f80 0):=by
 refine loopOk_of (F:=ixLoop) (ts:=[8,7,0,1]) (os:=[]) rfl (fun svs _=>match svs with | .val _ i :: .val _ n :: _=>(n.int - i.int).toNat | _=>0) ?_
 intro pan svs os k ho1 ho2 h
 unfold ixLoop at h
 split at h
 ·rename_i i n ec L f
  obtain ⟨⟨hi,rfl,rfl,hn,h0,hle⟩,hk⟩:=h
  refine .eq (ix_round pan _ _ k i n L) ?_
  refine bd (fun hlt=>dt ⟨h0,by omega⟩ ?_) (fun hlt=>?_)
  ·have hL:L.list.length≤maxLen:=ho1.2.2.1.1
   rw [drop_at (by omega),anyNN,idxR] at hk
   have hwi:IntKind.wrap .i64 (i.int + 1)=i.int + 1:=i64_in (by omega) (by unfold maxLen at hL;omega)
   have hc:(i.int + 1).toNat=i.int.toNat + 1:=by omega
   simp only [nth_tail,Nat.zero_add,Nat.reduceAdd]
   refine bi (fun h1=>?_) (fun h1=>?_)
   ·have h1:(!entNone (U.at L.list i.int.toNat))=true:=h1
    rw [h1] at hk
    have hk:k .ret ⟨[(4,vi (.i i.int))],[]⟩:=hk
    rw [← hi] at hk
    exact hk
   ·have h1:(!entNone (U.at L.list i.int.toNat))=false:=h1
    rw [h1] at hk
    rw [hwi,hc]
    exact blt (by simp only [U.int_i];omega) ⟨⟨by trivial,by trivial,by trivial,hn,by omega,by omega⟩,hk⟩
  ·rw [List.drop_of_length_le (by omega)] at hk
   exact hk
 ·exact h.elim
theorem ix_ok:SpecT PR 80 ixF:=fun fn hfn=>by
 have hf:PR.funcs[(80:Nat)]? = some Try.f80:=by kernel_rfl
 rw [hf] at hfn;cases hfn
 refine fnT_okH (C:=ixC) (mkC_ok eqs0_ok mixed_ok (.cons some_ok .nil) .nil) hf (by kernel_rfl) (loops_one (by kernel_rfl) ix_loop) fun vs objs R h1 h2 h=>?_
 clear h1 h2
 unfold ixF at h
 split at h
 ·rename_i ec L f
  obtain ⟨⟨rfl,rfl⟩,h⟩:=h
  refine .eq (ix_tree R L) ⟨⟨by trivial,by trivial,by trivial,by trivial,by omega,by omega⟩,?_⟩
  rw [Int.toNat_zero,List.drop_zero]
  refine bi (fun _=>h) (fun h1=>?_)
  rw [idxR_neg 0 L.list h1] at h
  exact h
 ·exact h.elim
theorem cf_ok:SpecT PR 74 cfF:=fun fn hfn=>by
 have hf:PR.funcs[(74:Nat)]? = some Try.f74:=by kernel_rfl
 rw [hf] at hfn;cases hfn
 refine fnT_okH (C:=cfC) (mkC_ok eqs0_ok mixed_ok .nil (.cons ix_ok .nil)) hf (by kernel_rfl) (loops_none (by kernel_rfl)) fun vs objs R h1 h2 h=>?_
 clear h1 h2
 unfold cfF at h
 split at h
 ·rename_i ec L f
  obtain ⟨⟨rfl,rfl⟩,h⟩:=h
  refine .eq (cf_tree R L) ⟨⟨by trivial,by trivial⟩,?_⟩
  cases hb:anyNN L.list with
  | true=>
   rw [hb] at h
   rw [decide_eq_true (show idxR 0 L.list ≥ 0 from idxR_pos 0 L.list (Int.le_refl _) hb)]
   exact h
  | false=>
   rw [hb] at h
   rw [idxR_neg 0 L.list hb]
   exact h
 ·exact h.elim
theorem ar_loop:LoopOk arC 0 (loopBody Try.f73 0):=by
 refine loopOk_of (F:=arLoop) (ts:=[6,2,3]) (os:=[256,384]) rfl (fun svs _=>match svs with | .val _ i :: _=>(7 - i.int).toNat | _=>0) ?_
 intro pan svs os k ho1 ho2 h
 unfold arLoop at h
 split at h
 ·rename_i i p2 o2 p3 o3 ec T a b d e g
  obtain ⟨⟨rfl,rfl,rfl,rfl,rfl,h0,h7⟩,hk⟩:=h
  refine .eq (ar_round pan _ _ k i T a b d e g) ?_
  refine bd (fun hlt=>?_) (fun hlt=>?_)
  ·obtain ⟨n,hn⟩:∃ n,(7 - i.int).toNat=n + 1:=⟨(6 - i.int).toNat,by omega⟩
   rw [hn,fitsFrom] at hk
   have hwi:IntKind.wrap .i64 (i.int + 1)=i.int + 1:=i64_in (by omega) (by omega)
   have hc:(7 - (i.int + 1)).toNat=n:=by omega
   rw [hwi,hc]
   refine bi (fun h1=>bi (fun h2=>?_) (fun h2=>?_)) (fun h1=>?_)
   ·rw [h1,h2] at hk;exact hk
   ·rw [h1,h2] at hk
    exact blt (by simp only [U.int_i];omega) ⟨⟨by trivial,by trivial,by trivial,by trivial,by trivial,by omega,by omega⟩,hk⟩
   ·rw [h1] at hk
    exact blt (by simp only [U.int_i];omega) ⟨⟨by trivial,by trivial,by trivial,by trivial,by trivial,by omega,by omega⟩,hk⟩
  ·rw [show (7 - i.int).toNat=0 by omega,fitsFrom] at hk
   exact hk
 ·exact h.elim
theorem any_ok:SpecF PR 73 anyS:=fun fn us hfn=>by
 have hf:PR.funcs[(73:Nat)]? = some Try.f73:=by kernel_rfl
 rw [hf] at hfn;cases hfn
 refine fn_okH (C:=arC) (mkC_ok eqs0_ok mixed_ok (.cons may_ok (.cons tab_ok .nil)) .nil) hf (by kernel_rfl) (loops_one (by kernel_rfl) ar_loop) fun hok=>?_
 have hp:Try.f73.params.toList=[36,24]:=by kernel_rfl
 rw [hp] at hok
 obtain ⟨u,u2,rfl,h1,h2⟩:=shape2 (by kernel_rfl:Cs PR 36=some (true,[.sl false [.sl true EC]])) (by kernel_rfl:Cs PR 24=some (true,EC)) hok.1
 obtain ⟨T,rfl⟩:=len1 h1
 obtain ⟨a,b,d,e,g,rfl⟩:=len5 h2
 refine .eq (ar_tree _ T a b d e g) ⟨⟨by trivial,by trivial,by trivial,by trivial,by trivial,by omega,by omega⟩,?_⟩
 rw [show anyS [[T],[a,b,d,e,g]]=[[.b (fitsFrom T.list a.int b.int d.int e.int g.int 7 0)]] from rfl,show Int.toNat (7 - 0)=7 from rfl]
 exact bi (fun h=>by rw [h]) (fun h=>by rw [h])
end Go.Mat

namespace Go.Mat
open Go Go.Den Go.Proofs
theorem at_tree (R:RF) (T i:U):(run K82 Try.f22 [[T],[i]] R)=(bif decide (i.int < 0) then R [[U.i 0,U.i 0,U.i 0,U.i 0,U.i 0]] else bif decide (IntKind.wrap .i64 (Int.tdiv i.int 8) ≥ (T.list.length:Int)) then R [[U.i 0,U.i 0,U.i 0,U.i 0,U.i 0]] else bif decide ((0:Int)≤IntKind.wrap .i64 (Int.tdiv i.int 8)∧IntKind.wrap .i64 (Int.tdiv i.int 8) < (T.list.length:Int)) then bif decide (Int.tmod i.int 8 ≥ (↑(List.length (U.list (nth (U.i 0) T.list (Int.toNat (IntKind.wrap .i64 (Int.tdiv i.int 8)))))):Int)) then R [[U.i 0,U.i 0,U.i 0,U.i 0,U.i 0]] else bif decide ((0:Int)≤IntKind.wrap .i64 (Int.tdiv i.int 8)∧IntKind.wrap .i64 (Int.tdiv i.int 8) < (T.list.length:Int)) then bif decide ((0:Int)≤Int.tmod i.int 8∧Int.tmod i.int (8:Int) < (↑(List.length (U.list (nth (U.i 0) T.list (Int.toNat (IntKind.wrap .i64 (Int.tdiv i.int 8)))))):Int)) then R [[nth (U.i 0) (U.list (nth (U.i 0) (U.list (nth (U.i 0) T.list (Int.toNat (IntKind.wrap .i64 (Int.tdiv i.int 8))))) (Int.toNat (Int.tmod i.int 8)))) (0:Nat),nth (U.i 0) (List.tail (U.list (nth (U.i 0) (U.list (nth (U.i 0) T.list (Int.toNat (IntKind.wrap .i64 (Int.tdiv i.int 8))))) (Int.toNat (Int.tmod i.int 8))))) (0:Nat),nth (U.i 0) (List.tail (List.tail (U.list (nth (U.i 0) (U.list (nth (U.i 0) T.list (Int.toNat (IntKind.wrap .i64 (Int.tdiv i.int 8))))) (Int.toNat (Int.tmod i.int 8)))))) (0:Nat),nth (U.i 0) (List.tail (List.tail (List.tail (U.list (nth (U.i 0) (U.list (nth (U.i 0) T.list (Int.toNat (IntKind.wrap .i64 (Int.tdiv i.int 8))))) (Int.toNat (Int.tmod i.int 8))))))) (0:Nat),nth (U.i 0) (List.tail (List.tail (List.tail (List.tail (U.list (nth (U.i 0) (U.list (nth (U.i 0) T.list (Int.toNat (IntKind.wrap .i64 (Int.tdiv i.int 8))))) (Int.toNat (Int.tmod i.int 8)))))))) (0:Nat)]] else False else False else False):=by kernel_rfl
def rfitsFrom (T:List U) (a b d e g:Int):Nat→Int→Bool
 | 0,_=>false
 | n + 1,c=>bif rtableR T 4096 c then (bif mayR a b d e g c then true else rfitsFrom T a b d e g n (c + 1)) else rfitsFrom T a b d e g n (c + 1)
end Go.Mat

namespace Go.Mat
open Go Go.Den Go.Proofs
set_option maxRecDepth 100000
theorem at_ok:SpecF PR 22 getS:=fun fn us hfn=>by
 have hf:PR.funcs[(22:Nat)]? = some Try.f22:=by kernel_rfl
 rw [hf] at hfn;cases hfn
 refine fn_okH (C:=K82) (mkC_ok eqs0_ok mixed_ok .nil .nil) hf (by kernel_rfl) (loops_none (by kernel_rfl)) fun hok=>?_
 have hp:Try.f22.params.toList=[36,3]:=by kernel_rfl
 rw [hp] at hok
 obtain ⟨u,u2,rfl,h1,h2⟩:=shape2 (by kernel_rfl:Cs PR 36=some (true,[.sl false [.sl true EC]])) (by kernel_rfl:Cs PR 3=some (false,[.int .i64])) hok.1
 obtain ⟨T,rfl⟩:=len1 h1
 obtain ⟨i,rfl⟩:=len1 h2
 have hi:-9223372036854775808≤i.int∧i.int≤9223372036854775807:=(hok.2 [.agg [.val (.sl false [.sl true EC]) T],.val (.int .i64) i] (by rfl)).2.1
 refine .eq (at_tree _ T i) ?_
 rw [show getS [[T],[i]]=[[entF 0 T.list i.int,entF 1 T.list i.int,entF 2 T.list i.int,entF 3 T.list i.int,entF 4 T.list i.int]] from rfl]
 unfold entF entU
 refine bd (fun h0=>by rw [decide_eq_true h0];rfl) (fun h0=>?_)
 rw [decide_eq_false h0]
 have hw:IntKind.wrap .i64 (Int.tdiv i.int 8)=((i.int.toNat / 8:Nat):Int):=by
  rw [tdiv8 (by omega)];exact i64_in (by omega) (by omega)
 rw [hw,tmod8 (by omega)]
 simp only [Int.toNat_natCast,cond_false]
 refine bd (fun h3=>?_) (fun h3=>dt ⟨by omega,by omega⟩ (bd (fun h4=>?_) (fun h4=>dt ⟨by omega,by omega⟩ (dt ⟨by omega,by omega⟩ ?_))))
 ·rw [nth_over _ T.list _ (by omega),show (U.i 0).list=[] from rfl]
  simp only [nth_nil,show (U.i 0).list=[] from rfl]
 ·rw [nth_over _ (nth (U.i 0) T.list _).list _ (by omega),show (U.i 0).list=[] from rfl]
  simp only [nth_nil]
 ·simp only [nth_tail]
end Go.Mat

namespace Go.Mat
open Go Go.Den Go.Proofs
noncomputable def cloneF (cs:List Ct) (t:TypeId):Tr:=fun vs objs k=>match vs,objs with
 | [.val (.sl true c) L],[]=>(c=cs∧L.list.length≤1073741824)∧k (.ret [.own 2097152]) [(2097152,.arr t L.list)]
 | _,_=>False
theorem cle_tree (R:RT) (L:U):(runD K82 Try.f76 [vt EC L] [] R)=(NilOr (L.list=[]) (R (Out.ret [SV.own 2097152]) [(2097152,Obj.arr 24 [])]) (bif decide ((0:Nat) + List.length L.list≤room) && true then R (Out.ret [SV.own 2097152]) [(2097152,Obj.arr 24 ([] ++
 L.list))] else False)):=by kernel_rfl
theorem cls_tree (R:RT) (L:U):(runD K82 Try.f63 [vt SC L] [] R)=(NilOr (L.list=[]) (R (Out.ret [SV.own 2097152]) [(2097152,Obj.arr 73 [])]) (bif decide ((0:Nat) + List.length L.list≤room) && true then R (Out.ret [SV.own 2097152]) [(2097152,Obj.arr 73 ([] ++
 L.list))] else False)):=by kernel_rfl
theorem clb_tree (R:RT) (L:U):(runD K82 Try.f43 [vt BC L] [] R)=(NilOr (L.list=[]) (R (Out.ret [SV.own 2097152]) [(2097152,Obj.arr 77 [])]) (bif decide ((0:Nat) + List.length L.list≤room) && true then R (Out.ret [SV.own 2097152]) [(2097152,Obj.arr 77 ([] ++
 L.list))] else False)):=by kernel_rfl
theorem clp_tree (R:RT) (L:U):(runD K82 Try.f44 [vt [.int .i64,.int .i64] L] [] R)=(NilOr (L.list=[]) (R (Out.ret [SV.own 2097152]) [(2097152,Obj.arr 81 [])]) (bif decide ((0:Nat) + List.length L.list≤room) && true then R (Out.ret [SV.own 2097152]) [(2097152,Obj.arr 81 ([] ++
 L.list))] else False)):=by kernel_rfl
end Go.Mat

namespace Go.Mat
open Go Go.Den Go.Proofs
set_option maxRecDepth 100000
theorem cle_ok:SpecT PR 76 (cloneF EC 24):=fun fn hfn=>by
 have hf:PR.funcs[(76:Nat)]? = some Try.f76:=by kernel_rfl
 rw [hf] at hfn;cases hfn
 refine fnT_okH (C:=K82) (mkC_ok eqs0_ok mixed_ok .nil .nil) hf (by kernel_rfl) (loops_none (by kernel_rfl)) fun vs objs R h1 h2 h=>?_
 clear h1 h2
 unfold cloneF at h
 split at h
 ·rename_i c L
  obtain ⟨⟨rfl,hL⟩,h⟩:=h
  exact .eq (cle_tree R L) ⟨fun he=>by rw [he] at h;exact h,broom (by unfold room;omega) rfl h⟩
 ·exact h.elim
theorem cls_ok:SpecT PR 63 (cloneF SC 73):=fun fn hfn=>by
 have hf:PR.funcs[(63:Nat)]? = some Try.f63:=by kernel_rfl
 rw [hf] at hfn;cases hfn
 refine fnT_okH (C:=K82) (mkC_ok eqs0_ok mixed_ok .nil .nil) hf (by kernel_rfl) (loops_none (by kernel_rfl)) fun vs objs R h1 h2 h=>?_
 clear h1 h2
 unfold cloneF at h
 split at h
 ·rename_i c L
  obtain ⟨⟨rfl,hL⟩,h⟩:=h
  exact .eq (cls_tree R L) ⟨fun he=>by rw [he] at h;exact h,broom (by unfold room;omega) rfl h⟩
 ·exact h.elim
theorem clb_ok:SpecT PR 43 (cloneF BC 77):=fun fn hfn=>by
 have hf:PR.funcs[(43:Nat)]? = some Try.f43:=by kernel_rfl
 rw [hf] at hfn;cases hfn
 refine fnT_okH (C:=K82) (mkC_ok eqs0_ok mixed_ok .nil .nil) hf (by kernel_rfl) (loops_none (by kernel_rfl)) fun vs objs R h1 h2 h=>?_
 clear h1 h2
 unfold cloneF at h
 split at h
 ·rename_i c L
  obtain ⟨⟨rfl,hL⟩,h⟩:=h
  exact .eq (clb_tree R L) ⟨fun he=>by rw [he] at h;exact h,broom (by unfold room;omega) rfl h⟩
 ·exact h.elim
theorem clp_ok:SpecT PR 44 (cloneF [.int .i64,.int .i64] 81):=fun fn hfn=>by
 have hf:PR.funcs[(44:Nat)]? = some Try.f44:=by kernel_rfl
 rw [hf] at hfn;cases hfn
 refine fnT_okH (C:=K82) (mkC_ok eqs0_ok mixed_ok .nil .nil) hf (by kernel_rfl) (loops_none (by kernel_rfl)) fun vs objs R h1 h2 h=>?_
 clear h1 h2
 unfold cloneF at h
 split at h
 ·rename_i c L
  obtain ⟨⟨rfl,hL⟩,h⟩:=h
  exact .eq (clp_tree R L) ⟨fun he=>by rw [he] at h;exact h,broom (by unfold room;omega) rfl h⟩
 ·exact h.elim
end Go.Mat

namespace Go.Mat
open Go Go.Den Go.Proofs
noncomputable def eqs1 (t:TypeId):Option (List IntKind):=bif Nat.beq t 109 then some [.i64,.i64] else eqs0 t
noncomputable def meC:Ctx:=mkC PR eqs1 fnsNil trsNil noLoops noOut noOut
def meetR (a b c d:Int):Bool:=bif !(a == c && (b == d && true)) then (bif decide (a < IntKind.wrap .i64 (c + d)) then decide (c < IntKind.wrap .i64 (a + b)) else false) else false
def meetS:List (List U)→List (List U):=fun us=>[[.b (meetR (nth (.i 0) (nth [] us 0) 0).int (nth (.i 0) (nth [] us 0) 1).int (nth (.i 0) (nth [] us 1) 0).int (nth (.i 0) (nth [] us 1) 1).int)]]
theorem me_tree (R:RF) (a b c d:U):(run meC Try.f62 [[a,b],[c,d]] R)=(bif !(U.int a == U.int c && (U.int b == U.int d && true)) then bif decide (U.int a < IntKind.wrap IntKind.i64 (U.int c + U.int d)) then R [[U.b (decide (U.int c < IntKind.wrap IntKind.i64 (U.int a + U.int
 b)))]] else R [[U.b false]] else R [[U.b false]]):=by kernel_rfl
end Go.Mat

namespace Go.Mat
open Go Go.Den Go.Proofs
set_option maxRecDepth 100000
theorem eqs1_ok:∀ t ks,eqs1 t=some ks→EqOk PR t ks:=by
 intro t ks h
 unfold eqs1 at h
 cases hb:Nat.beq t 109 with
 | true=>
  rw [hb] at h
  have:=Nat.eq_of_beq_eq_true hb
  subst this
  injection h with h
  subst h
  exact eq_ok (by kernel_rfl)
 | false=>rw [hb] at h;exact eqs0_ok t ks h
theorem len2 {u:List U} (h:u.length=2):∃ a b,u=[a,b]:=match u,h with | [a,b],_=>⟨a,b,rfl⟩
theorem meet_ok:SpecF PR 62 meetS:=fun fn us hfn=>by
 have hf:PR.funcs[(62:Nat)]? = some Try.f62:=by kernel_rfl
 rw [hf] at hfn;cases hfn
 refine fn_okH (C:=meC) (mkC_ok eqs1_ok mixed_ok .nil .nil) hf (by kernel_rfl) (loops_none (by kernel_rfl)) fun hok=>?_
 have hp:Try.f62.params.toList=[109,109]:=by kernel_rfl
 rw [hp] at hok
 obtain ⟨u,u2,rfl,h1,h2⟩:=shape2 (by kernel_rfl:Cs PR 109=some (true,[.int .i64,.int .i64])) (by kernel_rfl:Cs PR 109=some (true,[.int .i64,.int .i64])) hok.1
 obtain ⟨a,b,rfl⟩:=len2 h1
 obtain ⟨c,d,rfl⟩:=len2 h2
 refine .eq (me_tree _ a b c d) ?_
 rw [show meetS [[a,b],[c,d]]=[[.b (meetR a.int b.int c.int d.int)]] from rfl]
 unfold meetR
 refine bi (fun h=>?_) (fun h=>by rw [h];rfl)
 rw [h]
 exact bi (fun h2=>by rw [h2];rfl) (fun h2=>by rw [h2];rfl)
end Go.Mat

namespace Go.Den
open Go Go.RowKit
theorem nil_arg {P:Program} {f:FuncId} {fn:Func} {F F':Tr} {t:TypeId} (ht:∃ m cs,Cs P t=some (m,cs)) (h:FnTr P f fn F') (hF:∀ vs objs R,F vs objs R→(∃ rest,vs = .nil :: rest∧objs=[]∧okN.okNs noN rest=true∧F' (.own 2097152 :: rest) [(2097152,.arr t [])] R)∨F' vs objs R):FnTr P f fn F where
 body:=h.body
 name:=h.name
 calls:=by
  intro vs objs R hcan hf w Z G args hargs hst
  rcases hF vs objs R hf with ⟨rest,rfl,rfl,hn,hf'⟩ | hf'
  ·obtain ⟨v,ws,rfl,hv,hrest⟩:=hargs
   have hv:v = .slice none 0 0:=hv
   subst hv
   obtain ⟨G2,hG2⟩:∃ G2:Nat→Value,G2=fun i=>if i=2097152 then .slice none 0 0 else .pointer none:=⟨_,rfl⟩
   have hg:G2 2097152 = .slice none 0 0:=by rw [hG2];rfl
   have hfl:∀ i,(G2 i).oneCell' = true:=fun i=>by
    rw [hG2]
    by_cases h:i=2097152
    ·simp only [h,if_true];rfl
    ·simp only [h,if_false];rfl
   have hget:∀ id o,getO [(2097152,Obj.arr t [])] id=some o→id=2097152∧o = .arr t []:=fun id o ho=>by
    rw [getO_cons] at ho
    split at ho
    ·rename_i e;cases ho;exact ⟨e.symm,rfl⟩
    ·cases ho
   have hnb:∀ id o b,getO [(2097152,Obj.arr t [])] id=some o→blk (G2 id)≠some b:=fun id o b ho hb=>by
    obtain ⟨rfl,_⟩:=hget id o ho
    rw [hg] at hb
    cases hb
   have main:=h.calls (.own 2097152 :: rest) [(2097152,.arr t [])] R rfl hf' w Z G2 (.slice none 0 0 :: ws) ⟨_,_,rfl,hg.symm,RepSVs.okN (fun i h=>by cases h) rest ws hn hrest⟩
    {lt:=hst.lt
     flat:=hfl
     obj:=fun id o ho=>by
      obtain ⟨rfl,rfl⟩:=hget id o ho
      obtain ⟨m,cs,hc⟩:=ht
      exact ⟨m,cs,[],hc,by rw [hg];exact World.ownsRow_nil w 0 t cs.length,rfl⟩
     sep:=fun id id' o o' b ho _ hb _=>(hnb id o b ho hb).elim
     free:=fun id o b ho hb=>(hnb id o b ho hb).elim }
   refine main.mono ?_
   rintro e w' ⟨out,objs',Z',G',h1,h2,A⟩
   have hB:∀ b,¬ Blocks G2 [(2097152,Obj.arr t [])] b:=fun b ⟨id,o,ho,hb⟩=>hnb id o b ho hb
   refine ⟨out,objs',Z',G',h1,h2,?_⟩
   exact
    {stand:=A.stand
     fut:=A.fut.trans (Fut.refl (fun _=>False) w') (fun b hb=>(hB b hb).elim) (fun _ _ h=>h.elim)
     sub:=A.sub
     new:=fun b hb=>by
      rcases A.new b hb with h | h | h
      ·exact .inl h
      ·exact (hB b h).elim
      ·exact .inr (.inr h)
     row:=A.row
     own:=fun id o b ho hb=>by
      rcases A.own id o b ho hb with h | h
      ·exact (hB b h).elim
      ·exact .inr h
     keep:=fun id o ho=>by cases ho }
  ·exact h.calls vs objs R hcan hf' w Z G args hargs hst
end Go.Den

namespace Go.Mat
open Go Go.Den Go.Proofs
def linesFrom (s:U) (T:List U):Nat→Nat→List U
 | _,0=>[]
 | p,n + 1=>bif hitR T p then .l (lineU s T p) :: linesFrom s T (p + 1) n else linesFrom s T (p + 1) n
noncomputable def rlLoop2:LoopF:=fun _ svs os k=>match svs,os with
 | [.val (.int .i64) j,.val (.int .i64) i,.ptr p o,.own x,.val (.int .i64) s],[.arr t xs,.box [.val (.sl false [.sl true ec]) T]]=>
  (p=640∧o=0∧x=2097152∧t=54∧ec=EC∧i = .i i.int∧j = .i j.int∧0≤i.int∧i.int < (T.list.length:Int)∧T.list.length≤65536∧0≤j.int∧j.int≤8∧(xs.length:Int) + 8≤1073741824 + j.int)∧
  k (.exit 2) ⟨[(0,.own 2097152),(7,vi i),(5,.ptr 640 0),(1,vi s)],[(2097152,.arr 54 (xs ++ linesFrom s T.list (8 * i.int.toNat + j.int.toNat) (8 - j.int.toNat))),(640,.box [.val TRC T])]⟩
 | _,_=>False
noncomputable def rlLoop0:LoopF:=fun _ svs os k=>match svs,os with
 | [.val (.int .i64) i,.ptr p o,.own x,.val (.int .i64) s],[.arr t xs,.box [.val (.sl false [.sl true ec]) T]]=>
  (p=640∧o=0∧x=2097152∧t=54∧ec=EC∧i = .i i.int∧0≤i.int∧i.int≤(T.list.length:Int)∧T.list.length≤65536∧xs.length + 8 * (T.list.length - i.int.toNat)≤1073741824)∧
  k (.exit 0) ⟨[(0,.own 2097152)],[(2097152,.arr 54 (xs ++ linesFrom s T.list (8 * i.int.toNat) (8 * (T.list.length - i.int.toNat))))]⟩
 | _,_=>False
noncomputable def rlC:Ctx:=mkC PR eqs0 fnsNil trsNil (loopCons 0 [7,5,0,1] [2097152,640] rlLoop0 (loopCons 2 [8,7,5,0,1] [2097152,640] rlLoop2 noLoops)) (outCons 0 [0] [2097152] (outCons 2 [0,7,5,1] [2097152,640] noOut)) noOut
theorem rl_round2 (pan:KP) (μ:Mu) (N:Nat) (k:KE) (j i s T:U) (xs:List U):(exec (rlC.panics pan) (loopBody Try.f45 1) 2 ⟨[(8,vi j),(7,vi i),(5,.ptr 640 0),(0,.own 2097152),(1,vi s)],[(2097152,.arr 54 xs),(640,.box [.val TRC T])]⟩ (again PR (some ([0,7,5,1],[2097152,640])) none pan [8,7,5,0,1] [2097152,640] rlLoop2 μ N k))=(bif decide ((0:Int)≤i.int∧i.int < (T.list.length:Int)) then bif decide (j.int < (↑(List.length (U.list (nth (U.i 0) T.list (Int.toNat i.int)))):Int)) then bif decide (j.int < 8) then bif decide ((0:Int)≤i.int∧i.int < (T.list.length:Int)) then bif decide ((0:Int)≤j.int∧j.int < (↑(List.length (U.list (nth (U.i 0) T.list (Int.toNat i.int)))):Int)) then bif U.int (nth (U.i 0) (U.list (nth (U.i 0) (U.list (nth (U.i 0) T.list (Int.toNat i.int))) (Int.toNat j.int))) (0:Nat)) == 2 then bif decide (List.length xs + 1≤room) && true then bif Nat.blt (μ [vi (U.i (IntKind.wrap .i64 (j.int + 1))),vi i,.ptr 640 0,.own 2097152,vi s] [.arr 54 (xs ++ [U.l [s,U.i (IntKind.wrap .i64 (IntKind.wrap .i64 (i.int * 8) + j.int)),nth (U.i 0) (U.list (nth (U.i 0) (U.list (nth (U.i 0) T.list (Int.toNat i.int))) (Int.toNat j.int))) (0:Nat),nth (U.i 0) (List.tail (U.list (nth (U.i 0) (U.list (nth (U.i 0) T.list (Int.toNat i.int))) (Int.toNat j.int)))) (0:Nat),nth (U.i 0) (List.tail (List.tail (U.list (nth (U.i 0) (U.list (nth (U.i 0) T.list (Int.toNat i.int))) (Int.toNat j.int))))) (0:Nat),nth (U.i 0) (List.tail (List.tail (List.tail (U.list (nth (U.i 0) (U.list (nth (U.i 0) T.list (Int.toNat i.int))) (Int.toNat j.int)))))) (0:Nat),nth (U.i 0) (List.tail (List.tail (List.tail (List.tail (U.list (nth (U.i 0) (U.list (nth (U.i 0) T.list (Int.toNat i.int))) (Int.toNat j.int))))))) (0:Nat)]]),.box [.val (.sl false [.sl true EC]) T]]) N then (640=nat_lit 640∧nat_lit 0=nat_lit 0∧nat_lit 2097152=nat_lit 2097152∧nat_lit 54=nat_lit 54∧EC=EC∧i=U.i i.int∧U.i (IntKind.wrap .i64 (j.int + 1))=U.i (IntKind.wrap .i64 (j.int + 1))∧(0:Int)≤i.int∧i.int < (T.list.length:Int)∧T.list.length≤(65536:Nat)∧(0:Int)≤IntKind.wrap .i64 (j.int + 1)∧IntKind.wrap .i64 (j.int + 1)≤8∧(↑(List.length (xs ++ [U.l [s,U.i (IntKind.wrap .i64 (IntKind.wrap .i64 (i.int * 8) + j.int)),nth (U.i 0) (U.list (nth (U.i 0) (U.list (nth (U.i 0) T.list (Int.toNat i.int))) (Int.toNat j.int))) (0:Nat),nth (U.i 0) (List.tail (U.list (nth (U.i 0) (U.list (nth (U.i 0) T.list (Int.toNat i.int))) (Int.toNat j.int)))) (0:Nat),nth (U.i 0) (List.tail (List.tail (U.list (nth (U.i 0) (U.list (nth (U.i 0) T.list (Int.toNat i.int))) (Int.toNat j.int))))) (0:Nat),nth (U.i 0) (List.tail (List.tail (List.tail (U.list (nth (U.i 0) (U.list (nth (U.i 0) T.list (Int.toNat i.int))) (Int.toNat j.int)))))) (0:Nat),nth (U.i 0) (List.tail (List.tail (List.tail (List.tail (U.list (nth (U.i 0) (U.list (nth (U.i 0) T.list (Int.toNat i.int))) (Int.toNat j.int))))))) (0:Nat)]])):Int) + (8:Int)≤1073741824 + IntKind.wrap .i64 (j.int + 1))∧k (Ex.exit 2) (St.mk [(0,.own 2097152),(7,vi i),(5,.ptr 640 0),(1,vi s)] [(2097152,.arr 54 (xs ++ [U.l [s,U.i (IntKind.wrap .i64 (IntKind.wrap .i64 (i.int * 8) + j.int)),nth (U.i 0) (U.list (nth (U.i 0) (U.list (nth (U.i 0) T.list (Int.toNat i.int))) (Int.toNat j.int))) (0:Nat),nth (U.i 0) (List.tail (U.list (nth (U.i 0) (U.list (nth (U.i 0) T.list (Int.toNat i.int))) (Int.toNat j.int)))) (0:Nat),nth (U.i 0) (List.tail (List.tail (U.list (nth (U.i 0) (U.list (nth (U.i 0) T.list (Int.toNat i.int))) (Int.toNat j.int))))) (0:Nat),nth (U.i 0) (List.tail (List.tail (List.tail (U.list (nth (U.i 0) (U.list (nth (U.i 0) T.list (Int.toNat i.int))) (Int.toNat j.int)))))) (0:Nat),nth (U.i 0) (List.tail (List.tail (List.tail (List.tail (U.list (nth (U.i 0) (U.list (nth (U.i 0) T.list (Int.toNat i.int))) (Int.toNat j.int))))))) (0:Nat)]] ++ linesFrom s T.list ((8:Nat) * Int.toNat i.int + Int.toNat (IntKind.wrap .i64 (j.int + 1))) ((8:Nat) - Int.toNat (IntKind.wrap .i64 (j.int + 1))))),(640,.box [.val (.sl false [.sl true EC]) T])]) else False else False else bif U.int (nth (U.i 0) (U.list (nth (U.i 0) (U.list (nth (U.i 0) T.list (Int.toNat i.int))) (Int.toNat j.int))) (0:Nat)) == 3 then bif decide (List.length xs + 1≤room) && true then bif Nat.blt (μ [vi (U.i (IntKind.wrap .i64 (j.int + 1))),vi i,.ptr 640 0,.own 2097152,vi s] [.arr 54 (xs ++ [U.l [s,U.i (IntKind.wrap .i64 (IntKind.wrap .i64 (i.int * 8) + j.int)),nth (U.i 0) (U.list (nth (U.i 0) (U.list (nth (U.i 0) T.list (Int.toNat i.int))) (Int.toNat j.int))) (0:Nat),nth (U.i 0) (List.tail (U.list (nth (U.i 0) (U.list (nth (U.i 0) T.list (Int.toNat i.int))) (Int.toNat j.int)))) (0:Nat),nth (U.i 0) (List.tail (List.tail (U.list (nth (U.i 0) (U.list (nth (U.i 0) T.list (Int.toNat i.int))) (Int.toNat j.int))))) (0:Nat),nth (U.i 0) (List.tail (List.tail (List.tail (U.list (nth (U.i 0) (U.list (nth (U.i 0) T.list (Int.toNat i.int))) (Int.toNat j.int)))))) (0:Nat),nth (U.i 0) (List.tail (List.tail (List.tail (List.tail (U.list (nth (U.i 0) (U.list (nth (U.i 0) T.list (Int.toNat i.int))) (Int.toNat j.int))))))) (0:Nat)]]),.box [.val (.sl false [.sl true EC]) T]]) N then (640=nat_lit 640∧nat_lit 0=nat_lit 0∧nat_lit 2097152=nat_lit 2097152∧nat_lit 54=nat_lit 54∧EC=EC∧i=U.i i.int∧U.i (IntKind.wrap .i64 (j.int + 1))=U.i (IntKind.wrap .i64 (j.int + 1))∧(0:Int)≤i.int∧i.int < (T.list.length:Int)∧T.list.length≤(65536:Nat)∧(0:Int)≤IntKind.wrap .i64 (j.int + 1)∧IntKind.wrap .i64 (j.int + 1)≤8∧(↑(List.length (xs ++ [U.l [s,U.i (IntKind.wrap .i64 (IntKind.wrap .i64 (i.int * 8) + j.int)),nth (U.i 0) (U.list (nth (U.i 0) (U.list (nth (U.i 0) T.list (Int.toNat i.int))) (Int.toNat j.int))) (0:Nat),nth (U.i 0) (List.tail (U.list (nth (U.i 0) (U.list (nth (U.i 0) T.list (Int.toNat i.int))) (Int.toNat j.int)))) (0:Nat),nth (U.i 0) (List.tail (List.tail (U.list (nth (U.i 0) (U.list (nth (U.i 0) T.list (Int.toNat i.int))) (Int.toNat j.int))))) (0:Nat),nth (U.i 0) (List.tail (List.tail (List.tail (U.list (nth (U.i 0) (U.list (nth (U.i 0) T.list (Int.toNat i.int))) (Int.toNat j.int)))))) (0:Nat),nth (U.i 0) (List.tail (List.tail (List.tail (List.tail (U.list (nth (U.i 0) (U.list (nth (U.i 0) T.list (Int.toNat i.int))) (Int.toNat j.int))))))) (0:Nat)]])):Int) + (8:Int)≤1073741824 + IntKind.wrap .i64 (j.int + 1))∧k (Ex.exit 2) (St.mk [(0,.own 2097152),(7,vi i),(5,.ptr 640 0),(1,vi s)] [(2097152,.arr 54 (xs ++ [U.l [s,U.i (IntKind.wrap .i64 (IntKind.wrap .i64 (i.int * 8) + j.int)),nth (U.i 0) (U.list (nth (U.i 0) (U.list (nth (U.i 0) T.list (Int.toNat i.int))) (Int.toNat j.int))) (0:Nat),nth (U.i 0) (List.tail (U.list (nth (U.i 0) (U.list (nth (U.i 0) T.list (Int.toNat i.int))) (Int.toNat j.int)))) (0:Nat),nth (U.i 0) (List.tail (List.tail (U.list (nth (U.i 0) (U.list (nth (U.i 0) T.list (Int.toNat i.int))) (Int.toNat j.int))))) (0:Nat),nth (U.i 0) (List.tail (List.tail (List.tail (U.list (nth (U.i 0) (U.list (nth (U.i 0) T.list (Int.toNat i.int))) (Int.toNat j.int)))))) (0:Nat),nth (U.i 0) (List.tail (List.tail (List.tail (List.tail (U.list (nth (U.i 0) (U.list (nth (U.i 0) T.list (Int.toNat i.int))) (Int.toNat j.int))))))) (0:Nat)]] ++ linesFrom s T.list ((8:Nat) * Int.toNat i.int + Int.toNat (IntKind.wrap .i64 (j.int + 1))) ((8:Nat) - Int.toNat (IntKind.wrap .i64 (j.int + 1))))),(640,.box [.val (.sl false [.sl true EC]) T])]) else False else False else bif Nat.blt (μ [vi (U.i (IntKind.wrap .i64 (j.int + 1))),vi i,.ptr 640 0,.own 2097152,vi s] [.arr 54 xs,.box [.val (.sl false [.sl true EC]) T]]) N then (640=nat_lit 640∧nat_lit 0=nat_lit 0∧nat_lit 2097152=nat_lit 2097152∧nat_lit 54=nat_lit 54∧EC=EC∧i=U.i i.int∧U.i (IntKind.wrap .i64 (j.int + 1))=U.i (IntKind.wrap .i64 (j.int + 1))∧(0:Int)≤i.int∧i.int < (T.list.length:Int)∧T.list.length≤(65536:Nat)∧(0:Int)≤IntKind.wrap .i64 (j.int + 1)∧IntKind.wrap .i64 (j.int + 1)≤8∧(xs.length:Int) + (8:Int)≤1073741824 + IntKind.wrap .i64 (j.int + 1))∧k (Ex.exit 2) (St.mk [(0,.own 2097152),(7,vi i),(5,.ptr 640 0),(1,vi s)] [(2097152,.arr 54 (xs ++ linesFrom s T.list ((8:Nat) * Int.toNat i.int + Int.toNat (IntKind.wrap .i64 (j.int + 1))) ((8:Nat) - Int.toNat (IntKind.wrap .i64 (j.int + 1))))),(640,.box [.val (.sl false [.sl true EC]) T])]) else False else False else False else k (Ex.exit 2) (St.mk [(0,.own 2097152),(7,vi i),(5,.ptr 640 0),(1,vi s)] [(2097152,.arr 54 xs),(640,.box [.val (.sl false [.sl true EC]) T])]) else k (Ex.exit 2) (St.mk [(0,.own 2097152),(7,vi i),(5,.ptr 640 0),(1,vi s)] [(2097152,.arr 54 xs),(640,.box [.val (.sl false [.sl true EC]) T])]) else False):=by kernel_rfl
theorem rl_round0 (pan:KP) (μ:Mu) (N:Nat) (k:KE) (i s T:U) (xs:List U):(exec (rlC.panics pan) (loopBody Try.f45 0) 0 ⟨[(7,vi i),(5,.ptr 640 0),(0,.own 2097152),(1,vi s)],[(2097152,.arr 54 xs),(640,.box [.val TRC T])]⟩ (again PR (some ([0],[2097152])) none pan [7,5,0,1] [2097152,640] rlLoop0 μ N k))=(bif decide (i.int < (T.list.length:Int)) then (640=nat_lit 640∧nat_lit 0=nat_lit 0∧nat_lit 2097152=nat_lit 2097152∧nat_lit 54=nat_lit 54∧EC=EC∧i=U.i i.int∧U.i (0:Int)=U.i 0∧(0:Int)≤i.int∧i.int < (T.list.length:Int)∧T.list.length≤(65536:Nat)∧(0:Int)≤0∧(0:Int)≤8∧(xs.length:Int) + (8:Int)≤1073741824 + 0)∧bif Nat.blt (μ [vi (U.i (IntKind.wrap .i64 (i.int + 1))),.ptr 640 0,.own 2097152,vi s] [.arr 54 (xs ++ linesFrom s T.list ((8:Nat) * Int.toNat i.int + Int.toNat 0) ((8:Nat) - Int.toNat 0)),.box [.val (.sl false [.sl true EC]) T]]) N then (640=nat_lit 640∧nat_lit 0=nat_lit 0∧nat_lit 2097152=nat_lit 2097152∧nat_lit 54=nat_lit 54∧EC=EC∧U.i (IntKind.wrap .i64 (i.int + 1))=U.i (IntKind.wrap .i64 (i.int + 1))∧(0:Int)≤IntKind.wrap .i64 (i.int + 1)∧IntKind.wrap .i64 (i.int + 1)≤(T.list.length:Int)∧T.list.length≤(65536:Nat)∧List.length (xs ++ linesFrom s T.list ((8:Nat) * Int.toNat i.int + Int.toNat 0) ((8:Nat) - Int.toNat 0)) + (8:Nat) * (T.list.length - Int.toNat (IntKind.wrap .i64 (i.int + 1)))≤(1073741824:Nat))∧k (Ex.exit 0) (St.mk [(0,.own 2097152)] [(2097152,.arr 54 (xs ++ linesFrom s T.list ((8:Nat) * Int.toNat i.int + Int.toNat 0) ((8:Nat) - Int.toNat 0) ++ linesFrom s T.list ((8:Nat) * Int.toNat (IntKind.wrap .i64 (i.int + 1))) ((8:Nat) * (T.list.length - Int.toNat (IntKind.wrap .i64 (i.int + 1))))))]) else False else k (Ex.exit 0) (St.mk [(0,.own 2097152)] [(2097152,.arr 54 xs)])):=by kernel_rfl
theorem rl_tree (R:RT) (s T:U) (xs:List U):(runD rlC Try.f45 [.own 2097152,vi s,.agg [.val TRC T]] [(2097152,.arr 54 xs)] R)=((640=nat_lit 640∧nat_lit 0=nat_lit 0∧nat_lit 2097152=nat_lit 2097152∧nat_lit 54=nat_lit 54∧EC=EC∧U.i (0:Int)=U.i 0∧(0:Int)≤0∧(0:Int)≤(↑(List.length T.list):Int)∧
 List.length T.list≤(65536:Nat)∧List.length xs + (8:Nat) * (List.length T.list - Int.toNat 0)≤(1073741824:Nat))∧R (Out.ret [SV.own 2097152]) [(2097152,Obj.arr 54 (xs ++ linesFrom s T.list
 ((8:Nat) * Int.toNat 0) ((8:Nat) * (List.length T.list - Int.toNat 0))))]):=by kernel_rfl
end Go.Mat

namespace Go.Mat
open Go Go.Den Go.Proofs
set_option maxRecDepth 100000
theorem entF_at (m:Nat) (T:List U) (i j:Nat) (hj:j < 8):entF m T ((8 * i + j:Nat):Int)=nth (.i 0) (nth (.i 0) (nth (.i 0) T i).list j).list m:=by
 unfold entF entU
 rw [decide_eq_false (by omega)]
 rw [show ((8 * i + j:Nat):Int).toNat=8 * i + j from Int.toNat_natCast _,show (8 * i + j) / 8=i by omega,show (8 * i + j) % 8=j by omega]
 rfl
theorem linesFrom_none (s:U) (T:List U):∀ (n p:Nat),(∀ q,p≤q→q < p + n→hitR T q=false)→linesFrom s T p n=[]
 | 0,_,_=>rfl
 | n + 1,p,h=>by
  rw [linesFrom,h p (Nat.le_refl _) (by omega)]
  exact linesFrom_none s T n (p + 1) fun q h1 h2=>h q (by omega) (by omega)
theorem linesFrom_len (s:U) (T:List U):∀ (n p:Nat),(linesFrom s T p n).length≤n
 | 0,_=>Nat.le_refl _
 | n + 1,p=>by
  have:=linesFrom_len s T n (p + 1)
  rw [linesFrom]
  cases hitR T p
  ·simp only [cond_false];omega
  ·simp only [cond_true,List.length_cons];omega
theorem linesFrom_add (s:U) (T:List U):∀ (a b p:Nat),linesFrom s T p (a + b)=linesFrom s T p a ++ linesFrom s T (p + a) b
 | 0,b,p=>by simp [linesFrom]
 | a + 1,b,p=>by
  rw [show a + 1 + b=(a + b) + 1 by omega,linesFrom,linesFrom,linesFrom_add s T a b (p + 1),show p + 1 + a=p + (a + 1) by omega]
  cases hitR T p<;>rfl
theorem rl_loop2:LoopOk rlC 2 (loopBody Try.f45 1):=by
 refine loopOk_of (F:=rlLoop2) (ts:=[8,7,5,0,1]) (os:=[2097152,640]) rfl (fun svs _=>match svs with | .val _ j :: _=>(8 - j.int).toNat | _=>0) ?_
 intro pan svs os k ho1 ho2 h
 unfold rlLoop2 at h
 split at h
 ·rename_i j i p o x s t xs ec T
  obtain ⟨⟨rfl,rfl,rfl,rfl,rfl,hie,hje,hi0,hiT,hT,hj0,hj8,hx⟩,hk⟩:=h
  refine .eq (rl_round2 pan _ _ k j i s T xs) ?_
  obtain ⟨a,ha⟩:∃ a:Nat,i.int=(a:Int):=⟨i.int.toNat,by omega⟩
  obtain ⟨b,hb⟩:∃ b:Nat,j.int=(b:Int):=⟨j.int.toNat,by omega⟩
  have hout:∀ q,8 * a + b≤q→q < 8 * a + 8→(nth (.i 0) T.list a).list.length≤b→hitR T.list q=false:=fun q h1 h2 h3=>by
   have e:q=8 * a + (q - 8 * a):=by omega
   unfold hitR
   rw [e,entF_at 0 T.list a (q - 8 * a) (by omega),nth_over _ (nth (.i 0) T.list a).list (q - 8 * a) (by omega),show (U.i 0).list=[] from rfl,nth_nil]
   rfl
  have hwj:IntKind.wrap .i64 (j.int + 1)=j.int + 1:=i64_in (by omega) (by omega)
  have hw1:IntKind.wrap .i64 (i.int * 8)=i.int * 8:=i64_in (by omega) (by omega)
  have hw2:IntKind.wrap .i64 (i.int * 8 + j.int)=i.int * 8 + j.int:=i64_in (by omega) (by omega)
  rw [hwj,hw1,hw2]
  rw [ha] at hk hi0 hiT ⊢
  rw [hb] at hk hj0 hj8 hx ⊢
  simp only [Int.toNat_natCast] at hk
  simp only [Int.toNat_natCast,nth_tail,Nat.zero_add,Nat.reduceAdd]
  refine dt ⟨by omega,by omega⟩ (bd (fun h1=>bd (fun h2=>dt ⟨by omega,by omega⟩ (dt ⟨by omega,by omega⟩ ?_)) (fun h2=>?_)) (fun h1=>?_))
  ·have ex:∀ m,entF m T.list ((8 * a + b:Nat):Int)=nth (.i 0) (nth (.i 0) (nth (.i 0) T.list a).list b).list m:=fun m=>entF_at m T.list a b (by omega)
   obtain ⟨n,hn⟩:∃ n,8 - b=n + 1:=⟨7 - b,by omega⟩
   rw [hn,linesFrom] at hk
   have hlu:lineU s T.list (8 * a + b)=[s,.i ((a:Int) * 8 + (b:Int)),entF 0 T.list ((8 * a + b:Nat):Int),entF 1 T.list ((8 * a + b:Nat):Int),entF 2 T.list ((8 * a + b:Nat):Int),entF 3 T.list ((8 * a + b:Nat):Int),entF 4 T.list ((8 * a + b:Nat):Int)]:=by
    unfold lineU
    rw [show ((8 * a + b:Nat):Int)=(a:Int) * 8 + (b:Int) by omega]
   simp only [← ex]
   rw [← hlu]
   have hn2:8 - ((b:Int) + 1).toNat=n:=by omega
   have hp2:8 * a + ((b:Int) + 1).toNat=8 * a + b + 1:=by omega
   rw [hn2,hp2]
   have hie2:i = .i (a:Int):=by rw [← ha];exact hie
   have hlen:((xs ++ [U.l (lineU s T.list (8 * a + b))]).length:Int) + 8≤1073741824 + ((b:Int) + 1):=by
    rw [List.length_append]
    show ((xs.length + 1:Nat):Int) + 8≤_
    omega
   have hmu:((8:Int) - ((b:Int) + 1)).toNat < ((8:Int) - (b:Int)).toNat:=by omega
   cases hh:hitR T.list (8 * a + b) with
   | true=>
    rw [hh] at hk
    have hk:k (.exit 2) ⟨[(0,.own 2097152),(7,vi i),(5,.ptr 640 0),(1,vi s)],[(2097152,.arr 54 (xs ++ [U.l (lineU s T.list (8 * a + b))] ++ linesFrom s T.list (8 * a + b + 1) n)),(640,.box [.val TRC T])]⟩:=by
     rw [List.append_assoc];exact hk
    have hh:((entF 0 T.list ((8 * a + b:Nat):Int)).int == 2 || (entF 0 T.list ((8 * a + b:Nat):Int)).int == 3)=true:=hh
    refine bi (fun g=>broom (by unfold room;omega) rfl (blt ?_ ⟨⟨by trivial,by trivial,by trivial,by trivial,by trivial,hie2,by trivial,by omega,by omega,hT,by omega,by omega,hlen⟩,hk⟩)) (fun g=>?_)
    ·simp only [U.int_i];omega
    ·rw [g] at hh
     refine bt hh (broom (by unfold room;omega) rfl (blt ?_ ⟨⟨by trivial,by trivial,by trivial,by trivial,by trivial,hie2,by trivial,by omega,by omega,hT,by omega,by omega,hlen⟩,hk⟩))
     simp only [U.int_i];omega
   | false=>
    rw [hh] at hk
    obtain ⟨g1,g2⟩:=Bool.or_eq_false_iff.1 (show ((entF 0 T.list ((8 * a + b:Nat):Int)).int == 2 || (entF 0 T.list ((8 * a + b:Nat):Int)).int == 3)=false from hh)
    refine bf g1 (bf g2 (blt ?_ ⟨⟨by trivial,by trivial,by trivial,by trivial,by trivial,hie2,by trivial,by omega,by omega,hT,by omega,by omega,by omega⟩,hk⟩))
    simp only [U.int_i];omega
  ·rw [show 8 - b=0 by omega,linesFrom,List.append_nil] at hk
   exact hk
  ·rw [linesFrom_none s T.list (8 - b) (8 * a + b) (fun q h1 h2=>hout q h1 (by omega) (by omega)),List.append_nil] at hk
   exact hk
 ·exact h.elim
theorem rl_loop0:LoopOk rlC 0 (loopBody Try.f45 0):=by
 refine loopOk_of (F:=rlLoop0) (ts:=[7,5,0,1]) (os:=[2097152,640]) rfl (fun svs os=>match svs,os with | .val _ i :: _,[_,.box [.val _ T]]=>((T.list.length:Int) - i.int).toNat | _,_=>0) ?_
 intro pan svs os k ho1 ho2 h
 unfold rlLoop0 at h
 split at h
 ·rename_i i p o x s t xs ec T
  obtain ⟨⟨rfl,rfl,rfl,rfl,rfl,hie,hi0,hiT,hT,hx⟩,hk⟩:=h
  refine .eq (rl_round0 pan _ _ k i s T xs) ?_
  have hwi:IntKind.wrap .i64 (i.int + 1)=i.int + 1:=i64_in (by omega) (by omega)
  rw [hwi]
  refine bd (fun hlt=>⟨⟨by trivial,by trivial,by trivial,by trivial,by trivial,hie,by trivial,hi0,hlt,hT,by omega,by omega,by omega⟩,?_⟩) (fun hlt=>?_)
  ·have hc:(i.int + 1).toNat=i.int.toNat + 1:=by omega
   have hll:=linesFrom_len s T.list 8 (8 * i.int.toNat)
   rw [show 8 * (T.list.length - i.int.toNat)=8 + 8 * (T.list.length - (i.int.toNat + 1)) by omega,linesFrom_add,← List.append_assoc] at hk
   rw [hc,show 8 * i.int.toNat + Int.toNat 0=8 * i.int.toNat from rfl,show 8 - Int.toNat 0=8 from rfl,show 8 * (i.int.toNat + 1)=8 * i.int.toNat + 8 by omega]
   refine blt ?_ ⟨⟨by trivial,by trivial,by trivial,by trivial,by trivial,by trivial,by omega,by omega,hT,?_⟩,hk⟩
   ·show ((T.list.length:Int) - (i.int + 1)).toNat < ((T.list.length:Int) - i.int).toNat
    omega
   ·rw [List.length_append]
    omega
  ·rw [show T.list.length - i.int.toNat=0 by omega,Nat.mul_zero,linesFrom,List.append_nil] at hk
   exact hk
 ·exact h.elim
theorem linesFrom_to (s:U) (T:List U):∀ n,linesFrom s T 0 n=(linesTo s T n).map .l
 | 0=>rfl
 | n + 1=>by
  rw [linesFrom_add s T n 1 0,linesFrom_to s T n,Nat.zero_add,linesFrom]
  cases h:hitR T n with
  | true=>rw [linesTo_hit h,List.map_append];rfl
  | false=>rw [linesTo_miss h];simp [linesFrom]
noncomputable def reachF:Tr:=fun vs objs k=>match vs,objs with
 | [.own o,.val (.int .i64) s,.agg [.val (.sl false [.sl true ec]) T]],[(o2,.arr t xs)]=>
  (o=2097152∧o2=2097152∧t=54∧ec=EC∧T.list.length≤65536∧xs.length + 8 * T.list.length≤1073741824)∧k (.ret [.own 2097152]) [(2097152,.arr 54 (xs ++ linesOf s T.list))]
 | _,_=>False
noncomputable def reach2F:Tr:=fun vs objs k=>match vs,objs with
 | [.nil,.val (.int .i64) s,.agg [.val (.sl false [.sl true ec]) T]],[]=>(ec=EC∧T.list.length≤65536)∧k (.ret [.own 2097152]) [(2097152,.arr 54 (linesOf s T.list))]
 | vs,objs=>reachF vs objs k
theorem rl_ok:SpecT PR 45 reachF:=fun fn hfn=>by
 have hf:PR.funcs[(45:Nat)]? = some Try.f45:=by kernel_rfl
 rw [hf] at hfn;cases hfn
 refine fnT_okH (C:=rlC) (mkC_ok eqs0_ok mixed_ok .nil .nil) hf (by kernel_rfl) (loops_two (by kernel_rfl) rl_loop0 rl_loop2) fun vs objs R h1 h2 h=>?_
 clear h1 h2
 unfold reachF at h
 split at h
 ·rename_i o s ec T o2 t xs
  obtain ⟨⟨rfl,rfl,rfl,rfl,hT,hx⟩,h⟩:=h
  refine .eq (rl_tree R s T xs) ⟨⟨by trivial,by trivial,by trivial,by trivial,by trivial,by trivial,by trivial,by omega,hT,hx⟩,?_⟩
  rw [show 8 * Int.toNat 0=0 from rfl,show T.list.length - Int.toNat 0=T.list.length from rfl,linesFrom_to]
  exact h
 ·exact h.elim
theorem rl2_ok:SpecT PR 45 reach2F:=fun fn hfn=>by
 refine nil_arg (t:=54) ⟨true,LNC,by kernel_rfl⟩ (rl_ok fn hfn) fun vs objs R h=>?_
 unfold reach2F at h
 split at h
 ·rename_i s ec T
  obtain ⟨⟨rfl,hT⟩,h⟩:=h
  exact .inl ⟨_,rfl,rfl,rfl,⟨by trivial,by trivial,by trivial,by trivial,hT,by simp only [List.length_nil];omega⟩,h⟩
 ·exact .inr h
end Go.Mat

namespace Go.Mat
open Go Go.Den Go.Proofs
noncomputable def reLoop:LoopF:=fun _ svs os k=>match svs,os with
 | [.val (.int .i64) i,.own o,.ptr p po],[.arr t xs,.box [.val (.int .i64) c,.val (.int .i64) sz,.val .str bk,.val (.sl false [.sl true x1]) T,.val (.sl true x2) S,.val (.sl true x3) M,.val (.sl false [.int .i64]) Q]]=>
  (i = .i i.int∧o=912∧p=128∧po=0∧t=54∧x1=EC∧x2=SC∧x3=BC∧0≤i.int∧i.int≤(S.list.length:Int)∧S.list.length≤1000∧xs.length + 524288 * (S.list.length - i.int.toNat)≤1073741824∧shotsFit (S.list.drop i.int.toNat)=true)∧
  k (.exit 0) ⟨[(3,.own 912)],[(912,.arr 54 (xs ++ shotLines i.int (S.list.drop i.int.toNat)))]⟩
 | _,_=>False
noncomputable def reC:Ctx:=mkC PR eqs0 fnsNil (trsCons 45 [true,false,false] reach2F trsNil) (loopCons 0 [4,3,1] [912,128] reLoop noLoops) (outCons 0 [3] [912] noOut) noOut
theorem re_tree (R:RF) (c sz bk T S M Q:U):(run reC Try.f18 [[c,sz,bk,T,S,M,Q]] R)=(([Ct.int IntKind.i64,Ct.int IntKind.i64,Ct.int IntKind.i64,Ct.int IntKind.i64,Ct.int IntKind.u32]=[.int .i64,.int .i64,.int .i64,.int .i64,.int .u32]∧T.list.length≤(65536:Nat))∧(U.i (0:Int)=U.i (0:Int)∧nat_lit 912=nat_lit 912∧nat_lit 128=nat_lit 128∧nat_lit 0=nat_lit 0∧nat_lit 54=nat_lit 54∧[Ct.int IntKind.i64,Ct.int IntKind.i64,Ct.int IntKind.i64,Ct.int IntKind.i64,Ct.int IntKind.u32]=[.int .i64,.int .i64,.int .i64,.int .i64,.int .u32]∧[Ct.str,Ct.int IntKind.i64,Ct.sl false [Ct.sl true [Ct.int IntKind.i64,Ct.int IntKind.i64,Ct.int IntKind.i64,Ct.int IntKind.i64,Ct.int IntKind.u32]]]=[.str,.int .i64,Ct.sl false [.sl true [.int .i64,.int .i64,.int .i64,.int .i64,.int .u32]]]∧[Ct.str,Ct.bool,Ct.sl true [Ct.int IntKind.i64,Ct.int IntKind.i64]]=[.str,Ct.bool,Ct.sl true [.int .i64,.int .i64]]∧(0:Int)≤(0:Int)∧(0:Int)≤(S.list.length:Int)∧S.list.length≤(1000:Nat)∧List.length (linesOf (U.i (-1:Int)) T.list) + (524288:Nat) * (S.list.length - Int.toNat (0:Int))≤(1073741824:Nat)∧shotsFit (List.drop (Int.toNat (0:Int)) S.list)=true)∧R [[U.l (linesOf (U.i (-1:Int)) T.list ++ shotLines (0:Int) (List.drop (Int.toNat (0:Int)) S.list))]]):=by kernel_rfl
theorem re_round (pan:KP) (μ:Mu) (N:Nat) (k:KE) (i c sz bk T S M Q:U) (xs:List U):(exec (reC.panics pan) (loopBody Try.f18 0) 0 ⟨[(4,vi i),(3,.own 912),(1,.ptr 128 0)],[(912,.arr 54 xs),(128,.box [vi c,vi sz,vs bk,.val TRC T,vt SC S,vt BC M,vl (.int .i64) Q])]⟩ (again PR (some ([3],[912])) none pan [4,3,1] [912,128] reLoop μ N k))=(bif decide (i.int < (S.list.length:Int)) then bif decide ((0:Int)≤i.int∧i.int < (S.list.length:Int)) then (nat_lit 2097152=nat_lit 2097152∧nat_lit 2097152=nat_lit 2097152∧nat_lit 54=nat_lit 54∧[Ct.int IntKind.i64,Ct.int IntKind.i64,Ct.int IntKind.i64,Ct.int IntKind.i64,Ct.int IntKind.u32]=[.int .i64,.int .i64,.int .i64,.int .i64,.int .u32]∧List.length (U.list (nth (U.i (0:Int)) (List.drop (2:Nat) (U.list (nth (U.i (0:Int)) S.list (Int.toNat i.int)))) (0:Nat)))≤(65536:Nat)∧List.length xs + (8:Nat) * List.length (U.list (nth (U.i (0:Int)) (List.drop (2:Nat) (U.list (nth (U.i (0:Int)) S.list (Int.toNat i.int)))) (0:Nat)))≤(1073741824:Nat))∧bif Nat.blt (μ [.val (.int IntKind.i64) (U.i (IntKind.wrap .i64 (i.int + (1:Int)))),.own (nat_lit 912),.ptr (nat_lit 128) (nat_lit 0)] [.arr (nat_lit 54) (xs ++ linesOf i (U.list (nth (U.i (0:Int)) (List.drop (2:Nat) (U.list (nth (U.i (0:Int)) S.list (Int.toNat i.int)))) (0:Nat)))),.box [.val (.int IntKind.i64) c,.val (.int IntKind.i64) sz,.val .str bk,.val (.sl false [.sl true [.int .i64,.int .i64,.int .i64,.int .i64,.int .u32]]) T,.val (.sl true [.str,.int .i64,Ct.sl false [.sl true [.int .i64,.int .i64,.int .i64,.int .i64,.int .u32]]]) S,.val (.sl true [.str,Ct.bool,Ct.sl true [.int .i64,.int .i64]]) M,.val (.sl false [.int .i64]) Q]]) N then (U.i (IntKind.wrap .i64 (i.int + (1:Int)))=U.i (IntKind.wrap .i64 (i.int + (1:Int)))∧nat_lit 912=nat_lit 912∧nat_lit 128=nat_lit 128∧nat_lit 0=nat_lit 0∧nat_lit 54=nat_lit 54∧[Ct.int IntKind.i64,Ct.int IntKind.i64,Ct.int IntKind.i64,Ct.int IntKind.i64,Ct.int IntKind.u32]=[.int .i64,.int .i64,.int .i64,.int .i64,.int .u32]∧[Ct.str,Ct.int IntKind.i64,Ct.sl false [Ct.sl true [Ct.int IntKind.i64,Ct.int IntKind.i64,Ct.int IntKind.i64,Ct.int IntKind.i64,Ct.int IntKind.u32]]]=[.str,.int .i64,Ct.sl false [.sl true [.int .i64,.int .i64,.int .i64,.int .i64,.int .u32]]]∧[Ct.str,Ct.bool,Ct.sl true [Ct.int IntKind.i64,Ct.int IntKind.i64]]=[.str,Ct.bool,Ct.sl true [.int .i64,.int .i64]]∧(0:Int)≤IntKind.wrap .i64 (i.int + (1:Int))∧IntKind.wrap .i64 (i.int + (1:Int))≤(S.list.length:Int)∧S.list.length≤(1000:Nat)∧List.length (xs ++ linesOf i (U.list (nth (U.i (0:Int)) (List.drop (2:Nat) (U.list (nth (U.i (0:Int)) S.list (Int.toNat i.int)))) (0:Nat)))) + (524288:Nat) * (S.list.length - Int.toNat (IntKind.wrap .i64 (i.int + (1:Int))))≤(1073741824:Nat)∧shotsFit (List.drop (Int.toNat (IntKind.wrap .i64 (i.int + (1:Int)))) S.list)=true)∧k (Ex.exit (nat_lit 0)) (St.mk [(nat_lit 3,.own (nat_lit 912))] [(nat_lit 912,.arr (nat_lit 54) (xs ++ linesOf i (U.list (nth (U.i (0:Int)) (List.drop (2:Nat) (U.list (nth (U.i (0:Int)) S.list (Int.toNat i.int)))) (0:Nat))) ++ shotLines (IntKind.wrap .i64 (i.int + (1:Int))) (List.drop (Int.toNat (IntKind.wrap .i64 (i.int + (1:Int)))) S.list)))]) else False else False else k (Ex.exit (nat_lit 0)) (St.mk [(nat_lit 3,.own (nat_lit 912))] [(nat_lit 912,.arr (nat_lit 54) xs)])):=by kernel_rfl
end Go.Mat

namespace Go.Mat
open Go Go.Den Go.Proofs
set_option maxRecDepth 100000
theorem re_loop:LoopOk reC 0 (loopBody Try.f18 0):=by
 refine loopOk_of (F:=reLoop) (ts:=[4,3,1]) (os:=[912,128]) rfl (fun svs os=>match svs,os with | .val _ i :: _,[_,.box [_,_,_,_,.val _ S,_,_]]=>((S.list.length:Int) - i.int).toNat | _,_=>0) ?_
 intro pan svs os k ho1 ho2 h
 unfold reLoop at h
 split at h
 ·rename_i i o p po t xs c sz bk x1 T x2 S x3 M Q
  obtain ⟨⟨hi,rfl,rfl,rfl,rfl,rfl,rfl,rfl,h0,hle,hS,hx,hf⟩,hk⟩:=h
  refine .eq (re_round pan _ _ k i c sz bk T S M Q xs) ?_
  refine bd (fun hlt=>dt ⟨h0,by omega⟩ ?_) (fun hlt=>?_)
  ·rw [drop_at (by omega),shotsFit] at hf
   rw [drop_at (by omega),shotLines] at hk
   simp only [Bool.and_eq_true,decide_eq_true_eq] at hf
   obtain ⟨f1,f2⟩:=hf
   have hwi:IntKind.wrap .i64 (i.int + 1)=i.int + 1:=i64_in (by omega) (by omega)
   have hc:(i.int + 1).toNat=i.int.toNat + 1:=by omega
   have hll:=linesOf_len i (nth (.i 0) (U.at S.list i.int.toNat).list 2).list
   simp only [nth_drop,Nat.add_zero]
   rw [hwi,hc]
   rw [← hi] at hk
   refine ⟨⟨by trivial,by trivial,by trivial,by trivial,f1,(show xs.length + 8 * (nth (.i 0) (U.at S.list i.int.toNat).list 2).list.length≤1073741824 by omega)⟩,blt ?_ ⟨⟨by trivial,by trivial,by trivial,by trivial,by trivial,by trivial,by trivial,by trivial,by omega,by omega,hS,?_,f2⟩,?_⟩⟩
   ·show ((S.list.length:Int) - (i.int + 1)).toNat < ((S.list.length:Int) - i.int).toNat
    omega
   ·rw [List.length_append]
    have e:S.list.length - i.int.toNat=(S.list.length - (i.int.toNat + 1)) + 1:=by omega
    rw [e,Nat.mul_add] at hx
    show xs.length + (linesOf i (nth (.i 0) (U.at S.list i.int.toNat).list 2).list).length + 524288 * (S.list.length - (i.int.toNat + 1))≤1073741824
    omega
   ·rw [List.append_assoc]
    exact hk
  ·rw [List.drop_of_length_le (by omega),shotLines,List.append_nil] at hk
   exact hk
 ·exact h.elim
theorem reach_ok:SpecFP PR 18 eachP eachS:=fun fn us hfn hpre=>by
 have hf:PR.funcs[(18:Nat)]? = some Try.f18:=by kernel_rfl
 rw [hf] at hfn;cases hfn
 refine fn_okH (C:=reC) (mkC_ok eqs0_ok mixed_ok .nil (.cons rl2_ok .nil)) hf (by kernel_rfl) (loops_one (by kernel_rfl) re_loop) fun hok=>?_
 have hp:Try.f18.params.toList=[41]:=by kernel_rfl
 rw [hp] at hok
 obtain ⟨u,rfl,h1⟩:=shape1 (by kernel_rfl:Cs PR 41=some (true,[.int .i64,.int .i64,.str,.sl false [.sl true EC],.sl true SC,.sl true BC,.sl false [.int .i64]])) hok.1
 obtain ⟨c,sz,bk,T,S,M,Q,rfl⟩:∃ a b c d e f g,u=[a,b,c,d,e,f,g]:=match u,h1 with | [a,b,c,d,e,f,g],_=>⟨a,b,c,d,e,f,g,rfl⟩
 obtain ⟨h1,h2,h3⟩:T.list.length≤65536∧S.list.length≤1000∧shotsFit S.list=true:=hpre
 refine .eq (re_tree _ c sz bk T S M Q) ?_
 have hll:=linesOf_len (.i (-1)) T.list
 refine ⟨⟨by trivial,h1⟩,⟨by trivial,by trivial,by trivial,by trivial,by trivial,by trivial,by trivial,by trivial,by omega,by omega,h2,?_,?_⟩,?_⟩
 ·rw [show Int.toNat 0=0 from rfl,Nat.sub_zero];omega
 ·exact h3
 ·rfl
end Go.Mat

namespace Go.Mat
open Go Go.Den Go.Proofs
theorem cover_nonneg (k:Nat):∀ L:List U,0≤coverR L k
 | []=>Int.le_refl _
 | l :: r=>by
  have h1:=cover_nonneg k r
  have h2:=(inI_01 (lnSt l).int ((lnSt l).int + (lnCt l).int) k).1
  rw [coverR]
  omega
end Go.Mat

namespace Go.Den
open Go Go.RowKit
theorem ownsRow_same {w w':World} {b:Nat} {e:TypeId} {s n:Nat} {v:Value} {xs:List Value} (h:w.ownsRow b e s v n xs) (hb:∀ g,v.ownBlock=some g→w'.heap[g]? = w.heap[g]?):w'.ownsRow b e s v n xs:=by
 refine ⟨h.1,?_⟩
 rcases h.2 with hn | ⟨g,cap,cur,rfl,hb',hg,rest⟩
 ·exact .inl hn
 ·exact .inr ⟨g,cap,cur,rfl,hb',(hb g rfl).trans hg,rest⟩
theorem blk_own {w:World} {b:Nat} {e:TypeId} {s n:Nat} {v:Value} {xs:List Value} (h:w.ownsRow b e s v n xs):blk v=v.ownBlock:=by
 rcases h.2 with ⟨rfl,_⟩ | ⟨g,cap,cur,rfl,_⟩<;>rfl
theorem own_plain {w:World} {b:Nat} {e:TypeId} {s n:Nat} {v:Value} {xs:List Value} (h:w.ownsRow b e s v n xs) {g:Nat} (hg:v.ownBlock=some g):Plain w g:=by
 rcases h.2 with ⟨rfl,_⟩ | ⟨g',cap,cur,rfl,_,h',_⟩
 ·cases hg
 ·cases hg;exact ⟨_,_,h'⟩
theorem own_one {w:World} {b:Nat} {e:TypeId} {s n:Nat} {v:Value} {xs:List Value} (h:w.ownsRow b e s v n xs):v.oneCell' = true:=by
 rcases h.2 with ⟨rfl,_⟩ | ⟨g,cap,cur,rfl,_⟩<;>rfl
theorem RepL.scal {w:World} {Z Z':Nat→Prop}:∀ {cs:List Ct} {vs:List Value} {us:List U},scalarCs cs=true→RepL w Z cs vs us→RepL w Z' cs vs us
 | [],_,_,_,h=>h
 | c :: cs,_,_,hs,h=>by
  obtain ⟨v,t,hv,hr,ht⟩:=h
  unfold scalarCs at hs
  cases c<;>first | exact ⟨v,t,hv,hr,RepL.scal hs ht⟩ | cases hs
theorem RepElems.scal {w:World} {Z Z':Nat→Prop} {m:Bool} {cs:List Ct} (hs:scalarCs cs=true):∀ {us:List U} {vs:List Value},RepElems w Z m cs us vs→RepElems w Z' m cs us vs
 | [],_,h=>h
 | _ :: _,_,h=>by
  obtain ⟨p,q,hv,hr,ht⟩:=h
  exact ⟨p,q,hv,RepL.scal hs hr,RepElems.scal hs ht⟩
theorem at_app {xs:List U} {u:U} {j:Nat}:U.at (xs ++ [u]) j=if j < xs.length then U.at xs j else if j=xs.length then u else .i 0:=by
 induction xs generalizing j with
 | nil=>cases j<;>simp [nth]
 | cons x r ih=>
  cases j with
  | zero=>simp [nth]
  | succ j=>simp only [List.cons_append,nth_succ,List.length_cons,Nat.add_lt_add_iff_right,Nat.add_right_cancel_iff];exact ih
def DRow (w:World) (te:TypeId) (cs:List Ct) (v:Value) (u:U):Prop:=∃ vs,w.ownsRow 0 te cs.length v u.list.length vs∧RepElems w (fun _=>False) true cs u.list vs
theorem DRow.same {w w':World} {te:TypeId} {cs:List Ct} {v:Value} {u:U} (h:DRow w te cs v u) (hb:∀ g,v.ownBlock=some g→w'.heap[g]? = w.heap[g]?):DRow w' te cs v u:=by
 obtain ⟨vs,h1,h2⟩:=h
 exact ⟨vs,ownsRow_same h1 hb,RepElems.mono ⟨fun _ h=>h,fun _ h=>h.elim⟩ h2⟩
theorem DRow.lt {w:World} {te:TypeId} {cs:List Ct} {v:Value} {u:U} (h:DRow w te cs v u) {b:Nat} (hb:v.ownBlock=some b):b < w.heap.size:=by
 obtain ⟨vs,h1,_⟩:=h
 exact (h1.lt b hb).2
theorem DRow.one {w:World} {te:TypeId} {cs:List Ct} {v:Value} {u:U} (h:DRow w te cs v u):v.oneCell' = true:=by
 obtain ⟨vs,h1,_⟩:=h
 exact own_one h1
theorem DRow.rep {w:World} {te:TypeId} {cs:List Ct} {v:Value} {u:U} {Z:Nat→Prop} (h:DRow w te cs v u) (hZ:∀ b,v.ownBlock=some b→Z b):RepC w Z (.sl true cs) v u:=by
 obtain ⟨vs,h1,h2⟩:=h
 exact own_rep (fun _ h=>h.elim) (fun b hb=>hZ b (by rw [← blk_own h1];exact hb)) h1 h2
theorem DRow.plain {w:World} {te:TypeId} {cs:List Ct} {v:Value} {u:U} (h:DRow w te cs v u) {b:Nat} (hb:v.ownBlock=some b):Plain w b:=by
 obtain ⟨vs,h1,_⟩:=h
 exact own_plain h1 hb
theorem DRow.nil (w:World) (te:TypeId) (cs:List Ct):DRow w te cs (.slice none 0 0) (.l []):=⟨[],World.ownsRow_nil w 0 te cs.length,rfl⟩
structure DeepR (te tr:TypeId) (cs:List Ct) (F:Nat→Prop) (w:World) (v:Value) (rows:List Value) (xs:List U):Prop where
 own:w.ownsRow 0 tr 1 v rows.length rows
 len:rows.length=xs.length
 home:∀ b,v.ownBlock=some b→F b
 row:∀ (j:Nat) (r:Value),rows[j]? = some r→DRow w te cs r (U.at xs j)
 rowF:∀ (j:Nat) (r:Value) (b:Nat),rows[j]? = some r→r.ownBlock=some b→F b∧v.ownBlock≠some b
 apart:∀ (i j:Nat) (r r':Value) (b:Nat),rows[i]? = some r→rows[j]? = some r'→r.ownBlock=some b→r'.ownBlock=some b→i=j
section
variable {te tr:TypeId} {cs:List Ct} {F:Nat→Prop} {w w':World} {v v':Value} {rows:List Value} {xs:List U}
theorem DeepR.nil (te tr:TypeId) (cs:List Ct) (F:Nat→Prop) (w:World):DeepR te tr cs F w (.slice none 0 0) [] []:=
 ⟨World.ownsRow_nil w 0 tr 1,rfl,fun b h=>(by cases h),fun j r h=>(by simp at h),fun j r b h=>(by simp at h),fun i j r r' b h=>(by simp at h)⟩
theorem DeepR.same (D:DeepR te tr cs F w v rows xs) (h:∀ b,F b→b < w.heap.size→w'.heap[b]? = w.heap[b]?):DeepR te tr cs F w' v rows xs where
 own:=ownsRow_same D.own fun g hg=>h g (D.home g hg) (D.own.lt g hg).2
 len:=D.len
 home:=D.home
 row:=fun j r hr=>(D.row j r hr).same fun g hg=>h g (D.rowF j r g hr hg).1 ((D.row j r hr).lt hg)
 rowF:=D.rowF
 apart:=D.apart
theorem DeepR.push (D:DeepR te tr cs F w v rows xs) {r:Value} {u:U} (hr:DRow w te cs r u) (hrF:∀ b,r.ownBlock=some b→F b∧v.ownBlock≠some b∧∀ (j:Nat) (r':Value),rows[j]? = some r'→r'.ownBlock≠some b)
  (own':w'.ownsRow 0 tr 1 v' (rows.length + 1) (rows ++ [r])) (g:w.grownBy w' v.ownBlock) (hv:v'.ownBlock=v.ownBlock∨v'.ownBlock=some w.heap.size) (hF:F w.heap.size):DeepR te tr cs F w' v' (rows ++ [r]) (xs ++ [u]):=by
 have at_:∀ (j:Nat) (x:Value),(rows ++ [r])[j]? = some x→(rows[j]? = some x∧j < rows.length)∨(j=rows.length∧x=r):=fun j x h=>by
  rw [List.getElem?_append] at h
  split at h
  ·rename_i hj;exact .inl ⟨h,hj⟩
  ·rename_i hj
   by_cases e:j=rows.length
   ·subst e;simp at h;exact .inr ⟨rfl,h.symm⟩
   ·rw [List.getElem?_eq_none (by simp;omega)] at h;cases h
 have keep:∀ x u,DRow w te cs x u→(∀ b,x.ownBlock=some b→v.ownBlock≠some b)→DRow w' te cs x u:=fun x u hx hb=>hx.same fun b hb'=>g.block b (hx.lt hb') fun e=>hb b hb' e.symm
 refine ⟨by simpa using own',by simp [D.len],fun b hb=>?_,fun j x hx=>?_,fun j x b hx hb=>?_,fun i j x y b hx hy h1 h2=>?_⟩
 ·rcases hv with e | e
  ·exact D.home b (e ▸ hb)
  ·rw [e] at hb;cases hb;exact hF
 ·rw [at_app]
  rcases at_ j x hx with ⟨h,hj⟩ | ⟨rfl,rfl⟩
  ·rw [if_pos (by rw [← D.len];exact hj)]
   exact keep _ _ (D.row j x h) fun b hb=>(D.rowF j x b h hb).2
  ·rw [if_neg (by rw [D.len];omega),if_pos D.len]
   exact keep _ _ hr fun b hb=>(hrF b hb).2.1
 ·rcases at_ j x hx with ⟨h,hj⟩ | ⟨rfl,rfl⟩
  ·refine ⟨(D.rowF j x b h hb).1,fun e=>?_⟩
   rcases hv with e' | e'
   ·exact (D.rowF j x b h hb).2 (e' ▸ e)
   ·rw [e'] at e;cases e;have:=(D.row j x h).lt hb;omega
  ·refine ⟨(hrF b hb).1,fun e=>?_⟩
   rcases hv with e' | e'
   ·exact (hrF b hb).2.1 (e' ▸ e)
   ·rw [e'] at e;cases e;have:=hr.lt hb;omega
 ·rcases at_ i x hx with ⟨hi,hi'⟩ | ⟨rfl,rfl⟩<;>rcases at_ j y hy with ⟨hj,hj'⟩ | ⟨rfl,rfl⟩
  ·exact D.apart i j x y b hi hj h1 h2
  ·exact ((hrF b h2).2.2 i x hi h1).elim
  ·exact ((hrF b h1).2.2 j y hj h2).elim
  ·rfl
theorem rep_rows {Z:Nat→Prop} {c:Ct}:∀ {xs:List U} {rows:List Value},rows.length=xs.length→(∀ (j:Nat) (r:Value),rows[j]? = some r→RepC w Z c r (U.at xs j))→RepElems w Z false [c] xs rows
 | [],[],_,_=>rfl
 | _ :: _,[],h,_=>by simp at h
 | [],_ :: _,h,_=>by simp at h
 | x :: xs,r :: rows,h,hr=>⟨[r],rows,rfl,⟨r,[],rfl,hr 0 r rfl,rfl⟩,rep_rows (by simpa using h) fun j r' hj=>hr (j + 1) r' (by simpa using hj)⟩
theorem DeepR.reps (D:DeepR te tr cs F w v rows xs) {Z:Nat→Prop} (hZ:∀ (j:Nat) (r:Value) (b:Nat),rows[j]? = some r→r.ownBlock=some b→Z b):RepElems w Z false [.sl true cs] xs rows:=
 rep_rows D.len fun j r hr=>(D.row j r hr).rep fun b hb=>hZ j r b hr hb
end
theorem lit1_run {P:Program} {w:World} {t e:TypeId} {c:Ct} {r:Value} (hu:P.underlying t=some (.slice e)) (hcs:Cs P e=some (false,[c])) (hsm:smallType P e=true) (h1:r.oneCell' = true) :
  (Instr.buildSlice t 1 #[(0,r)]).run P w = .ok (.slice (some ⟨w.heap.size,0,none⟩) 1 1) (w.alloc (.cells #[r] e)):=by
 obtain ⟨i,m,cs',zv,g1,g2,g3,g4,g5,g6,g7⟩:=smallType_some hsm
 rw [hcs] at g2
 cases g2
 have hs:i.size=1:=g5
 have hc:r.cells = #[r]:=cells_one h1
 refine run_buildSlice w t e 1 #[(0,r)] #[r] i zv hu g1 g3 (by rw [hs];decide) (by rw [hs];decide) ?_
 have hr:Array.range 1 = #[0]:=rfl
 simp [hs,Instr.fill,hc,hr]
theorem push_run {P:Program} {w:World} {t ty e:TypeId} {c:Ct} {v r:Value} {n b cap:Nat} {xs:List Value} (hu:P.underlying t=some (.slice e)) (hcs:Cs P e=some (false,[c])) (hsm:smallType P e=true) (hown:w.ownsRow 0 e 1 v n xs)
  (hr:w.cell? ⟨b,0,none⟩=some r) (h1:r.oneCell' = true) (hroom:n + 1≤room) :
  ∃ v' w',(Builtin.append_ #[t,t] ty #[v,.slice (some ⟨b,0,none⟩) 1 cap]).run P w = .ok v' w'∧w'.ownsRow 0 e 1 v' (n + 1) (xs ++ [r])∧w.grownBy w' v.ownBlock∧(v'.ownBlock=v.ownBlock∨v'.ownBlock=some w.heap.size):=by
 obtain ⟨i,m,cs',zv,g1,g2,g3,g4,g5,g6,g7⟩:=smallType_some hsm
 rw [hcs] at g2
 cases g2
 refine run_append_src t t ty e i zv 1 hu g1 g3 g5 g6 (by decide) g4 v n xs hown _ 1 [r] (Src.ofSlice w hu ⟨b,0,none⟩ 1 cap [r] rfl (fun j u hj=>?_) (fun u hu=>?_)) hroom
 ·cases j with
  | zero=>simp at hj;subst hj;exact hr
  | succ j=>simp at hj
 ·have:u=r:=by simpa using hu
  subst this;exact h1
end Go.Den

namespace Go.Den
open Go Go.RowKit
section
variable {P:Program} {o:Oper} {a:Act} {w:World} {K:Act→World→Prop} {Q:Exit→Act→World→Prop}
theorem call_op {f:FuncId} {fn:Func} {args:Array Operand} {ts:Array TypeId} (ho:o.op = .call { callee:=.value (.func f),args:=args,argTypes:=ts }) (hf:P.funcs[f]? = some fn) (hbody:fn.body.isNone=false) (hname:(fn.name == "runtime.NumGoroutine")=false)
  (h:Calls P f (args.toList.map a.eval).toArray w fun e w'=>∃ v,e = .returned v∧K (a.put o.dst v) w'):o.wp P a w K Q:=by
 unfold Oper.wp execOp
 have hrun:(do let d ← resolve a.eval { callee:=.value (.func f),args:=args,argTypes:=ts } o.type;invoke d.target d.args:Sem Next).run P w = .ok (.enter f (args.toList.map a.eval).toArray) w:=by
  have harr:args.map a.eval=(args.toList.map a.eval).toArray:=by apply Array.ext';simp
  have hn:¬ fn.name = "runtime.NumGoroutine" := by simpa using hname
  have hb:¬ fn.body=none:=by intro e;rw [e] at hbody;cases hbody
  have hcf:a.eval (.func f) = .func (.func f) #[] #[]:=rfl
  simp [resolve,hcf,Deferred.ofValue,invoke,callFunc,hf,hn,hb,harr]
 simp only [ho,hrun,Oper.upon]
 refine h.mono fun e w' ⟨v,he,hk⟩=>?_
 subst he
 exact hk
theorem wpOp_do {ops:Array Oper} {i:Nat} (hi:ops[i]? = some o) (hg:o.guard=none) (h:o.wp P a w K Q):wpOp P ops Q i K a w:=by
 unfold wpOp
 simp only [hi]
 rw [if_pos (by simp [Region.wanted,hg])]
 exact .inl h
theorem yields_of {ops:Array Oper} {v:Value} (hg:o.guard=none) (h:∀ w,(execOp a.eval o).run P w = .ok (.value v) w):Yields P ops o v a:=
 .inl ⟨by simp [Region.wanted,hg],h⟩
theorem run_fieldAddr {s:TypeId} {x:Operand} {f k:Nat} {fd:Field} {b off:Nat} (ho:o.op = .fieldAddr s x f) (hf:fieldOf P s f=some fd) (hs:sizeT P fd.type=some (k + 1)) (hx:a.eval x = .pointer (some ⟨b,off,none⟩)) (w:World) :
  (execOp a.eval o).run P w = .ok (.value (.pointer (some ⟨b,off + fd.offset,none⟩))) w:=by
 unfold fieldOf at hf
 split at hf
 ·rename_i fs hu
  simp [execOp,ho,hx,Instr.fieldAt,run_underlying hu,hf,Instr.sureAddr,fieldPlace,run_size hs,addr_add]
 ·cases hf
theorem run_move {x:Operand} (ho:o.op = .move x) (w:World):(execOp a.eval o).run P w = .ok (.value (a.eval x)) w:=by simp [execOp,ho]
theorem push_op {te tr t:TypeId} {cs:List Ct} {F:Nat→Prop} {x y:Operand} {vo r:Value} {rows:List Value} {xs:List U} {row:U} {bs cap:Nat} (hu:P.underlying t=some (.slice tr)) (hcs:Cs P tr=some (false,[.sl true cs])) (hsm:smallType P tr=true)
  (ho:o.op = .call { callee:=.builtin .append,args:=#[x,y],argTypes:=#[t,t] }) (hx:a.eval x=vo) (hy:a.eval y = .slice (some ⟨bs,0,none⟩) 1 cap) (hbs:w.cell? ⟨bs,0,none⟩=some r) (D:DeepR te tr cs F w vo rows xs) (hr:DRow w te cs r row)
  (hrF:∀ b,r.ownBlock=some b→F b∧vo.ownBlock≠some b∧∀ (j:Nat) (r':Value),rows[j]? = some r'→r'.ownBlock≠some b) (hF:F w.heap.size) (hlen:xs.length + 1≤room)
  (hk:∀ vo' w',DeepR te tr cs F w' vo' (rows ++ [r]) (xs ++ [row])→w.grownBy w' vo.ownBlock→K (a.put o.dst vo') w'):o.wp P a w K Q:=by
 obtain ⟨vo',w',hrun,hown,hg,hv⟩:=push_run (ty:=o.type) hu hcs hsm D.own hbs hr.one (cap:=cap) (by rw [D.len];exact hlen)
 refine wp_value (v:=vo') (w':=w') ?_ (hk vo' w' (D.push hr hrF hown hg hv hF) hg)
 simp [execOp,ho,resolve,invoke,builtin,hx,hy,hrun]
theorem lit1_op {t e:TypeId} {c:Ct} {x:Operand} {r:Value} (hu:P.underlying t=some (.slice e)) (hcs:Cs P e=some (false,[c])) (hsm:smallType P e=true) (ho:o.op = .buildSlice t 1 #[(0,x)]) (hx:a.eval x=r) (h1:r.oneCell' = true)
  (hk:K (a.put o.dst (.slice (some ⟨w.heap.size,0,none⟩) 1 1)) (w.alloc (.cells #[r] e))):o.wp P a w K Q:=by
 refine wp_value (v:=.slice (some ⟨w.heap.size,0,none⟩) 1 1) (w':=w.alloc (.cells #[r] e)) ?_ hk
 have hrun:=lit1_run (w:=w) hu hcs hsm h1
 simp [execOp,ho,hx,hrun]
theorem store1_op {t ty:TypeId} {x y:Operand} {b:Nat} {v u:Value} (hs:sizeT P t=some 1) (ho:o.op = .store t x y) (hx:a.eval x = .pointer (some ⟨b,0,none⟩)) (hy:a.eval y=v) (h1:v.cells = #[u]) (hu:u.oneCell' = true) {c:Array Value} (hc:c.size=1) (hB:w.heap[b]? = some (.cells c ty (0,0)))
  (hk:∀ w',w'.heap[b]? = some (.cells #[u] ty (0,0))→w.grownBy w' (some b)→w'.heap.size=w.heap.size→K (a.put o.dst undef) w'):o.wp P a w K Q:=by
 have hrun:=run_storeVar_block (P:=P) (w:=w) (t:=t) (k:=1) (b:=b) (o:=0) (ty:=ty) (cur:=c) (v:=v) hs (by rw [h1];rfl) (fun z hz=>by
  have:z=u:=by rw [h1] at hz;simpa using hz
  subst this;exact hu) hB (by omega)
 obtain ⟨cur',g1,g2,g3⟩:=setCells_block b ty v.cells.toList 0 w c hB (by rw [h1];simp [hc])
 refine wp_skip_ (w':=w.setCells b 0 v.cells.toList) (by simp [execOp,ho,hx,Instr.storeAt,Instr.sureAddr,hy,hrun]) (hk _ ?_ (setCells_grown b _ 0 w) (setCells_plain b _ 0 w).2.2.2)
 rw [g1]
 have h2:cur'.toList=[u]:=by
  have:cur'.toList.length=1:=by rw [Array.length_toList,g3,hc]
  rw [h1] at g2
  simp at g2
  rw [g2,List.eq_nil_of_length_eq_zero (l:=c.toList.tail) (by simp [hc])]
 have h3:cur' = #[u]:=by apply Array.ext';simpa using h2
 rw [h3]
theorem load1_op {t:TypeId} {d:TypeDesc} {x:Operand} {b off:Nat} {v:Value} (hu:P.underlying t=some d) (hd:aggD d=false) (ho:o.op = .load t x) (hx:a.eval x = .pointer (some ⟨b,off,none⟩)) (hc:w.cell? ⟨b,off,none⟩=some v) (hk:K (a.put o.dst v) w):o.wp P a w K Q:=
 op_load ho hx (run_loadVar_one hu hd hc) hk
theorem cell_one {b:Nat} {v:Value} {ty:TypeId} (h:w.heap[b]? = some (.cells #[v] ty (0,0))):w.cell? ⟨b,0,none⟩=some v:=by
 rw [cell_of_row w b 0 #[v] ty (0,0) h];rfl
theorem loadA_op {t ty:TypeId} {d:TypeDesc} {x:Operand} {b:Nat} {v:Value} (hu:P.underlying t=some d) (hd:aggD d=true) (hs:sizeT P t=some 1) (ho:o.op = .load t x) (hx:a.eval x = .pointer (some ⟨b,0,none⟩)) (hB:w.heap[b]? = some (.cells #[v] ty (0,0))) (hk:K (a.put o.dst (.agg #[v])) w):o.wp P a w K Q:=
 op_load ho hx (run_loadVar_agg (vs:=[v]) hu hd hs rfl (fun j u hj=>by
  cases j with
  | zero=>simp at hj;subst hj;exact cell_one hB
  | succ j=>simp at hj)) hk
theorem results_cell {fn:Func} {tmps:Array Value} {x:Nat} {t:TypeId} {b:Nat} {u:Value} (hr:fn.results = #[.cell x t]) (hx:tmps.getD x undef = .pointer (some ⟨b,0,none⟩)) (hl:(loadVar t ⟨b,0,none⟩).run P w = .ok u w):(results fn tmps).run P w = .ok u w:=by
 have h0:(resOf tmps (.cell x t)).run P w = .ok u w:=by simp [resOf,hx,asAddr,hl]
 rw [results_of,hr,Array.mapM_eq_mapM_toList]
 simp [h0]
theorem wp_range {P:Program} {id t:Nat} {C B S:Code} {c:Operand} {Q:Exit→Act→World→Prop} {a:Act} {w:World} (I J:Nat→Act→World→Prop) (N:Nat) (hI:∀ j a w,I j a w→a.eval (.tmp t) = .int .i64 j) {j0:Nat} (hj0:j0≤N) (h0:I j0 a w)
  (hC:∀ j a w,j≤N→I j a w→C.wp P (fun e a w=>e = .normal∧a.eval c = .bool (decide (j < N))∧I j a w) a w)
  (hB:∀ j a w,j < N→I j a w→B.wp P (fun e a w=>e = .normal∧J j a w) a w)
  (hS:∀ j a w,j < N→J j a w→S.wp P (fun e a w=>e = .normal∧I (j + 1) a w) a w)
  (hQ:∀ a w,I N a w→Q .normal a w):(Code.block id (.loop (.seq C (.seq (.cond c .skip (.exit id)) (.seq B S))))).wp P Q a w:=by
 refine wp_block (wp_loop (fun a w=>∃ j,j≤N∧I j a w) (fun a _=>N - (match a.eval (.tmp t) with | .int _ i=>i.toNat | _=>0)) ⟨j0,hj0,h0⟩ ?_)
 rintro a w ⟨j,hj,hIj⟩
 refine wp_seq (wp_mono (hC j a w hj hIj) ?_)
 rintro e a1 w1 ⟨rfl,hc,h1⟩
 refine wp_seq (wp_cond_split hc (fun hlt=>wp_skip ?_) (fun hlt=>wp_exit ?_))
 ·have hlt:j < N:=of_decide_eq_true hlt
  refine wp_seq (wp_mono (hB j a1 w1 hlt h1) ?_)
  rintro e a2 w2 ⟨rfl,h2⟩
  refine wp_mono (hS j a2 w2 hlt h2) ?_
  rintro e a3 w3 ⟨rfl,h3⟩
  refine ⟨⟨j + 1,hlt,h3⟩,?_⟩
  show N - _ < N - _
  rw [hI _ _ _ h3,hI _ _ _ hIj]
  show N - ((j + 1:Nat):Int).toNat < N - (j:Int).toNat
  omega
 ·show if id=id then Q .normal a1 w1 else Q (.exit id) a1 w1
  rw [if_pos rfl]
  have hge:¬ j < N:=of_decide_eq_false hlt
  have:j=N:=by omega
  subst this
  exact hQ a1 w1 h1
end
end Go.Den

namespace Go.Den
open Go Go.RowKit
theorem at_set {xs:List U} {k j:Nat} {u:U} (hk:k < xs.length):U.at (xs.set k u) j=if j=k then u else U.at xs j:=by
 induction xs generalizing k j with
 | nil=>simp at hk
 | cons x r ih=>
  cases k with
  | zero=>cases j<;>simp [nth]
  | succ k=>
   cases j with
   | zero=>simp [nth]
   | succ j=>simp only [List.set_cons_succ,nth_succ,Nat.add_right_cancel_iff];exact ih (by simpa using hk)
theorem at_take {xs:List U} {n j:Nat} (hj:j < n):U.at (xs.take n) j=U.at xs j:=by
 induction xs generalizing n j with
 | nil=>simp
 | cons x r ih=>
  cases n with
  | zero=>omega
  | succ n=>
   cases j with
   | zero=>rfl
   | succ j=>simp only [List.take_succ_cons,nth_succ];exact ih (by omega)
theorem getElem?_set_row {rows:List Value} {k j:Nat} {r x:Value} (h:(rows.set k r)[j]? = some x):(j=k∧x=r)∨(j≠k∧rows[j]? = some x):=by
 rw [List.getElem?_set] at h
 split at h
 ·rename_i e
  split at h
  ·injection h with h;exact .inl ⟨e.symm,h.symm⟩
  ·cases h
 ·rename_i e;exact .inr ⟨fun h=>e h.symm,h⟩
section
variable {te tr:TypeId} {cs:List Ct} {F:Nat→Prop} {w w':World} {v v':Value} {rows:List Value} {xs:List U}
theorem DeepR.poke (D:DeepR te tr cs F w v rows xs) {k:Nat} {r:Value} {u:U} (hk:rows[k]? = some r) (hr:DRow w' te cs r u) (hf:∀ b,b < w.heap.size→r.ownBlock≠some b→w'.heap[b]? = w.heap[b]?):DeepR te tr cs F w' v rows (xs.set k u) where
 own:=ownsRow_same D.own fun g hg=>hf g (D.own.lt g hg).2 fun e=>(D.rowF k r g hk e).2 hg
 len:=by rw [List.length_set];exact D.len
 home:=D.home
 row:=fun j x hx=>by
  have hkl:k < xs.length:=by rw [← D.len];exact (List.getElem?_eq_some_iff.1 hk).1
  rw [at_set hkl]
  split
  ·rename_i e;subst e
   rw [hk] at hx;cases hx
   exact hr
  ·rename_i e
   exact (D.row j x hx).same fun g hg=>hf g ((D.row j x hx).lt hg) fun e'=>e (D.apart j k x r g hx hk hg e')
 rowF:=D.rowF
 apart:=D.apart
theorem DeepR.same2 (D:DeepR te tr cs F w v rows xs) (h:∀ b,b < w.heap.size→(v.ownBlock=some b∨∃ (j:Nat) (r:Value),rows[j]? = some r∧r.ownBlock=some b)→w'.heap[b]? = w.heap[b]?):DeepR te tr cs F w' v rows xs where
 own:=ownsRow_same D.own fun g hg=>h g (D.own.lt g hg).2 (.inl hg)
 len:=D.len
 home:=D.home
 row:=fun j r hr=>(D.row j r hr).same fun g hg=>h g ((D.row j r hr).lt hg) (.inr ⟨j,r,hr,hg⟩)
 rowF:=D.rowF
 apart:=D.apart
theorem DeepR.put (D:DeepR te tr cs F w v rows xs) {k:Nat} {r:Value} {u:U} (hk:k < rows.length) (hr:DRow w te cs r u) (hrF:∀ b,r.ownBlock=some b→F b∧v.ownBlock≠some b∧∀ (j:Nat) (r':Value),j≠k→rows[j]? = some r'→r'.ownBlock≠some b)
  (own':w'.ownsRow 0 tr 1 v rows.length (rows.set k r)) (hf:∀ b,b < w.heap.size→v.ownBlock≠some b→w'.heap[b]? = w.heap[b]?):DeepR te tr cs F w' v (rows.set k r) (xs.set k u) where
 own:=by rw [List.length_set];exact own'
 len:=by rw [List.length_set,List.length_set];exact D.len
 home:=D.home
 row:=fun j x hx=>by
  have hkl:k < xs.length:=by rw [← D.len];exact hk
  rw [at_set hkl]
  rcases getElem?_set_row hx with ⟨rfl,rfl⟩ | ⟨hne,hx⟩
  ·rw [if_pos rfl]
   exact hr.same fun g hg=>hf g (hr.lt hg) (hrF g hg).2.1
  ·rw [if_neg hne]
   exact (D.row j x hx).same fun g hg=>hf g ((D.row j x hx).lt hg) (D.rowF j x g hx hg).2
 rowF:=fun j x b hx hb=>by
  rcases getElem?_set_row hx with ⟨rfl,rfl⟩ | ⟨_,hx⟩
  ·exact ⟨(hrF b hb).1,(hrF b hb).2.1⟩
  ·exact D.rowF j x b hx hb
 apart:=fun i j x y b hx hy h1 h2=>by
  rcases getElem?_set_row hx with ⟨e1,e2⟩ | ⟨hne,hx2⟩<;>rcases getElem?_set_row hy with ⟨e3,e4⟩ | ⟨hne',hy2⟩
  ·exact e1.trans e3.symm
  ·subst e2;exact ((hrF b h1).2.2 j y hne' hy2 h2).elim
  ·subst e4;exact ((hrF b h2).2.2 i x hne hx2 h1).elim
  ·exact D.apart i j x y b hx2 hy2 h1 h2
theorem DeepR.take (D:DeepR te tr cs F w v rows xs) {m:Nat} (hb:v'.ownBlock=v.ownBlock) (own':w.ownsRow 0 tr 1 v' (rows.take m).length (rows.take m)):DeepR te tr cs F w v' (rows.take m) (xs.take m) where
 own:=own'
 len:=by simp [D.len]
 home:=fun b h=>D.home b (hb ▸ h)
 row:=fun j x hx=>by
  rw [List.getElem?_take] at hx
  split at hx
  ·rename_i hj;rw [at_take hj];exact D.row j x hx
  ·cases hx
 rowF:=fun j x b hx hb'=>by
  rw [List.getElem?_take] at hx
  split at hx
  ·rw [hb];exact D.rowF j x b hx hb'
  ·cases hx
 apart:=fun i j x y b hx hy h1 h2=>by
  rw [List.getElem?_take] at hx hy
  split at hx
  ·split at hy
   ·exact D.apart i j x y b hx hy h1 h2
   ·cases hy
  ·cases hx
end
section
variable {P:Program} {o:Oper} {a:Act} {w:World} {K:Act→World→Prop} {Q:Exit→Act→World→Prop}
theorem take_op {te tr t:TypeId} {cs:List Ct} {F:Nat→Prop} {x y:Operand} {kd:IntKind} {m:Nat} {vo:Value} {rows:List Value} {xs:List U} (hu:P.underlying t=some (.slice tr)) (hs:sizeT P tr=some 1) (ho:o.op = .slice t x none (some y) none) (hx:a.eval x=vo) (hy:a.eval y = .int kd (m:Int))
  (D:DeepR te tr cs F w vo rows xs) (hm:m≤xs.length) (hk:∀ vo',DeepR te tr cs F w vo' (rows.take m) (xs.take m)→K (a.put o.dst vo') w):o.wp P a w K Q:=by
 have hlen:(rows.take m).length=m:=by rw [List.length_take,D.len];omega
 have hD:=D.len
 rcases D.own.2 with ⟨rfl,h0⟩ | ⟨g,cap,cur,rfl,h1,h2,h3,h4,h5,h6⟩
 ·have hm0:m=0:=by omega
  subst hm0
  have hbr:=run_bounds (P:=P) (isSlice:=true) (w:=w) (a:=a) (len:=0) (cap:=0) (Nat.le_refl _) (lo:=none) (l:=none) (.inl ⟨rfl,rfl⟩) (hi:=some y) (h:=some ((0:Nat):Int)) (.inr ⟨y,kd,_,rfl,rfl,hy⟩) (mx:=none) (m:=none) (.inl ⟨rfl,rfl⟩) (by simp) (by simp)
  refine wp_value (v:=.slice none 0 0) (w':=w) ?_ (hk _ (D.take (v':=.slice none 0 0) rfl (by simpa using World.ownsRow_nil w 0 tr 1)))
  simp at hbr
  simp [execOp,ho,hx,Instr.sliceAt,Instr.slice,run_underlying hu,hbr,run_size hs]
 ·have hbr:=run_bounds (P:=P) (isSlice:=true) (w:=w) (a:=a) (len:=rows.length) (cap:=cap) h3 (lo:=none) (l:=none) (.inl ⟨rfl,rfl⟩) (hi:=some y) (h:=some ((m:Nat):Int)) (.inr ⟨y,kd,_,rfl,rfl,hy⟩) (mx:=none) (m:=none) (.inl ⟨rfl,rfl⟩) (by simp) (by simp;omega)
  refine wp_value (v:=.slice (some ⟨g,0,none⟩) m cap) (w':=w) ?_ (hk _ (D.take (v':=.slice (some ⟨g,0,none⟩) m cap) rfl ?_))
  ·simp at hbr
   simp [execOp,ho,hx,Instr.sliceAt,Instr.slice,run_underlying hu,hbr,run_size hs,addr_add]
  ·rw [hlen]
   refine ⟨by rw [hlen];omega,.inr ⟨g,cap,cur,rfl,h1,h2,by omega,h4,h5,?_⟩⟩
   rw [← h6,List.take_take]
   congr 1
   omega
theorem lay_op {te tr t:TypeId} {cs:List Ct} {F:Nat→Prop} {x y:Operand} {g k:Nat} {vo r:Value} {rows:List Value} {xs:List U} {u:U} (hs:sizeT P t=some 1) (ho:o.op = .store t x y) (hx:a.eval x = .pointer (some ⟨g,k,none⟩)) (hg:vo.ownBlock=some g) (hy:a.eval y=r)
  (D:DeepR te tr cs F w vo rows xs) (hk:k < rows.length) (hr:DRow w te cs r u) (hrF:∀ b,r.ownBlock=some b→F b∧vo.ownBlock≠some b∧∀ (j:Nat) (r':Value),j≠k→rows[j]? = some r'→r'.ownBlock≠some b)
  (hK:∀ w',DeepR te tr cs F w' vo (rows.set k r) (xs.set k u)→w.grownBy w' (some g)→w'.heap.size=w.heap.size→K (a.put o.dst undef) w'):o.wp P a w K Q:=by
 rcases D.own.2 with ⟨rfl,_⟩ | ⟨g',cap,cur,rfl,h1,h2,h3,h4,h5,h6⟩
 ·cases hg
 ·obtain rfl:g' = g:=by simpa [Value.ownBlock] using hg
  have hr1:=hr.one
  have hcs:=cells_one hr1
  have hrun:=run_storeVar_block (P:=P) (w:=w) (t:=t) (k:=1) (b:=g') (o:=k) (ty:=tr) (cur:=cur) (v:=r) hs (by rw [hcs];rfl) (fun z hz=>by
   have:z=r:=by rw [hcs] at hz;simpa using hz
   subst this;exact hr1) h2 (by omega)
  rw [hcs] at hrun
  obtain ⟨cur',g1,g2,g3⟩:=setCells_block g' tr [r] k w cur h2 (by simp;omega)
  have hgr:=setCells_grown g' [r] k w
  refine wp_skip_ (w':=w.setCells g' k [r]) (by simp [execOp,ho,hx,Instr.storeAt,Instr.sureAddr,hy,hrun]) (hK _ (D.put hk hr hrF ⟨by simp,.inr ⟨g',cap,cur',rfl,h1,g1,h3,h4,by rw [g3,h5],?_⟩⟩ (fun b hb hne=>setCells_other g' _ _ _ _ fun e=>hne (by rw [e];rfl))) hgr (setCells_plain g' _ _ w).2.2.2)
  have hcl:cur.toList.length=cap:=by rw [Array.length_toList,h5];omega
  apply List.ext_getElem?
  intro j
  rw [List.getElem?_take,g2,List.append_assoc]
  by_cases hj:j < rows.length * 1
  ·rw [if_pos hj]
   have h6j:(cur.toList.take (rows.length * 1))[j]? = rows[j]?:=by rw [h6]
   rw [List.getElem?_take,if_pos hj] at h6j
   by_cases hjk:j < k
   ·rw [List.getElem?_append_left (by simp;omega),List.getElem?_take,if_pos hjk,h6j,List.getElem?_set_ne (by omega)]
   ·rw [List.getElem?_append_right (by simp;omega)]
    have htk:(cur.toList.take k).length=k:=by rw [List.length_take];omega
    rw [htk]
    by_cases e:j=k
    ·subst e;simp [hk]
    ·rw [List.getElem?_append_right (by simp;omega),List.getElem?_drop,List.getElem?_set_ne (by omega),← h6j]
     congr 1
     simp;omega
  ·rw [if_neg hj,List.getElem?_eq_none (by simp;omega)]
end
theorem Sim.begin1 {P:Program} {n id:Nat} {e:TypeId} {us:List U} {env:List (Nat × SV)} {a:Act} {w:World} {Z:Nat→Prop} {G:Nat→Value} (hsz:a.tmps.size=n) (hslot:∀ t,RepSV w Z G (get env t) (a.tmps.getD t undef)) (hZ:∀ b,Z b→b < w.heap.size) (hflat:∀ i,(G i).oneCell' = true)
  (hobj:RepO w Z G P id (.arr e us)) (hfree:∀ b,blk (G id)=some b→¬ Z b):Sim P ⟨w,fun b=>blk (G id)=some b,fun _=>False,Z,false,false,G,a.defers⟩ n ⟨env,[(id,.arr e us)]⟩ a w Z G where
 size:=hsz
 calm:=rfl
 slot:=hslot
 obj:=fun i o h=>by
  rw [getO_cons] at h
  split at h
  ·rename_i e;subst e;cases h;exact hobj
  ·cases h
 sep:=fun i j o o' b h1 h2 _ _=>by
  rw [getO_cons] at h1 h2
  split at h1
  ·split at h2
   ·rename_i e1 e2;exact e1.symm.trans e2
   ·cases h2
  ·cases h1
 free:=fun i o b h hb=>by
  rw [getO_cons] at h
  split at h
  ·rename_i e;subst e;exact ⟨hfree b hb,.inl hb⟩
  ·cases h
 keep:=fun _ _ _ _ _ h=>h.elim
 nlt:=fun _ h=>h.elim
 lt:=hZ
 fut:=Fut.refl _ w
 new:=fun _ h=>.inl h
 sub:=fun _ h=>h
 flat:=hflat
 odd:=fun _ _=>rfl
 row:=fun _ h=>.inl h
theorem it_regionO {C:Ctx} (hC:C.Ok) (hpan:∀ s σ,¬ C.pan s σ) {n id rid:Nat} {ty:TypeId} {us:List U} {ops:Array Oper} (hdef:ops.toList.all (fun o=>!isDefer o)=true) (hok:opersOk n ops.toList=true) {Q:Exit→Act→World→Prop} {env:List (Nat × SV)} {a:Act} {w:World} {Z:Nat→Prop} {G:Nat→Value}
  (hsz:a.tmps.size=n) (hslot:∀ t,RepSV w Z G (get env t) (a.tmps.getD t undef)) (hZ:∀ b,Z b→b < w.heap.size) (hflat:∀ i,(G i).oneCell' = true) (hobj:RepO w Z G C.P id (.arr ty us)) (hfree:∀ b,blk (G id)=some b→¬ Z b) {k:St→Prop} (h:execOps C ops.toList ops.toList ⟨env,[(id,.arr ty us)]⟩ k)
  (hQ:∀ σ' a' w' Z' G',k σ'→Sim C.P ⟨w,fun b=>blk (G id)=some b,fun _=>False,Z,false,false,G,a.defers⟩ n σ' a' w' Z' G'→(∀ t,(∀ o ∈ ops.toList,o.dst≠some t)→a'.tmps.getD t undef=a.tmps.getD t undef)→Q .normal a' w') :
  (Code.region rid ops false).wp C.P Q a w:=by
 have S:=Sim.begin1 (P:=C.P) hsz hslot hZ hflat hobj hfree
 refine (wpIn_wide (n:=0)).1 (wpIn_mono (wpIn_region (wpOpsIn_keep (v0:=fun t=>a.tmps.getD t undef) _ a w (fun _ _=>rfl) (Q:=fun e a' w'=>e = .normal∧∃ σ' Z' G',k σ'∧Sim C.P ⟨w,fun b=>blk (G id)=some b,fun _=>False,Z,false,false,G,a.defers⟩ n σ' a' w' Z' G') ?_)) ?_)
 ·have:=execOps_to (Q:=fun e a' w'=>e = .normal∧∃ σ' Z' G',k σ'∧Sim C.P ⟨w,fun b=>blk (G id)=some b,fun _=>False,Z,false,false,G,a.defers⟩ n σ' a' w' Z' G') hC (fun s σ' _ _ _ _ _ h=>(hpan s σ' h).elim) rfl rfl (fun _ _ h=>by cases h.1) hdef (ro:=none) (m:=0) (rest:=[]) (fun σ' a' w' Z' G' h S'=>⟨rfl,σ',Z',G',h,S'⟩) ops.toList 0 (fun j _=>by simp) hok S h
  rw [List.append_nil,Array.length_toList] at this
  rw [List.range_eq_range']
  exact this
 ·rintro e a' w' ⟨⟨rfl,σ',Z',G',hk,S'⟩,hkeep⟩
  exact hQ σ' a' w' Z' G' hk S' (hkeep rfl)
end Go.Den

namespace Go.Den
open Go Go.RowKit
abbrev PK:Type:=Int × Int
def kvP (k:PK):Value:=.agg #[.int .i64 k.1,.int .i64 k.2]
def pEnts:Nat→List (PK × Int)→List MapEntry
 | _,[]=>[]
 | n,(k,x) :: r=>{ key:=kvP k,val:=.int .i64 x,born:=n } :: pEnts (n + 1) r
def pHas (k:PK):List (PK × Int)→Bool
 | []=>false
 | (a,_) :: r=>decide (k=a) || pHas k r
def pPos (k:PK):List (PK × Int)→Nat
 | []=>0
 | (a,_) :: r=>bif decide (k=a) then 0 else pPos k r + 1
def pGet (k:PK):List (PK × Int)→Int
 | []=>0
 | (a,x) :: r=>bif decide (k=a) then x else pGet k r
def pPut (k:PK) (v:Int):List (PK × Int)→List (PK × Int)
 | []=>[(k,v)]
 | (a,x) :: r=>bif decide (k=a) then (a,v) :: r else (a,x) :: pPut k v r
theorem pPos_lt {k:PK}:∀ {es:List (PK × Int)},pHas k es=true→pPos k es < es.length
 | [],h=>by cases h
 | (a,x) :: r,h=>by
  unfold pHas at h
  unfold pPos
  cases hq:decide (k=a) with
  | true=>simp
  | false=>
   rw [hq] at h
   have:=pPos_lt (by simpa using h)
   simp only [cond_false,List.length_cons];omega
theorem pPos_no {k:PK}:∀ {es:List (PK × Int)},pHas k es=false→pPos k es=es.length∧pGet k es=0
 | [],_=>⟨rfl,rfl⟩
 | (a,x) :: r,h=>by
  unfold pHas at h
  simp only [Bool.or_eq_false_iff] at h
  obtain ⟨h1,h2⟩:=pPos_no h.2
  unfold pPos pGet
  rw [h.1]
  simp [h1,h2]
theorem pPut_new {k:PK} {v:Int}:∀ {es:List (PK × Int)} {n:Nat},pHas k es=false→pEnts n (pPut k v es)=pEnts n es ++ [{ key:=kvP k,val:=.int .i64 v,born:=n + es.length }]∧(pPut k v es).length=es.length + 1
 | [],n,_=>⟨rfl,rfl⟩
 | (a,x) :: r,n,h=>by
  unfold pHas at h
  simp only [Bool.or_eq_false_iff] at h
  obtain ⟨h1,h2⟩:=pPut_new (v:=v) (n:=n + 1) h.2
  unfold pPut
  rw [h.1,cond_false]
  refine ⟨?_,by simp [h2]⟩
  show _ :: pEnts (n + 1) (pPut k v r)=_
  rw [h1,show n + (((a,x) :: r).length)=n + 1 + r.length by simp;omega]
  rfl
theorem pPut_set {k:PK} {v:Int}:∀ {es:List (PK × Int)} {n:Nat},pHas k es=true→pEnts n (pPut k v es)=(pEnts n es).modify (pPos k es) (fun e=>{ e with val:=.int .i64 v })∧(pPut k v es).length=es.length∧(∃ e,(pEnts n es)[pPos k es]? = some e∧e.key=kvP k∧e.val = .int .i64 (pGet k es)∧e.born=n + pPos k es)
 | [],_,h=>by cases h
 | (a,x) :: r,n,h=>by
  unfold pHas at h
  unfold pPut pPos pGet
  cases hq:decide (k=a) with
  | true=>
   have:=of_decide_eq_true hq
   subst this
   exact ⟨by simp [pEnts],by simp,_,rfl,rfl,rfl,by simp⟩
  | false=>
   rw [hq] at h
   obtain ⟨h1,h2,e,h3,h4,h5,h6⟩:=pPut_set (v:=v) (n:=n + 1) (k:=k) (es:=r) (by simpa using h)
   simp only [cond_false]
   refine ⟨?_,by simp [h2],e,by simpa [pEnts] using h3,h4,h5,by omega⟩
   show _ :: pEnts (n + 1) (pPut k v r)=_
   rw [h1]
   simp [pEnts,List.modify_succ_cons]
section
variable {P:Program} {w:World} {kt:TypeId}
theorem run_equal_pair (h:eqCk P kt [.i64,.i64]=true) (k a:PK):(Op.equal kt (kvP k) (kvP a)).run P w = .ok (decide (k=a)) w:=by
 unfold eqCk at h
 split at h
 ·rename_i fs hu
  simp only [Bool.and_eq_true,Bool.not_eq_true'] at h
  obtain ⟨⟨h1,h2⟩,h3⟩:=h
  have hf:P.fieldsOf kt=fs:=by unfold Program.fieldsOf;rw [hu]
  have hrun:=run_equalIn_struct (P:=P) w 9999 kt (List.zipWith Value.int [.i64,.i64] [k.1,k.2]).toArray (List.zipWith Value.int [.i64,.i64] [a.1,a.2]).toArray (by rw [hf];exact hu) h1
  have he:=eqFields_ints (P:=P) (w:=w) (d:=9998) fs.toList [.i64,.i64] 0 [k.1,k.2] [a.1,a.2] (List.zipWith Value.int [.i64,.i64] [k.1,k.2]) (List.zipWith Value.int [.i64,.i64] [a.1,a.2]) h3 rfl rfl rfl rfl
  rw [hf,he] at hrun
  have e:decide ([k.1,k.2]=[a.1,a.2])=decide (k=a):=by
   obtain ⟨k1,k2⟩:=k
   obtain ⟨a1,a2⟩:=a
   rw [Bool.eq_iff_iff]
   simp
  rw [e] at hrun
  exact hrun
 ·cases h
theorem find_pair (h:eqCk P kt [.i64,.i64]=true) (k:PK):∀ (es:List (PK × Int)) (n i:Nat),(Instr.findAsking kt (kvP k) (pEnts n es) i).run P w = .ok (bif pHas k es then some (i + pPos k es,.int .i64 (pGet k es)) else none) w
 | [],n,i=>rfl
 | (a,x) :: r,n,i=>by
  unfold pEnts Instr.findAsking pHas pPos pGet
  simp only [Sem.run_bind,run_equal_pair h k a,Result.andThen_ok]
  cases hq:decide (k=a) with
  | true=>simp
  | false=>
   simp only [Bool.false_eq_true,if_false,Bool.false_or,cond_false]
   rw [find_pair h k r (n + 1) (i + 1)]
   cases pHas k r<;>simp [Nat.add_assoc,Nat.add_comm 1]
theorem findKey_pair (h:eqCk P kt [.i64,.i64]=true) (k:PK) (es:List (PK × Int)) (n:Nat):(Instr.findKey kt (kvP k) (pEnts n es)).run P w = .ok (bif pHas k es then some (pPos k es,.int .i64 (pGet k es)) else none) w:=by
 have hs:(match P.underlying kt with | some (.array _ _) | some (.struct _)=>true | _=>false)=true:=by
  unfold eqCk at h
  split at h
  ·rename_i fs hu;rw [hu]
  ·cases h
 have:=find_pair (w:=w) h k es n 0
 rw [run_findKey_eq w hs,this]
 simp
theorem checkKey_pair {f1 f2:Field} (hu:P.underlying kt=some (.struct #[f1,f2])) (n1:f1.name ≠ "_") (n2:f2.name ≠ "_") (o1:f1.offset=0) (o2:f2.offset=1) (t1:P.underlying f1.type=some (.int .i64)) (t2:P.underlying f2.type=some (.int .i64)) (em:Bool) (k:PK) :
  (Instr.checkKey em 10000 kt (kvP k)).run P w = .ok () w:=by
 have key:∀ n:Nat,(Instr.checkKey em (n + 1 + 1) kt (kvP k)).run P w = .ok () w:=fun n=>by
  have hp1:=run_part_int (w:=w) t1 (vs:=#[.int .i64 k.1,.int .i64 k.2]) (off:=0) (v:=.int .i64 k.1) rfl
  have hp2:=run_part_int (w:=w) t2 (vs:=#[.int .i64 k.1,.int .i64 k.2]) (off:=1) (v:=.int .i64 k.2) rfl
  have hc:∀ (t:TypeId) (x:Value),P.underlying t=some (.int .i64)→(Instr.checkKey em (n + 1) t x).run P w = .ok () w:=fun t x ht=>by
   simp [Instr.checkKey,run_underlying ht]
  unfold Instr.checkKey kvP
  simp [run_underlying hu,n1,n2,o1,o2,hp1,hp2,hc _ _ t1,hc _ _ t2]
 exact key 9998
theorem stays_pair (k:PK):(Instr.keyThatStays (kvP k) (kvP k)).run P w = .ok (kvP k) w:=by
 have:Instr.sameBits (9999 + 1) (kvP k) (kvP k)=true:=by
  simp [Instr.sameBits,kvP]
 simp [Instr.keyThatStays,this]
end
structure PMap (P:Program) (t kt vt:TypeId):Prop where
 map:P.underlying t=some (.map kt vt)
 eq:eqCk P kt [.i64,.i64]=true
 key:∃ f1 f2,P.underlying kt=some (.struct #[f1,f2])∧f1.name ≠ "_" ∧ f2.name ≠ "_" ∧ f1.offset=0∧f2.offset=1∧P.underlying f1.type=some (.int .i64)∧P.underlying f2.type=some (.int .i64)
 zero:∃ i,P.info? vt=some i∧i.zero=some (.int .i64 0)
section
variable {P:Program} {t kt vt:TypeId} {o:Oper} {a:Act} {w:World} {K:Act→World→Prop} {Q:Exit→Act→World→Prop} {x y:Operand} {b:Nat} {k:PK} {es:List (PK × Int)}
def MapAt (w:World) (b:Nat) (es:List (PK × Int)):Prop:=w.heap[b]? = some (.map (pEnts 0 es).toArray es.length)
theorem pair_lookup (M:PMap P t kt vt) (ho:o.op = .lookup t x y false) (hx:a.eval x = .map (some b)) (hy:a.eval y=kvP k) (hb:MapAt w b es) (hk:K (a.put o.dst (.int .i64 (pGet k es))) w):o.wp P a w K Q:=by
 obtain ⟨f1,f2,hu,n1,n2,o1,o2,t1,t2⟩:=M.key
 obtain ⟨i,hi,hz⟩:=M.zero
 have hc:=fun em=>checkKey_pair (w:=w) hu n1 n2 o1 o2 t1 t2 em k
 have hf:=findKey_pair (w:=w) M.eq k es 0
 refine wp_value (v:=.int .i64 (pGet k es)) (w':=w) ?_ hk
 cases h:pHas k es with
 | true=>
  rw [h,cond_true] at hf
  simp [execOp,ho,Instr.lookup,run_underlying M.map,hx,hy,run_getMap hb,hc,hf]
 | false=>
  rw [h,cond_false] at hf
  rw [(pPos_no h).2]
  simp [execOp,ho,Instr.lookup,run_underlying M.map,hx,hy,run_getMap hb,hc,hf,zeroValue,typeInfo,hi,hz]
theorem pair_entry (M:PMap P t kt vt) (ho:o.op = .mapEntry t x y) (hx:a.eval x = .map (some b)) (hy:a.eval y=kvP k) (hb:MapAt w b es)
  (hk:∀ w',MapAt w' b (pPut k (pGet k es) es)→w.grownBy w' (some b)→w'.heap.size=w.heap.size→K (a.put o.dst (.tuple #[.int .i64 (pGet k es),.int .i64 (pPos k es)])) w'):o.wp P a w K Q:=by
 obtain ⟨f1,f2,hu,n1,n2,o1,o2,t1,t2⟩:=M.key
 obtain ⟨i,hi,hz⟩:=M.zero
 have hc:=checkKey_pair (w:=w) hu n1 n2 o1 o2 t1 t2 false k
 have hf:=findKey_pair (w:=w) M.eq k es 0
 have hgo:∀ ents':Array MapEntry,ents' = (pEnts 0 (pPut k (pGet k es) es)).toArray→(execOp a.eval o).run P w = .ok (.value (.tuple #[.int .i64 (pGet k es),.int .i64 (pPos k es)])) { w with heap:=w.heap.setIfInBounds b (.map ents' (pPut k (pGet k es) es).length) }→o.wp P a w K Q:=by
  intro ents' he hrun
  subst he
  exact wp_value hrun (hk _ (heap_set hb) (grown_set w b _) (by simp))
 cases h:pHas k es with
 | true=>
  rw [h,cond_true] at hf
  obtain ⟨p1,p2,e,p3,p4,p5,p6⟩:=pPut_set (v:=pGet k es) (n:=0) h
  have hst:=stays_pair (P:=P) (w:=w) k
  have hge:(pEnts 0 es).toArray[pPos k es]? = some e:=by simpa using p3
  refine hgo ((pEnts 0 es).toArray.modify (pPos k es) fun e=>{ e with key:=kvP k }) ?_ ?_
  ·rw [p1]
   apply Array.ext'
   simp only [Array.toList_modify]
   apply List.ext_getElem?
   intro j
   simp only [List.getElem?_modify]
   by_cases hj:pPos k es=j
   ·subst hj
    rw [p3]
    simp only [if_true,Option.map_some]
    rw [← p4,← p5]
    rfl
   ·simp [hj]
  ·rw [p2]
   simp [execOp,ho,Instr.mapEntry,run_underlying M.map,hx,hy,run_getMap hb,hc,hf,p3,p4,p6,hst,run_setMap _ hb,goInt]
 | false=>
  rw [h,cond_false] at hf
  obtain ⟨p1,p2⟩:=pPut_new (v:=pGet k es) (n:=0) h
  obtain ⟨q1,q2⟩:=pPos_no h
  refine hgo ((pEnts 0 es).toArray.push { key:=kvP k,val:=.int .i64 0,born:=es.length }) ?_ ?_
  ·rw [p1,q2]
   apply Array.ext'
   simp
  ·rw [p2,q1,q2]
   simp [execOp,ho,Instr.mapEntry,run_underlying M.map,hx,hy,run_getMap hb,hc,hf,zeroValue,typeInfo,hi,hz,run_setMap _ hb,goInt]
theorem pPut_put {k:PK} {u v:Int}:∀ {es:List (PK × Int)},pPut k v (pPut k u es)=pPut k v es∧pHas k (pPut k u es)=true∧pPos k (pPut k u es)=pPos k es∧pGet k (pPut k u es)=u
 | []=>by simp [pPut,pHas,pPos,pGet]
 | (a,x) :: r=>by
  obtain ⟨h1,h2,h3,h4⟩:=pPut_put (k:=k) (u:=u) (v:=v) (es:=r)
  have e:pPut k u ((a,x) :: r)=bif decide (k=a) then (a,u) :: r else (a,x) :: pPut k u r:=rfl
  rw [e]
  cases hq:decide (k=a) with
  | true=>simp [pPut,pHas,pPos,pGet,hq]
  | false=>simp [pPut,pHas,pPos,pGet,hq,h1,h2,h3,h4]
theorem pair_store (M:PMap P t kt vt) {z:Operand} {v:Int} {kd:IntKind} (ho:o.op = .entryStore t x y z) (hx:a.eval x = .map (some b)) (hy:a.eval y = .int kd (pPos k es:Nat)) (hz:a.eval z = .int .i64 v) (hh:pHas k es=true) (hb:MapAt w b es)
  (hk:∀ w',MapAt w' b (pPut k v es)→w.grownBy w' (some b)→w'.heap.size=w.heap.size→K (a.put o.dst undef) w'):o.wp P a w K Q:=by
 obtain ⟨p1,p2,e,p3,p4,p5,p6⟩:=pPut_set (v:=v) (n:=0) hh
 have hfi:(pEnts 0 es).toArray.findIdx? (fun e=>(e.born:Int) == ((pPos k es:Nat):Int))=some (pPos k es):=by
  have key:∀ (l:List (PK × Int)) (n j:Nat),j < l.length→(pEnts n l).findIdx? (fun e=>(e.born:Int) == ((n + j:Nat):Int))=some j:=by
   intro l
   induction l with
   | nil=>intro n j h;simp at h
   | cons p r ih=>
    intro n j h
    obtain ⟨q,x⟩:=p
    cases j with
    | zero=>simp [pEnts,List.findIdx?_cons]
    | succ j=>
     have hne:((n:Int) == ((n + (j + 1):Nat):Int))=false:=by simp;omega
     have:=ih (n + 1) j (by simpa using h)
     rw [show n + 1 + j=n + (j + 1) by omega] at this
     simp only [pEnts,List.findIdx?_cons,hne,this]
     rfl
  have:=key es 0 (pPos k es) (pPos_lt hh)
  rw [Nat.zero_add] at this
  rw [← this]
  simp
 have hm:(pEnts 0 es).toArray.modify (pPos k es) (fun e=>{ e with val:=.int .i64 v })=(pEnts 0 (pPut k v es)).toArray:=by
  rw [p1]
  apply Array.ext'
  simp
 refine wp_skip_ (w':={ w with heap:=w.heap.setIfInBounds b (.map (pEnts 0 (pPut k v es)).toArray es.length) }) ?_ (hk _ (by unfold MapAt;rw [p2];exact heap_set hb) (grown_set w b _) (by simp))
 simp [execOp,ho,Instr.entryStore,hx,hy,hz,run_getMap hb,asInt,asIntOf,hfi,run_setMap _ hb,hm]
end
end Go.Den

namespace Go.Mat
open Go Go.Den Go.Proofs
noncomputable def KW:Ctx:=(mkC PR eqs0 fnsNil trsNil noLoops noOut noOut).panics fun _ _=>False
noncomputable def cpC:Code:=bodyOf Try.f67
noncomputable def cp2:Array Oper:=regOps (piece cpC [1,1,0,0])
noncomputable def cp3:Array Oper:=regOps (piece cpC [1,1,0,1,0,0,0])
noncomputable def cp4:Array Oper:=regOps (piece cpC [1,1,0,1,0,0,1,1,0,0,0])
noncomputable def cp5:Array Oper:=regOps (piece cpC [1,1,0,1,0,0,1,1,0,0,1])
noncomputable def cp6:Array Oper:=regOps (piece cpC [1,1,0,1,0,0,1,1,1])
theorem cp2_tree (k:KSt) (T:U):(execOps KW cp2.toList cp2.toList ⟨[(1,.rptr [TRC] [T])],[]⟩ k)=(k (St.mk [(9,vi (U.i 0)),(8,vi (U.i (↑(List.length (U.list (nth (U.i 0) (List.drop (0:Nat) [T]) (0:Nat)))):Int))),(7,SV.val (Ct.sl false [Ct.sl true [.int .i64,.int .i64,.int .i64,.int .i64,
 .int .u32]]) (nth (U.i 0) (List.drop (0:Nat) [T]) (0:Nat))),(6,SV.rptr [Ct.sl false [Ct.sl true [.int .i64,.int .i64,.int .i64,.int .i64,.int .u32]]] [T]),(1,SV.rptr [Ct.sl false [Ct.sl true
 [.int .i64,.int .i64,.int .i64,.int .i64,.int .u32]]] [T])] [])):=by kernel_rfl
theorem cp3_tree (k:KSt) (i n:U):(execOps KW cp3.toList cp3.toList ⟨[(9,vi i),(8,vi n)],[]⟩ k)=(k (St.mk [(10,SV.val Ct.bool (U.b (decide (i.int < n.int)))),(9,vi i),(8,vi n)] [])):=by kernel_rfl
theorem cp4_tree (k:KSt) (i T:U):(execOps KW cp4.toList cp4.toList ⟨[(9,vi i),(7,.val TRC T)],[]⟩ k)=(bif decide ((0:Int)≤i.int∧i.int < (↑(List.length T.list):Int)) then k (St.mk [(5,SV.val (Ct.sl true [.int .i64,.int .i64,.int .i64,.int .i64,.int .u32]) (nth (U.i 0) T.list (Int.toNat i.int))),
 (12,SV.val (Ct.sl true [.int .i64,.int .i64,.int .i64,.int .i64,.int .u32]) (nth (U.i 0) T.list (Int.toNat i.int))),(11,SV.rptr [Ct.sl true [.int .i64,.int .i64,.int .i64,.int .i64,.int .u32]]
 [nth (U.i 0) T.list (Int.toNat i.int)]),(9,vi i),(7,SV.val (Ct.sl false [Ct.sl true [.int .i64,.int .i64,.int .i64,.int .i64,.int .u32]]) T)] []) else False):=by kernel_rfl
theorem cp6_tree (k:KSt) (i:U):(execOps KW cp6.toList cp6.toList ⟨[(9,vi i)],[]⟩ k)=(k (St.mk [(9,vi (U.i (IntKind.wrap IntKind.i64 (i.int + 1)))),(20,vi (U.i (IntKind.wrap IntKind.i64 (i.int + 1)))),(9,vi i)] [])):=by kernel_rfl
end Go.Mat

namespace Go.Mat
open Go Go.Den Go.Proofs Go.RowKit
set_option maxRecDepth 100000
theorem KW_ok:KW.Ok:=(mkC_ok eqs0_ok mixed_ok .nil .nil).panics _
theorem KW_pan:∀ s σ,¬ KW.pan s σ:=fun _ _ h=>h
abbrev DeepE:(Nat→Prop)→World→Value→List Value→List U→Prop:=DeepR 24 64 EC
abbrev RowE (w:World) (v:Value) (u:U):Prop:=DRow w 24 EC v u
theorem uT:PR.underlying 34=some (.slice 64):=by kernel_rfl
theorem cR:Cs PR 64=some (false,[.sl true EC]):=by kernel_rfl
theorem cE:Cs PR 24=some (true,EC):=by kernel_rfl
theorem smR:smallType PR 64=true:=by kernel_rfl
theorem szT:sizeT PR 34=some 1:=by kernel_rfl
theorem szA:sizeT PR 36=some 1:=by kernel_rfl
theorem uTb:∃ d,PR.underlying 36=some d∧aggD d=true:=⟨(PR.underlying 36).getD .bool,by kernel_rfl,by kernel_rfl⟩
theorem fdT:∃ fd,fieldOf PR 36 0=some fd∧fd.offset=0∧sizeT PR fd.type=some (0 + 1):=⟨(fieldOf PR 36 0).getD default,by kernel_rfl,by kernel_rfl,by kernel_rfl⟩
theorem zT:∃ i z,PR.info? 36=some i∧i.zero=some z∧z.cells = #[.slice none 0 0]:=
 ⟨(PR.info? 36).getD default,((PR.info? 36).getD default).zero.getD default,by kernel_rfl,by kernel_rfl,by kernel_rfl⟩
theorem fut_none {G:Nat→Value} {w w':World} (h:Fut (Blocks G []) w w'):Fut (fun _=>False) w w':=⟨h.os,h.tape,h.output,h.size,fun k hk _=>h.block k hk fun ⟨_,_,h,_⟩=>by cases h⟩
theorem fut_grown {w w':World} {r:Option Nat} {M:Nat→Prop} (g:w.grownBy w' r) (h:∀ b,r=some b→M b):Fut M w w':=⟨g.os,g.tape,g.output,g.size,fun k hk hn=>g.block k hk fun e=>hn (h k e.symm)⟩
theorem cle_calls {w:World} {Z:Nat→Prop} {rv:Value} {row:U} (hrv:RepC w Z (.sl true EC) rv row) (hZ:∀ b,Z b→b < w.heap.size) (hrow:row.list.length≤1073741824) :
  Calls PR 76 #[rv] w fun e w'=>∃ r,e = .returned r∧Fut (fun _=>False) w w'∧RowE w' r row∧∀ b,r.ownBlock=some b→w.heap.size≤b:=by
 have hf:PR.funcs[(76:Nat)]? = some Try.f76:=by kernel_rfl
 have main:=(cle_ok _ hf).calls [.val (.sl true EC) row] [] (fun out objs=>out = .ret [.own 2097152]∧objs=[(2097152,.arr 24 row.list)]) rfl ⟨⟨rfl,hrow⟩,rfl,rfl⟩ w Z (fun _=>.pointer none) [rv] ⟨rv,[],rfl,hrv,rfl⟩
  {lt:=hZ,flat:=fun _=>rfl,obj:=fun _ _ h=>(by cases h),sep:=fun _ _ _ _ _ h=>(by cases h),free:=fun _ _ _ h=>(by cases h) }
 refine main.mono ?_
 rintro e w' ⟨out,objs',Z',G',⟨rfl,rfl⟩,⟨v,rfl,hv⟩,A⟩
 have hv:v=G' 2097152:=hv
 subst hv
 obtain ⟨m,cs,vs,h1,h2,h3⟩:=A.stand.obj 2097152 (.arr 24 row.list) rfl
 rw [cE] at h1
 cases h1
 refine ⟨_,rfl,fut_none A.fut,⟨vs,h2,RepElems.scal rfl h3⟩,fun b hb=>?_⟩
 rcases A.own 2097152 _ b rfl (by rw [blk_own h2];exact hb) with ⟨_,_,h,_⟩ | h
 ·cases h
 ·exact h
structure P5 (a0:Act) (B:Nat) (rv:Value) (a:Act):Prop where
 size:a.tmps.size=22
 calm:a.defers=a0.defers
 e13:a.eval (.tmp 13) = .pointer (some ⟨B,0,none⟩)
 e15:a.eval (.tmp 15)=rv
 low:∀ t:Nat,t < 13→a.eval (.tmp t)=a0.eval (.tmp t)
theorem P5.put {a0 a:Act} {B:Nat} {rv:Value} (h:P5 a0 B rv a) {d:Nat} {v:Value} (hd:d < 22) (h0:13 < d) (h1:d≠15):P5 a0 B rv (a.put (some d) v):=by
 have hs:d < a.tmps.size:=by rw [h.size];exact hd
 exact ⟨by rw [size_put];exact h.size,by rw [defers_put];exact h.calm,by rw [ev_put hs,if_neg (show ¬ d=13 by omega)];exact h.e13,by rw [ev_put hs,if_neg h1];exact h.e15,  fun t ht=>by rw [ev_put hs,if_neg (show ¬ d=t by omega)];exact h.low t ht⟩
noncomputable def cpO (i:Nat):Oper:=(cp5[i]?).getD default
theorem cpO_at:(∀ i,i < 8→cp5[i]? = some (cpO i))∧(∀ i,i < 8→(cpO i).guard=none):=by
 have hs:cp5.size=8:=by kernel_rfl
 have hg:cp5.toList.all (fun o=>o.guard.isNone)=true:=by kernel_rfl
 have key:∀ i,i < 8→∃ h:i < cp5.size,cp5[i]? = some cp5[i]∧cpO i=cp5[i]:=fun i hi=>by
  have h:i < cp5.size:=by rw [hs];exact hi
  have h2:=Array.getElem?_eq_getElem h
  exact ⟨h,h2,by unfold cpO;rw [h2];rfl⟩
 refine ⟨fun i hi=>?_,fun i hi=>?_⟩<;>obtain ⟨h,h1,h2⟩:=key i hi
 ·rw [h1,h2]
 ·rw [h2]
  exact Option.isNone_iff_eq_none.1 (List.all_eq_true.1 hg _ (Array.getElem_mem_toList h))
theorem cp_r5 {a:Act} {w:World} {B:Nat} {vo rv:Value} {rows:List Value} {xs:List U} {row:U} {F Z:Nat→Prop} (hs:a.tmps.size=22) (h3:a.eval (.tmp 3) = .pointer (some ⟨B,0,none⟩)) (h5:a.eval (.tmp 5)=rv) (hrv:RepC w Z (.sl true EC) rv row) (hZ:∀ b,Z b→b < w.heap.size)
  (hrow:row.list.length≤1048576) (hB:w.heap[B]? = some (.cells #[vo] 36 (0,0))) (D:DeepE F w vo rows xs) (hF:∀ b,F b→b≠B) (hF2:∀ b,w.heap.size≤b→F b) (hlen:xs.length < 1048576) :
  (Code.region (regId (piece cpC [1,1,0,1,0,0,1,1,0,0,1])) cp5 true).wp PR (fun e a' w'=>e = .normal∧∃ vo' rows',w'.heap[B]? = some (.cells #[vo'] 36 (0,0))∧DeepE F w' vo' rows' (xs ++ [row])∧a'.tmps.size=22∧a'.defers=a.defers∧
    (∀ t:Nat,t < 13→a'.eval (.tmp t)=a.eval (.tmp t))∧Fut (fun b=>b=B∨F b) w w') a w:=by
 obtain ⟨fd,f1,f2,f3⟩:=fdT
 have hBlt:B < w.heap.size:=(Array.getElem?_eq_some_iff.1 hB).1
 have at_:=cpO_at.1
 have gd:=cpO_at.2
 refine wp_region_any mixed_ok ?_
 rw [show cp5.size=8 by kernel_rfl]
 generalize hw0:({ w with drawn:=w.drawn + 1 }:World)=w0
 have h0:w0.heap=w.heap:=by rw [← hw0]
 have F0:Fut (fun b=>b=B∨F b) w w0:=by rw [← hw0];exact ⟨rfl,rfl,rfl,Nat.le_refl _,fun _ _ _=>rfl⟩
 have hrv0:RepC w0 Z (.sl true EC) rv row:=RepC.mono ⟨fun _ h=>h,fun b _=>by rw [h0]⟩ _ _ _ hrv
 have D0:DeepE F w0 vo rows xs:=D.same fun b _ _=>by rw [h0]
 have hB0:w0.heap[B]? = some (.cells #[vo] 36 (0,0)):=by rw [h0];exact hB
 have hZ0:∀ b,Z b→b < w0.heap.size:=fun b hb=>by rw [h0];exact hZ b hb
 clear hrv D hB hZ hw0
 have hBlt0:B < w0.heap.size:=by rw [h0];exact hBlt
 refine wpAny_take (i:=0) (oi:=cpO 0) (v:=.pointer (some ⟨B,0,none⟩)) (at_ 0 (by decide)) (by kernel_rfl) (by kernel_rfl) (by kernel_rfl) (fun _ _ _ h=>by cases h.1) (yields_of (gd 0 (by decide)) fun w=>?_) ?_
 ·have:=run_fieldAddr (P:=PR) (o:=cpO 0) (a:=a) (x:=.tmp 3) (s:=36) (f:=0) (by kernel_rfl) f1 f3 h3 w
  rw [f2] at this;exact this
 refine wpAny_take (i:=2) (oi:=cpO 2) (v:=rv) (at_ 2 (by decide)) (by kernel_rfl) (by kernel_rfl) (by kernel_rfl) (fun _ _ _ h=>by cases h.1) (yields_of (gd 2 (by decide)) fun w=>?_) ?_
 ·have:=run_move (P:=PR) (o:=cpO 2) (a:=a.put (cpO 0).dst (.pointer (some ⟨B,0,none⟩))) (x:=.tmp 5) (by kernel_rfl) w
  rw [this,show (cpO 0).dst=some 13 by kernel_rfl,ev_put (by omega),if_neg (by decide),h5]
 rw [show (cpO 0).dst=some 13 by kernel_rfl,show (cpO 2).dst=some 15 by kernel_rfl]
 generalize ha1:(a.put (some 13) (.pointer (some ⟨B,0,none⟩))).put (some 15) rv=a1
 have A1:P5 a B rv a1:=by
  rw [← ha1]
  refine ⟨by simp [size_put,hs],by simp [defers_put],?_,?_,fun t ht=>?_⟩
  ·simp [ev_put,size_put,hs]
  ·simp [ev_put,size_put,hs]
  ·rw [ev_put (by simp [size_put,hs]),if_neg (show ¬ 15=t by omega),ev_put (by simp [hs]),if_neg (show ¬ 13=t by omega)]
 clear ha1
 have ld1:∀ (K:Act→World→Prop) (a2:Act) (w2:World),P5 a B rv a2→w2.heap[B]? = some (.cells #[vo] 36 (0,0))→K (a2.put (some 14) vo) w2→wpOp PR cp5 (fun e a' w'=>e = .normal∧∃ vo' rows',w'.heap[B]? = some (.cells #[vo'] 36 (0,0))∧DeepE F w' vo' rows' (xs ++ [row])∧a'.tmps.size=22∧a'.defers=a.defers∧
   (∀ t:Nat,t < 13→a'.eval (.tmp t)=a.eval (.tmp t))∧Fut (fun b=>b=B∨F b) w w') 1 K a2 w2:=fun K a2 w2 A hb hk=>
  wpOp_do (at_ 1 (by decide)) (gd 1 (by decide)) (load1_op uT rfl (by kernel_rfl) A.e13 (cell_one hb) (by rw [show (cpO 1).dst=some 14 by kernel_rfl];exact hk))
 have cl3:∀ (K:Act→World→Prop) (a2:Act) (w2:World),P5 a B rv a2→RepC w2 Z (.sl true EC) rv row→(∀ b,Z b→b < w2.heap.size)→(∀ r w3,Fut (fun _=>False) w2 w3→RowE w3 r row→(∀ b,r.ownBlock=some b→w2.heap.size≤b)→K (a2.put (some 16) r) w3)→wpOp PR cp5 (fun e a' w'=>e = .normal∧∃ vo' rows',w'.heap[B]? = some (.cells #[vo'] 36 (0,0))∧DeepE F w' vo' rows' (xs ++ [row])∧a'.tmps.size=22∧a'.defers=a.defers∧
   (∀ t:Nat,t < 13→a'.eval (.tmp t)=a.eval (.tmp t))∧Fut (fun b=>b=B∨F b) w w') 3 K a2 w2:=fun K a2 w2 A hr hz hk=>by
  have hf:PR.funcs[(76:Nat)]? = some Try.f76:=by kernel_rfl
  refine wpOp_do (at_ 3 (by decide)) (gd 3 (by decide)) (call_op (args:=#[.tmp 15]) (ts:=#[64]) (by kernel_rfl) hf (by kernel_rfl) (by kernel_rfl) ?_)
  have hl:(List.map a2.eval #[Operand.tmp 15].toList).toArray = #[rv]:=by simp [A.e15]
  rw [hl,show (cpO 3).dst=some 16 by kernel_rfl]
  exact (cle_calls hr hz (by omega)).mono fun e w3 ⟨r,he,h1,h2,h3⟩=>⟨r,he,hk r w3 h1 h2 h3⟩
 have bs4:∀ (K:Act→World→Prop) (a2:Act) (w2:World) (r:Value),P5 a B rv a2→a2.eval (.tmp 16)=r→r.oneCell' = true→K (a2.put (some 17) (.slice (some ⟨w2.heap.size,0,none⟩) 1 1)) (w2.alloc (.cells #[r] 64))→wpOp PR cp5 (fun e a' w'=>e = .normal∧∃ vo' rows',w'.heap[B]? = some (.cells #[vo'] 36 (0,0))∧DeepE F w' vo' rows' (xs ++ [row])∧a'.tmps.size=22∧a'.defers=a.defers∧
   (∀ t:Nat,t < 13→a'.eval (.tmp t)=a.eval (.tmp t))∧Fut (fun b=>b=B∨F b) w w') 4 K a2 w2:=fun K a2 w2 r A hr h1 hk=>
  wpOp_do (at_ 4 (by decide)) (gd 4 (by decide)) (lit1_op uT cR smR (by kernel_rfl) hr h1 (by rw [show (cpO 4).dst=some 17 by kernel_rfl];exact hk))
 have fin:∀ (l:Array Bool) (a2:Act) (w2:World) (r:Value) (bs:Nat),l = #[true,true,true,true,true,false,false,false]→P5 a B rv a2→a2.eval (.tmp 14)=vo→a2.eval (.tmp 17) = .slice (some ⟨bs,0,none⟩) 1 1→w2.cell? ⟨bs,0,none⟩=some r→RowE w2 r row→(∀ b,r.ownBlock=some b→w0.heap.size≤b)→Fut (fun _=>False) w0 w2→
   wpAny PR .any cp5 (fun e a' w'=>e = .normal∧∃ vo' rows',w'.heap[B]? = some (.cells #[vo'] 36 (0,0))∧DeepE F w' vo' rows' (xs ++ [row])∧a'.tmps.size=22∧a'.defers=a.defers∧
   (∀ t:Nat,t < 13→a'.eval (.tmp t)=a.eval (.tmp t))∧Fut (fun b=>b=B∨F b) w w') 3 l a2 w2:=by
  intro l a2 w2 r bs hl A e14 e17 hbs hr hfr F2
  subst hl
  have D2:DeepE F w2 vo rows xs:=D0.same fun b _ hb=>F2.block b hb id
  have hB2:w2.heap[B]? = some (.cells #[vo] 36 (0,0)):=(F2.block B hBlt0 id).trans hB0
  refine wpAny_all (rs:=[5]) (by kernel_rfl) (by decide) fun i hi=>?_
  have hi:i=5:=by simpa using hi
  subst hi
  refine wpOp_do (at_ 5 (by decide)) (gd 5 (by decide)) (push_op (F:=F) (x:=.tmp 14) (y:=.tmp 17) uT cR smR (by kernel_rfl) e14 e17 hbs D2 hr (fun b hb=>?_) (hF2 _ (by have:=F2.size;rw [h0] at this;exact this)) (by unfold room;omega) ?_)
  ·have hge:=hfr b hb
   refine ⟨hF2 b (by rw [← h0];exact hge),fun e=>?_,fun j r' hj hb'=>?_⟩
   ·have:=(D0.own.lt b e).2;omega
   ·have:=(D0.row j r' hj).lt hb';omega
  ·intro vo' w3 D3 g3
   have F3:=F2.trans (fut_grown (M:=F) g3 fun b hb=>D2.home b hb) (N:=F) (fun _ h=>h.elim) (fun b _ h=>h)
   have hB3:w3.heap[B]? = some (.cells #[vo] 36 (0,0)):=(F3.block B hBlt0 (fun h=>hF B h rfl)).trans hB0
   rw [show (cpO 5).dst=some 18 by kernel_rfl]
   have A3:=A.put (d:=18) (v:=vo') (by decide) (by decide) (by decide)
   refine wpAny_all (rs:=[6]) (by kernel_rfl) (by decide) fun i hi=>?_
   have hi:i=6:=by simpa using hi
   subst hi
   refine wpOp_do (at_ 6 (by decide)) (gd 6 (by decide)) (op_fieldAddr (x:=.tmp 3) (s:=36) (f:=0) (by kernel_rfl) f1 f3 (by rw [A3.low 3 (by decide)];exact h3) ?_)
   rw [f2,Nat.zero_add,show (cpO 6).dst=some 19 by kernel_rfl]
   have A4:=A3.put (d:=19) (v:=.pointer (some ⟨B,0,none⟩)) (by decide) (by decide) (by decide)
   refine wpAny_all (rs:=[7]) (by kernel_rfl) (by decide) fun i hi=>?_
   have hi:i=7:=by simpa using hi
   subst hi
   refine wpOp_do (at_ 7 (by decide)) (gd 7 (by decide)) (store1_op (x:=.tmp 19) (y:=.tmp 18) (v:=vo') szT (by kernel_rfl) (by rw [ev_put (by rw [A3.size];decide),if_pos rfl]) (by rw [ev_put (by rw [A3.size];decide),if_neg (by decide),ev_put (by rw [A.size];decide),if_pos rfl]) (cells_one (own_one D3.own)) (own_one D3.own) rfl hB3 ?_)
   intro w4 hB4 g4 _
   rw [show (cpO 7).dst=none by kernel_rfl]
   refine wpAny_done (by kernel_rfl) ⟨rfl,vo',_,hB4,D3.same fun b hb hlt=>g4.block b hlt fun e=>?_,A4.size,A4.calm,A4.low,?_⟩ 0
   ·cases e;exact hF _ hb rfl
   ·exact F0.trans ((F3.trans (fut_grown (M:=fun b=>b=B) g4 fun b e=>by cases e;rfl) (N:=fun b=>b=B∨F b) (fun _ h=>.inr h) (fun b _ h=>.inl h))) (fun _ h=>h) (fun b _ h=>h)
 have nodup:∀ {w2:World} {r:Value},RowE w2 r row→RowE (w2.alloc (.cells #[r] 64)) r row:=fun h=>h.same fun g hg=>heap_alloc_old _ _ (h.lt hg)
 have futA:∀ {w2:World} {r:Value},Fut (fun _=>False) w0 w2→Fut (fun _=>False) w0 (w2.alloc (.cells #[r] 64)):=fun h=>h.trans (fut_grown (World.grownBy_alloc _ _ none) fun b e=>by cases e) (fun _ h=>h) (fun _ _ h=>h)
 have hBf:∀ {w2:World},Fut (fun _=>False) w0 w2→w2.heap[B]? = some (.cells #[vo] 36 (0,0)):=fun h=>(h.block B hBlt0 id).trans hB0
 have cellA:∀ (w2:World) (r:Value),(w2.alloc (.cells #[r] 64)).cell? ⟨w2.heap.size,0,none⟩=some r:=fun w2 r=>cell_one (heap_alloc_new w2 _)
 refine wpAny_all (rs:=[1,3]) (by kernel_rfl) (by decide) fun i hi=>?_
 rcases (by simpa using hi:i=1∨i=3) with rfl | rfl
 ·refine ld1 _ _ _ A1 hB0 ?_
  have A2:=A1.put (d:=14) (v:=vo) (by decide) (by decide) (by decide)
  refine wpAny_all (rs:=[3]) (by kernel_rfl) (by decide) fun i hi=>?_
  have hi:i=3:=by simpa using hi
  subst hi
  refine cl3 _ _ _ A2 hrv0 hZ0 fun r w3 F3 hr hfr=>?_
  have A3:=A2.put (d:=16) (v:=r) (by decide) (by decide) (by decide)
  refine wpAny_all (rs:=[4]) (by kernel_rfl) (by decide) fun i hi=>?_
  have hi:i=4:=by simpa using hi
  subst hi
  refine bs4 _ _ _ r A3 (by rw [ev_put (by rw [A2.size];decide),if_pos rfl]) hr.one ?_
  have A4:=A3.put (d:=17) (v:=.slice (some ⟨w3.heap.size,0,none⟩) 1 1) (by decide) (by decide) (by decide)
  refine fin _ _ _ r w3.heap.size (by kernel_rfl) A4 ?_ (by rw [ev_put (by rw [A3.size];decide),if_pos rfl]) (cellA _ _) (nodup hr) hfr (futA F3)
  rw [ev_put (by rw [A3.size];decide),if_neg (by decide),ev_put (by rw [A2.size];decide),if_neg (by decide),ev_put (by rw [A1.size];decide),if_pos rfl]
 ·refine cl3 _ _ _ A1 hrv0 hZ0 fun r w3 F3 hr hfr=>?_
  have A3:=A1.put (d:=16) (v:=r) (by decide) (by decide) (by decide)
  refine wpAny_all (rs:=[1,4]) (by kernel_rfl) (by decide) fun i hi=>?_
  rcases (by simpa using hi:i=1∨i=4) with rfl | rfl
  ·refine ld1 _ _ _ A3 (hBf F3) ?_
   have A2:=A3.put (d:=14) (v:=vo) (by decide) (by decide) (by decide)
   refine wpAny_all (rs:=[4]) (by kernel_rfl) (by decide) fun i hi=>?_
   have hi:i=4:=by simpa using hi
   subst hi
   refine bs4 _ _ _ r A2 (by rw [ev_put (by rw [A3.size];decide),if_neg (by decide),ev_put (by rw [A1.size];decide),if_pos rfl]) hr.one ?_
   have A4:=A2.put (d:=17) (v:=.slice (some ⟨w3.heap.size,0,none⟩) 1 1) (by decide) (by decide) (by decide)
   refine fin _ _ _ r w3.heap.size (by kernel_rfl) A4 ?_ (by rw [ev_put (by rw [A2.size];decide),if_pos rfl]) (cellA _ _) (nodup hr) hfr (futA F3)
   rw [ev_put (by rw [A2.size];decide),if_neg (by decide),ev_put (by rw [A3.size];decide),if_pos rfl]
  ·refine bs4 _ _ _ r A3 (by rw [ev_put (by rw [A1.size];decide),if_pos rfl]) hr.one ?_
   have A4:=A3.put (d:=17) (v:=.slice (some ⟨w3.heap.size,0,none⟩) 1 1) (by decide) (by decide) (by decide)
   refine wpAny_all (rs:=[1]) (by kernel_rfl) (by decide) fun i hi=>?_
   have hi:i=1:=by simpa using hi
   subst hi
   refine ld1 _ _ _ A4 (hBf (futA F3)) ?_
   have A5:=A4.put (d:=14) (v:=vo) (by decide) (by decide) (by decide)
   refine fin _ _ _ r w3.heap.size (by kernel_rfl) A5 (by rw [ev_put (by rw [A4.size];decide),if_pos rfl]) ?_ (cellA _ _) (nodup hr) hfr (futA F3)
   rw [ev_put (by rw [A4.size];decide),if_neg (by decide),ev_put (by rw [A3.size];decide),if_pos rfl]
end Go.Mat

namespace Go.Mat
open Go Go.Den Go.Proofs Go.RowKit
set_option maxRecDepth 100000
def CopyOk (f:FuncId):Prop:=∀ (w:World) (Z:Nat→Prop) (v:Value) (T:U),RepC w Z TRC v T→(∀ b,Z b→b < w.heap.size)→T.list.length≤1048576→(∀ j,j < T.list.length→(U.at T.list j).list.length≤1048576)→
 Calls PR f #[.agg #[v]] w fun e w'=>∃ v' rows,e = .returned (.agg #[v'])∧Fut (fun _=>False) w w'∧DeepE (fun b=>w.heap.size≤b) w' v' rows T.list
structure CpI (n:Nat) (w0:World) (base:Nat) (T:U) (j:Nat) (a:Act) (w:World):Prop where
 size:a.tmps.size=n
 calm:a.defers=[]
 e2:a.eval (.tmp 2) = .pointer (some ⟨w0.heap.size + 1,0,none⟩)
 e3:a.eval (.tmp 3) = .pointer (some ⟨w0.heap.size + 2,0,none⟩)
 b1:w.heap[w0.heap.size + 1]? = some (.cells #[.slice none 0 0] 36 (0,0))
 deep:∃ vo rows,w.heap[w0.heap.size + 2]? = some (.cells #[vo] 36 (0,0))∧DeepE (fun b=>base≤b) w vo rows (T.list.take j)
 fut:Fut (fun _=>False) w0 w
 floor:w0.heap.size + 3≤base
 top:base≤w.heap.size
theorem CpI.next {n:Nat} {w0:World} {base:Nat} {T:U} {j:Nat} {a a':Act} {w w':World} (h:CpI n w0 base T j a w) (hs:a'.tmps.size=n) (hd:a'.defers=a.defers) (h2:a'.eval (.tmp 2)=a.eval (.tmp 2)) (h3:a'.eval (.tmp 3)=a.eval (.tmp 3)) (F:Fut (fun _=>False) w w'):CpI n w0 base T j a' w':=by
 obtain ⟨vo,rows,hb,D⟩:=h.deep
 have hbl:=h.floor
 have ht:=h.top
 exact ⟨hs,hd.trans h.calm,h2.trans h.e2,h3.trans h.e3,(F.block _ (by omega) id).trans h.b1,⟨vo,rows,(F.block _ (by omega) id).trans hb,D.same fun b _ hb=>F.block b hb id⟩,h.fut.trans F (fun _ h=>h) (fun _ _ h=>h),h.floor,Nat.le_trans h.top F.size⟩
theorem keep_ev {a a':Act} {ops:Array Oper} (h:∀ t,(∀ o ∈ ops.toList,o.dst≠some t)→a'.tmps.getD t undef=a.tmps.getD t undef) {t:Nat} (ht:ops.toList.all (fun o=>match o.dst with | some d=>!Nat.beq d t | none=>true)=true):a'.eval (.tmp t)=a.eval (.tmp t):=
 h t fun o ho e=>by
  have:=List.all_eq_true.1 ht o ho
  rw [e] at this
  simp at this
theorem at_get:∀ {l:List U} {j:Nat} (h:j < l.length),U.at l j=l[j]
 | [],_,h=>by simp at h
 | _ :: _,0,_=>rfl
 | _ :: r,j + 1,h=>by simp only [nth_succ,List.getElem_cons_succ];exact at_get (by simpa using h)
theorem cp_code:bodyOf Try.f67 = .seq (.region (regId (piece cpC [0])) (regOps (piece cpC [0])) false) (.seq (.region (regId (piece cpC [1,0])) (regOps (piece cpC [1,0])) false) (.seq (.seq (.region (regId (piece cpC [1,1,0,0])) cp2 false) (.block 0 (.loop (.seq (.region (regId (piece cpC [1,1,0,1,0,0,0])) cp3 false)
  (.seq (.cond (.tmp 10) .skip (.exit 0)) (.seq (.block 1 (.seq (.region (regId (piece cpC [1,1,0,1,0,0,1,1,0,0,0])) cp4 false) (.region (regId (piece cpC [1,1,0,1,0,0,1,1,0,0,1])) cp5 true))) (.region (regId (piece cpC [1,1,0,1,0,0,1,1,1])) cp6 false))))))) (.seq (piece cpC [1,1,1,0]) .ret))):=by kernel_rfl
theorem cp_r0:RegIs (.region (regId (piece cpC [0])) (regOps (piece cpC [0])) false) [(some 1,.box 36 (.tmp 0)),(some 2,.alloc 36)]:=⟨_,_,rfl,by kernel_rfl,by kernel_rfl⟩
theorem cp_r1:RegIs (.region (regId (piece cpC [1,0])) (regOps (piece cpC [1,0])) false) [(some 3,.alloc 36)]:=⟨_,_,rfl,by kernel_rfl,by kernel_rfl⟩
theorem cp_r7:RegIs (piece cpC [1,1,1,0]) [(some 21,.load 36 (.tmp 3)),(none,.store 36 (.tmp 2) (.tmp 21))]:=⟨regId (piece cpC [1,1,1,0]),regOps (piece cpC [1,1,1,0]),by kernel_rfl,by kernel_rfl,by kernel_rfl⟩
theorem copied_deep:CopyOk 67:=by
 intro w0 Z v T hv hZ hT hrows
 have hf:PR.funcs[(67:Nat)]? = some Try.f67:=by kernel_rfl
 have hb:Try.f67.body=some (bodyOf Try.f67):=by kernel_rfl
 have hnt:Try.f67.ntmps=22:=by kernel_rfl
 obtain ⟨iT,z,hi,hz,hzc⟩:=zT
 obtain ⟨dA,hdA,hagg⟩:=uTb
 refine calls_of_wp hf hb ?_
 rw [cp_code,hnt]
 generalize ha0:({ tmps:=#[Value.agg #[v]] ++ Array.replicate (22 - (#[Value.agg #[v]]:Array Value).size) undef,defers:=[] }:Act)=a0
 have a0s:a0.tmps.size=22:=by rw [← ha0];simp
 have a00:a0.eval (.tmp 0) = .agg #[v]:=by rw [← ha0];simp [Act.eval,Array.getD_eq_getD_getElem?]
 have a0d:a0.defers=[]:=by rw [← ha0]
 clear ha0
 have hv1:v.oneCell' = true:=hv.one
 refine wp_seq (wp_regIs cp_r0 ?_)
 simp only [wpL]
 intro o hd ho
 refine op_box ho ?_
 rw [hd]
 clear hd ho o
 intro o hd ho
 refine op_alloc ho hi hz ?_
 rw [hd,hzc]
 clear hd ho o
 refine wp_seq (wp_regIs cp_r1 ?_)
 simp only [wpL]
 intro o hd ho
 refine op_alloc ho hi hz ?_
 rw [hd,hzc]
 clear hd ho o
 have hcells:(a0.eval (.tmp 0)).cells = #[v]:=by rw [a00];simp [Value.cells,cells_one hv1]
 rw [hcells]
 generalize hw1:w0.alloc (.cells #[v] 36)=w1
 generalize hw2:w1.alloc (.cells #[.slice none 0 0] 36)=w2
 generalize hw3:w2.alloc (.cells #[.slice none 0 0] 36)=w3
 have s1:w1.heap.size=w0.heap.size + 1:=by rw [← hw1];simp
 have s2:w2.heap.size=w0.heap.size + 2:=by rw [← hw2];simp [s1]
 have s3:w3.heap.size=w0.heap.size + 3:=by rw [← hw3];simp [s2]
 have p1:w1.heap[w0.heap.size]? = some (.cells #[v] 36 (0,0)):=by rw [← hw1];exact heap_alloc_new w0 _
 have p2:w2.heap[w0.heap.size + 1]? = some (.cells #[.slice none 0 0] 36 (0,0)):=by rw [← hw2,← s1];exact heap_alloc_new w1 _
 have p3:w3.heap[w0.heap.size + 2]? = some (.cells #[.slice none 0 0] 36 (0,0)):=by rw [← hw3,← s2];exact heap_alloc_new w2 _
 have o1:∀ b,b < w0.heap.size→w1.heap[b]? = w0.heap[b]?:=fun b hb=>by rw [← hw1];exact heap_alloc_old _ _ hb
 have o2:∀ b,b < w0.heap.size + 1→w2.heap[b]? = w1.heap[b]?:=fun b hb=>by rw [← hw2];exact heap_alloc_old _ _ (by omega)
 have o3:∀ b,b < w0.heap.size + 2→w3.heap[b]? = w2.heap[b]?:=fun b hb=>by rw [← hw3];exact heap_alloc_old _ _ (by omega)
 have F3:Fut (fun _=>False) w0 w3:=by
  refine ⟨by rw [← hw3,← hw2,← hw1];rfl,by rw [← hw3,← hw2,← hw1];rfl,by rw [← hw3,← hw2,← hw1];rfl,by omega,fun k hk _=>?_⟩
  rw [o3 k (by omega),o2 k (by omega),o1 k hk]
 rw [s1,s2]
 generalize ha1:((a0.put (some 1) (.pointer (some ⟨w0.heap.size,0,none⟩))).put (some 2) (.pointer (some ⟨w0.heap.size + 1,0,none⟩))).put (some 3) (.pointer (some ⟨w0.heap.size + 2,0,none⟩))=a1
 have e1:a1.eval (.tmp 1) = .pointer (some ⟨w0.heap.size,0,none⟩):=by rw [← ha1];simp [ev_put,size_put,a0s]
 have e2:a1.eval (.tmp 2) = .pointer (some ⟨w0.heap.size + 1,0,none⟩):=by rw [← ha1];simp [ev_put,size_put,a0s]
 have e3:a1.eval (.tmp 3) = .pointer (some ⟨w0.heap.size + 2,0,none⟩):=by rw [← ha1];simp [ev_put,size_put,a0s]
 have a1s:a1.tmps.size=22:=by rw [← ha1];simp [size_put,a0s]
 have a1d:a1.defers=[]:=by rw [← ha1];simp [defers_put,a0d]
 clear ha1 hcells a00 a0s a0d
 obtain ⟨Z1,hZ1⟩:∃ Z1:Nat→Prop,Z1=fun b=>Z b∨b=w0.heap.size:=⟨_,rfl⟩
 have hZ1lt:∀ b,Z1 b→b < w3.heap.size:=fun b hb=>by
  rw [hZ1] at hb
  rcases hb with hb | rfl
  ·have:=hZ b hb;omega
  ·omega
 have hv3:RepC w3 Z1 TRC v T:=RepC.mono ⟨fun b hb=>by rw [hZ1];exact .inl hb,fun b hb=>F3.block b (hZ b hb) id⟩ _ _ _ hv
 have hcell:w3.cell? ⟨w0.heap.size,0,none⟩=some v:=cell_one ((o3 _ (by omega)).trans ((o2 _ (by omega)).trans p1))
 refine wp_seq (wp_seq (it_regionS KW_ok KW_pan (n:=22) (G:=fun _=>.pointer none) (Z:=Z1) (env:=[(1,.rptr [TRC] [T])]) (k:=fun σ=>get σ.env 7 = .val TRC T∧get σ.env 8=vi (.i (T.list.length:Int))∧get σ.env 9=vi (.i 0)) (by kernel_rfl) (by kernel_rfl) a1s (fun t=>?_) hZ1lt (fun _=>rfl) ?_ ?_))
 ·rw [get_cons]
  split
  ·rename_i h;subst h
   exact ⟨w0.heap.size,0,e1,by rw [hZ1];exact .inr rfl,⟨v,hcell,hv3⟩,trivial⟩
  ·trivial
 ·rw [cp2_tree]
  exact ⟨rfl,rfl,rfl⟩
 rintro σ a2 w4 Z2 G2 ⟨k7,k8,k9⟩ S2 kp
 have F4:Fut (fun _=>False) w3 w4:=S2.fut
 have r7:=S2.slot 7
 have r8:=S2.slot 8
 have r9:=S2.slot 9
 rw [k7] at r7
 rw [k8] at r8
 rw [k9] at r9
 have Z2ok:∀ b,Z2 b→b≠w0.heap.size + 2∧b < w4.heap.size:=fun b hb=>⟨fun e=>by
  rcases S2.new b hb with h | h | h | h
  ·rw [hZ1] at h
   rcases h with h | h
   ·have:=hZ b h;omega
   ·omega
  ·exact h
  ·exact h
  ·have h:w3.heap.size≤b:=h
   omega,S2.lt b hb⟩
 refine wp_range (t:=9) (fun j a w=>CpI 22 w0 w4.heap.size T j a w∧RepC w Z2 TRC (a.eval (.tmp 7)) T∧a.eval (.tmp 8) = .int .i64 (T.list.length:Nat)∧a.eval (.tmp 9) = .int .i64 (j:Nat)∧(∀ b,Z2 b→w.heap[b]? = w4.heap[b]?))
  (fun j a w=>CpI 22 w0 w4.heap.size T (j + 1) a w∧RepC w Z2 TRC (a.eval (.tmp 7)) T∧a.eval (.tmp 8) = .int .i64 (T.list.length:Nat)∧a.eval (.tmp 9) = .int .i64 (j:Nat)∧(∀ b,Z2 b→w.heap[b]? = w4.heap[b]?)) T.list.length (fun j a w h=>h.2.2.2.1) (Nat.zero_le _) ?_ ?_ ?_ ?_ ?_
 ·refine ⟨⟨S2.size,S2.calm.trans a1d,(keep_ev kp (by kernel_rfl)).trans e2,(keep_ev kp (by kernel_rfl)).trans e3,(F4.block _ (by omega) id).trans ((o3 _ (by omega)).trans p2),⟨.slice none 0 0,[],(F4.block _ (by omega) id).trans p3,by rw [List.take_zero];exact DeepR.nil _ _ _ _ _⟩,F3.trans F4 (fun _ h=>h) (fun _ _ h=>h),by have:=F4.size;omega,Nat.le_refl _⟩,r7,r8.1,r9.1,fun _ _=>rfl⟩
 ·rintro j a w hj ⟨I,h7,h8,h9,hz⟩
  have hz2:∀ b,Z2 b→b < w.heap.size:=fun b hb=>Nat.lt_of_lt_of_le (Z2ok b hb).2 I.top
  refine it_regionS KW_ok KW_pan (n:=22) (G:=fun _=>.pointer none) (Z:=Z2) (env:=[(9,vi (.i (j:Int))),(8,vi (.i (T.list.length:Int)))]) (k:=fun σ=>get σ.env 10 = .val .bool (.b (decide ((j:Int) < (T.list.length:Int))))) (by kernel_rfl) (by kernel_rfl) I.size (fun t=>?_) hz2 (fun _=>rfl) ?_ ?_
  ·rw [get_cons]
   split
   ·rename_i h;subst h;exact ⟨h9,by show -(2 ^ 63:Int)≤(j:Int);omega,by show (j:Int)≤2 ^ 63 - 1;omega⟩
   ·rw [get_cons]
    split
    ·rename_i h;subst h;exact ⟨h8,by show -(2 ^ 63:Int)≤(T.list.length:Int);omega,by show (T.list.length:Int)≤2 ^ 63 - 1;omega⟩
    ·trivial
  ·rw [cp3_tree]
   rfl
  ·rintro σ a' w' Z' G' k10 S' kp'
   have r10:=S'.slot 10
   rw [k10] at r10
   have F':Fut (fun _=>False) w w':=S'.fut
   refine ⟨rfl,?_,I.next S'.size S'.calm (keep_ev kp' (by kernel_rfl)) (keep_ev kp' (by kernel_rfl)) F',?_,(keep_ev kp' (by kernel_rfl)).trans h8,(keep_ev kp' (by kernel_rfl)).trans h9,fun b hb=>(F'.block b (hz2 b hb) id).trans (hz b hb)⟩
   ·have r10:a'.eval (.tmp 10) = .bool (decide ((j:Int) < (T.list.length:Int))):=r10
    rw [r10]
    congr 1
    simp
   ·rw [keep_ev kp' (by kernel_rfl)]
    exact RepC.mono ⟨fun _ h=>h,fun b hb=>F'.block b (hz2 b hb) id⟩ _ _ _ h7
 ·rintro j a w hj ⟨I,h7,h8,h9,hz⟩
  have hz2:∀ b,Z2 b→b < w.heap.size:=fun b hb=>Nat.lt_of_lt_of_le (Z2ok b hb).2 I.top
  refine wp_block (wp_seq (it_regionS KW_ok KW_pan (n:=22) (G:=fun _=>.pointer none) (Z:=Z2) (env:=[(9,vi (.i (j:Int))),(7,.val TRC T)]) (k:=fun σ=>get σ.env 5 = .val (.sl true EC) (U.at T.list j)) (by kernel_rfl) (by kernel_rfl) I.size (fun t=>?_) hz2 (fun _=>rfl) ?_ ?_))
  ·rw [get_cons]
   split
   ·rename_i h;subst h;exact ⟨h9,by show -(2 ^ 63:Int)≤(j:Int);omega,by show (j:Int)≤2 ^ 63 - 1;omega⟩
   ·rw [get_cons]
    split
    ·rename_i h;subst h;exact h7
    ·trivial
  ·rw [cp4_tree]
   have:decide ((0:Int)≤(U.i (j:Int)).int∧(U.i (j:Int)).int < (T.list.length:Int))=true:=decide_eq_true ⟨by simp,by simpa using hj⟩
   rw [this,cond_true]
   rfl
  ·rintro σ a' w' Z' G' k5 S' kp'
   have r5:=S'.slot 5
   rw [k5] at r5
   have F':Fut (fun _=>False) w w':=S'.fut
   have I':=I.next S'.size S'.calm (keep_ev kp' (by kernel_rfl)) (keep_ev kp' (by kernel_rfl)) F'
   obtain ⟨vo,rows,hB,D⟩:=I'.deep
   have hlen:(T.list.take j).length < 1048576:=by rw [List.length_take];omega
   refine wp_mono (cp_r5 (F:=fun b=>w4.heap.size≤b) I'.size I'.e3 rfl r5 S'.lt (hrows j hj) hB D (fun b hb e=>?_) (fun b hb=>Nat.le_trans I'.top hb) hlen) ?_
   ·have hb:w4.heap.size≤b:=hb
    have:=F4.size
    omega
   rintro e a3 w5 ⟨rfl,vo',rows',hB',D',hs,hdf,hlow,F5⟩
   have hbse:=I'.floor
   have htop:=I'.top
   have hz5:∀ b,Z2 b→w5.heap[b]? = w4.heap[b]?:=fun b hb=>(F5.block b (Nat.lt_of_lt_of_le (hz2 b hb) F'.size) (fun h=>by
    rcases h with h | h
    ·exact (Z2ok b hb).1 h
    ·have:=(Z2ok b hb).2;have h:w4.heap.size≤b:=h;omega)).trans ((F'.block b (hz2 b hb) id).trans (hz b hb))
   have htk:T.list.take (j + 1)=T.list.take j ++ [U.at T.list j]:=by
    rw [List.take_add_one,List.getElem?_eq_getElem hj]
    rw [at_get hj]
    rfl
   refine ⟨rfl,⟨hs,hdf.trans I'.calm,(hlow 2 (by decide)).trans I'.e2,(hlow 3 (by decide)).trans I'.e3,?_,⟨vo',rows',hB',by rw [htk];exact D'⟩,?_,I'.floor,Nat.le_trans I'.top F5.size⟩,?_,?_,?_,hz5⟩
   ·refine (F5.block _ (by omega) fun h=>?_).trans I'.b1
    rcases h with h | h
    ·omega
    ·have h:w4.heap.size≤w0.heap.size + 1:=h
     omega
   ·exact I'.fut.trans F5 (fun _ h=>h) (fun b hb h=>by
     rcases h with h | h
     ·omega
     ·have h:w4.heap.size≤b:=h
      omega)
   ·rw [hlow 7 (by decide),keep_ev kp' (by kernel_rfl)]
    exact RepC.mono ⟨fun _ h=>h,fun b hb=>(hz5 b hb).trans (hz b hb).symm⟩ _ _ _ h7
   ·rw [hlow 8 (by decide),keep_ev kp' (by kernel_rfl)];exact h8
   ·rw [hlow 9 (by decide),keep_ev kp' (by kernel_rfl)];exact h9
 ·rintro j a w hj ⟨I,h7,h8,h9,hz⟩
  have hz2:∀ b,Z2 b→b < w.heap.size:=fun b hb=>Nat.lt_of_lt_of_le (Z2ok b hb).2 I.top
  refine it_regionS KW_ok KW_pan (n:=22) (G:=fun _=>.pointer none) (Z:=Z2) (env:=[(9,vi (.i (j:Int)))]) (k:=fun σ=>get σ.env 9=vi (.i ((j:Int) + 1))) (by kernel_rfl) (by kernel_rfl) I.size (fun t=>?_) hz2 (fun _=>rfl) ?_ ?_
  ·rw [get_cons]
   split
   ·rename_i h;subst h;exact ⟨h9,by show -(2 ^ 63:Int)≤(j:Int);omega,by show (j:Int)≤2 ^ 63 - 1;omega⟩
   ·trivial
  ·rw [cp6_tree]
   show vi (U.i (IntKind.i64.wrap ((j:Int) + 1)))=_
   rw [i64_in (by omega) (by omega)]
  ·rintro σ a' w' Z' G' k9 S' kp'
   have r9:=S'.slot 9
   rw [k9] at r9
   have F':Fut (fun _=>False) w w':=S'.fut
   refine ⟨rfl,I.next S'.size S'.calm (keep_ev kp' (by kernel_rfl)) (keep_ev kp' (by kernel_rfl)) F',?_,(keep_ev kp' (by kernel_rfl)).trans h8,r9.1,fun b hb=>(F'.block b (hz2 b hb) id).trans (hz b hb)⟩
   rw [keep_ev kp' (by kernel_rfl)]
   exact RepC.mono ⟨fun _ h=>h,fun b hb=>F'.block b (hz2 b hb) id⟩ _ _ _ h7
 ·rintro a w ⟨I,h7,h8,h9,hz⟩
  obtain ⟨vo,rows,hB,D⟩:=I.deep
  rw [List.take_length] at D
  have hone:=own_one D.own
  have htop:=I.top
  have hbse:=I.floor
  refine wp_seq (wp_regIs cp_r7 ?_)
  simp only [wpL]
  intro o hd ho
  refine loadA_op hdA hagg szA ho I.e3 hB ?_
  rw [hd]
  clear hd ho o
  intro o hd ho
  refine store1_op (v:=.agg #[vo]) szA ho ?_ (by rw [ev_put (by rw [I.size];decide),if_pos rfl]) (by simp [Value.cells,cells_one hone]) hone rfl I.b1 ?_
  ·rw [ev_put (by rw [I.size];decide),if_neg (by decide)];exact I.e2
  intro w6 hB6 g6 _
  rw [hd]
  clear hd ho o
  refine wp_ret ?_
  have F6:Fut (fun b=>b=w0.heap.size + 1) w w6:=fut_grown g6 fun b e=>by cases e;rfl
  refine ⟨by rw [defers_put,defers_put];exact I.calm,.agg #[vo],results_cell (x:=2) (by kernel_rfl) ?_ (run_loadVar_agg (vs:=[vo]) hdA hagg szA rfl (fun j u hj=>by
   cases j with
   | zero=>simp at hj;subst hj;exact cell_one hB6
   | succ j=>simp at hj)),vo,rows,rfl,I.fut.trans F6 (fun _ h=>h) (fun b hb h=>by omega),?_⟩
  ·have:((a.put (some 21) (.agg #[vo])).put none undef).eval (.tmp 2) = .pointer (some ⟨w0.heap.size + 1,0,none⟩):=by
    show (a.put (some 21) (.agg #[vo])).eval (.tmp 2)=_
    rw [ev_put (by rw [I.size];decide),if_neg (by decide)];exact I.e2
   exact this
  ·refine ⟨?_,D.len,fun b hb=>Nat.le_trans (by omega) (D.home b hb),?_,fun j r b hr hb=>⟨Nat.le_trans (by omega) (D.rowF j r b hr hb).1,(D.rowF j r b hr hb).2⟩,D.apart⟩
   ·exact ownsRow_same D.own fun g hg=>F6.block g (D.own.lt g hg).2 fun e=>by have:w4.heap.size≤g:=D.home g hg;omega
   ·exact fun j r hr=>(D.row j r hr).same fun g hg=>F6.block g ((D.row j r hr).lt hg) fun e=>by have:w4.heap.size≤g:=(D.rowF j r g hr hg).1;omega
end Go.Mat

namespace Go.Mat
open Go Go.Den Go.Proofs Go.RowKit
set_option maxRecDepth 100000
theorem uR:PR.underlying 64=some (.slice 24):=by kernel_rfl
theorem szR:sizeT PR 64=some 1:=by kernel_rfl
end Go.Mat
