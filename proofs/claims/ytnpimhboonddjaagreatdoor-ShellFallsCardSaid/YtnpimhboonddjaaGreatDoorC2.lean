/- A part of the proof of this: the law ShellFalls. Conditions: none. Joined of AmH, AmI, AmJ, AmK, AmL, AmM, AmN. -/
import Derived.Test.YtnpimhboonddjaaGreatDoorC1
import Derived.Laws.BytesString
import Derived.LaidEql
namespace Go.AM
open Go
def PureOk (P:Program) (o:Oper) (f:OpF):Prop:=∀ en h nx κ,f en h nx κ=true→
 ∃ v,(∀ h' nx' κ',f en h' nx' κ' = κ' v h' nx')∧∀ θ (a:Act) w,ER θ en a.tmps→∃ u,VR θ v u∧(execOp a.eval o).run P w = .ok (.value u) w
section types
variable {P:Program} {w:World}
theorem sizeT_info {t:TypeId} {k:Nat} (h:sizeT P t=some k):∃ i,P.info? t=some i∧i.size=k:=by
 unfold sizeT at h
 obtain ⟨i,h1,h2⟩:=Option.map_eq_some_iff.1 h
 exact ⟨i,h1,h2⟩
theorem run_size {t:TypeId} {k:Nat} (h:sizeT P t=some k):(sizeOf t).run P w = .ok k w:=by
 obtain ⟨i,hi,rfl⟩:=sizeT_info h
 simp [sizeOf,typeInfo,hi]
theorem aggT_some {t:TypeId} {b:Bool} (h:aggT P t=some b):∃ d,P.underlying t=some d∧(isAgg t).run P w = .ok b w:=by
 unfold aggT at h
 obtain ⟨d,h1,h2⟩:=Option.map_eq_some_iff.1 h
 refine ⟨d,h1,?_⟩
 simp only [isAgg,Sem.run_bind,run_underlying h1,Result.andThen]
 subst h2
 cases d<;>rfl
theorem cellsA_ok {θ:Th} {x:AV} {v:Value} (h:VR θ x v) (h1:(cellsA x).all one=true):Oks θ (cellsA x)∧v.cells.toList=toVs θ (cellsA x):=by
 obtain ⟨h2,h3⟩:=h
 subst h3
 cases x<;>first
  | exact ⟨⟨h2,trivial⟩,rfl⟩
  | (simp [cellsA,one] at h1;done)
  | exact ⟨⟨h2,trivial⟩,cells_one (θ.xv1 _)⟩
  | exact ⟨⟨h2,trivial⟩,cells_one (toV_one rfl)⟩
  | exact ⟨h2.1,by simp [toV,Value.cells,cellsA]⟩
theorem zeroT_some {t:TypeId} {z:List AV} (h:zeroT P t=some z):∃ i v,P.info? t=some i∧i.zero=some v∧z.all one=true∧∀ θ,Oks θ z∧v.cells=(toVs θ z).toArray:=by
 unfold zeroT at h
 split at h
 ·rename_i i hi
  split at h
  ·rename_i v hv
   split at h
   ·rename_i x hx
    split at h
    ·rename_i h1
     injection h with h;subst h
     refine ⟨i,v,hi,hv,h1,fun θ=>?_⟩
     obtain ⟨k1,k2⟩:=cellsA_ok (ofV_ok θ hx) h1
     exact ⟨k1,by rw [← k2]⟩
    ·cases h
   ·cases h
  ·cases h
 ·cases h
theorem zeroV_some {t:TypeId} {z:AV} (h:zeroV P t=some z):∃ i v,P.info? t=some i∧i.zero=some v∧∀ θ,VR θ z v:=by
 unfold zeroV at h
 split at h
 ·rename_i i hi
  split at h
  ·rename_i v hv
   exact ⟨i,v,hi,hv,fun θ=>ofV_ok θ h⟩
  ·cases h
 ·cases h
end types
section ops
variable {P:Program} {o:Oper} {x y:XF} {X Y:Operand}
theorem p_mv (hx:XOk x X) (ho:o.op = .move X∨o.op = .assign X):PureOk P o (oMv x):=by
 intro en h nx κ e
 obtain ⟨v,hv,hr⟩:=hx en
 refine ⟨v,fun h' nx' κ'=>hv _,fun θ a w hE=>⟨_,hr θ a hE,?_⟩⟩
 rcases ho with ho | ho<;>simp [execOp,ho]
theorem p_sid {s d:TypeId} (hx:XOk x X) (hs:P.underlying s=some .string) (hd:P.underlying d=some .string) (ho:o.op = .convert s d X):PureOk P o (oSid x):=by
 intro en h nx κ e
 obtain ⟨v,hv,hr⟩:=hx en
 simp only [oSid,hv] at e
 obtain ⟨l,rfl,e1⟩:=asS_true e
 refine ⟨.s l,fun h' nx' κ'=>by simp only [oSid,hv];rfl,fun θ a w hE=>⟨_,hr θ a hE,?_⟩⟩
 have hX:=(hr θ a hE).s.1
 simp [execOp,ho,hX,convert,run_underlying hs,run_underlying hd]
theorem p_pick {c:XF} {Cc:Operand} (hc:XOk c Cc) (hx:XOk x X) (hy:XOk y Y) (ho:o.op = .pick Cc X Y):PureOk P o (oPick c x y):=by
 intro en h nx κ e
 obtain ⟨v,hv,hr⟩:=hx en
 obtain ⟨v2,hv2,hr2⟩:=hy en
 obtain ⟨q,hq,hrq⟩:=hc en
 simp only [oPick,hv,hv2,hq] at e
 obtain ⟨t,rfl,e1⟩:=asB_true e
 cases t with
 | true=>
  refine ⟨v,fun h' nx' κ'=>?_,fun θ a w hE=>⟨_,hr θ a hE,?_⟩⟩
  ·simp only [oPick,hv,hv2,hq];rfl
  ·have:=(hrq θ a hE).b
   simp [execOp,ho,this,asBool]
 | false=>
  refine ⟨v2,fun h' nx' κ'=>?_,fun θ a w hE=>⟨_,hr2 θ a hE,?_⟩⟩
  ·simp only [oPick,hv,hv2,hq];rfl
  ·have:=(hrq θ a hE).b
   simp [execOp,ho,this,asBool]
theorem p_nc (hx:XOk x X) (ho:o.op = .nilCheck X):PureOk P o (oNc x):=by
 intro en h nx κ e
 obtain ⟨v,hv,hr⟩:=hx en
 simp only [oNc,hv] at e
 refine ⟨v,fun h' nx' κ'=>?_,fun θ a w hE=>⟨_,hr θ a hE,?_⟩⟩
 ·simp only [oNc,hv]
  cases v<;>first | rfl | cases e
 ·have:=(hr θ a hE).2
  simp only [execOp,ho,this]
  cases v<;>first | rfl | cases e
theorem eqGuard_int {w:World} (op:BinOp) (t:TypeId) (x y:Operand) (i j:IntKind) (m n:Int):(eqGuard op t x y (.int i m) (.int j n)).run P w = .ok () w:=by
 cases op<;>rfl
theorem bin_run {w:World} {a:Act} {op:BinOp} {t t2:TypeId} {r v v':Value} (ho:o.op = .binOp op t X Y t2) (hx:a.eval X=v) (hy:a.eval Y=v')
  (hg:(eqGuard op t X Y v v').run P w = .ok () w) (h:(binOp op t v v').run P w = .ok r w):(execOp a.eval o).run P w = .ok (.value r) w:=by
 simp only [execOp,ho,hx,hy,Sem.run_bind,hg,h,Result.andThen,Sem.run_pure]
theorem p_ar {op:BinOp} {t t2:TypeId} {f:ArF} {k:Nat} (hx:XOk x X) (hy:XOk y Y) (ho:o.op = .binOp op t X Y t2)
  (hf:∀ a b κ,f k a b κ=true→∃ c,(∀ κ',f k a b κ' = κ' c)∧∀ w,(binOp op t (.int (kindOf k) a) (.int (kindOf k) b)).run P w = .ok (.int (kindOf k) c) w):PureOk P o (oAr f k x y):=by
 intro en h nx κ e
 obtain ⟨v,hv,hr⟩:=hx en
 obtain ⟨v2,hv2,hr2⟩:=hy en
 simp only [oAr,hv,hv2] at e
 obtain ⟨a,rfl,e1⟩:=asK_true e
 obtain ⟨b,rfl,e2⟩:=asK_true e1
 obtain ⟨c,hc,hrun⟩:=hf a b _ e2
 refine ⟨.i k c,fun h' nx' κ'=>?_,fun θ ac w hE=>⟨_,vr_i θ k c,?_⟩⟩
 ·simp only [oAr,hv,hv2,asK_i,hc]
 ·exact bin_run ho (hr θ ac hE).i (hr2 θ ac hE).i (eqGuard_int _ _ _ _ _ _ _ _) (hrun w)
theorem p_la {op:BinOp} {t t2:TypeId} {f:ArF} {g:LaF} {k:Nat} (hx:XOk x X) (hy:XOk y Y) (ho:o.op = .binOp op t X Y t2)
  (hf:∀ a b κ,f k a b κ=true→∃ c,(∀ κ',f k a b κ' = κ' c)∧∀ w,(binOp op t (.int (kindOf k) a) (.int (kindOf k) b)).run P w = .ok (.int (kindOf k) c) w) (hg:LaOk op k g):PureOk P o (oLa f g k x y):=by
 intro en h nx κ e
 obtain ⟨v,hv,hr⟩:=hx en
 obtain ⟨v2,hv2,hr2⟩:=hy en
 simp only [oLa,hv,hv2,laV] at e
 rcases br_true e with ⟨h1,e1⟩ | ⟨h1,e1⟩
 ·obtain ⟨A,a1,e2,a2,_,a4⟩:=lnK_true e1
  obtain ⟨B,b1,e3,b2,_,b4⟩:=lnK_true e2
  obtain ⟨N,n1,e4,n3⟩:=hg A B _ e3
  have hk:k < 8:=by
   have h1':=h1
   unfold isLL at h1'
   rw [or'_eq,Bool.or_eq_true] at h1'
   exact h1'.elim a2 b2
  refine ⟨.l k N,fun h' nx' κ'=>?_,fun θ ac w hE=>?_⟩
  ·simp only [oLa,hv,hv2,laV,h1,br_tt]
   rw [a1,b1,n1]
  ·obtain ⟨la,ua⟩:=a4 θ _ (hr θ ac hE)
   obtain ⟨lb,ub⟩:=b4 θ _ (hr2 θ ac hE)
   obtain ⟨lN,hrun⟩:=n3 la lb
   exact ⟨_,vr_l θ hk lN,bin_run ho ua ub (eqGuard_int _ _ _ _ _ _ _ _) (hrun P t θ.lane w θ.lane_lt)⟩
 ·have hsame:∀ h nx κ,oLa f g k x y en h nx κ=oAr f k x y en h nx κ:=by
   intro h nx κ
   simp only [oLa,oAr,hv,hv2,laV,h1,br_ff]
  obtain ⟨v',k1,k2⟩:=p_ar hx hy ho hf en h nx κ ((hsame h nx κ).symm.trans (by simp only [oLa,hv,hv2,laV];exact e))
  exact ⟨v',fun h' nx' κ'=>(hsame h' nx' κ').trans (k1 h' nx' κ'),k2⟩
theorem colV_ok (v:AV):∃ v',(∀ κ,colV v κ=κ v')∧∀ θ u,VR θ v u→VR θ v' u:=by
 by_cases hl:∃ k N,v = .l k N
 ·obtain ⟨k,N,rfl⟩:=hl
  have hs:∀ κ,colV (.l k N) κ=br (Nat.blt k 8) (br (Nat.beq (Nat.mul LO (Nat.mod N 340282366920938463463374607431768211456)) N) (κ (.i k (.ofNat (Nat.mod N 340282366920938463463374607431768211456)))) (κ (.l k N))) (κ (.l k N)):=fun κ=>by
   unfold colV
   exact fnat_eq _ _
  cases h1:Nat.blt k 8 with
  | false=>exact ⟨.l k N,fun κ=>by rw [hs,h1];rfl,fun _ _ h=>h⟩
  | true=>
   cases h2:Nat.beq (Nat.mul LO (Nat.mod N 340282366920938463463374607431768211456)) N with
   | false=>exact ⟨.l k N,fun κ=>by rw [hs,h1,h2];rfl,fun _ _ h=>h⟩
   | true=>
    refine ⟨_,fun κ=>by rw [hs,h1,h2];rfl,fun θ u h=>?_⟩
    have hk:k < 8:=by simpa [Nat.blt_eq] using h1
    obtain ⟨_,hu⟩:=h.l hk
    have h3:=Nat.eq_of_beq_eq_true h2
    have h4:ln θ.lane N=Nat.mod N 340282366920938463463374607431768211456:=by
     conv=>lhs;rw [← h3,mul_is]
     exact ln_LO (Nat.mod_lt _ (by decide)) θ.lane_lt
    rw [hu,h4]
    exact vr_i θ k _
 ·refine ⟨v,fun κ=>?_,fun _ _ h=>h⟩
  cases v<;>first | rfl | exact absurd ⟨_,_,rfl⟩ hl
theorem p_ad {t t2:TypeId} {k:Nat} (hx:XOk x X) (hy:XOk y Y) (ho:o.op = .binOp .add t X Y t2):PureOk P o (oAd k x y):=by
 intro en h nx κ e
 obtain ⟨v,hv,hr⟩:=hx en
 obtain ⟨v2,hv2,hr2⟩:=hy en
 by_cases hxi:∃ n k' r m,v2 = .xi n k' r m
 ·obtain ⟨n,k',r,m,rfl⟩:=hxi
  have hs:∀ h' nx' (κ':K),oAd k x y en h' nx' κ' = br (Nat.beq k' 13) (br (Nat.beq k 3) (asK 3 (fun c=>@Int.rec (fun _=>R) (fun c=>fnat (Nat.add r c) fun c=>br (Nat.blt c 4294967296) (κ' (.xi n 13 c 1) h' nx') false) (fun _=>false) c) v) false)
    (br (Nat.beq k' 21) (br (Nat.beq k 4) (asK 4 (fun c=>@Int.rec (fun _=>R) (fun c=>br (Nat.beq c 48) (κ' (.xi n 22 r 0) h' nx') false) (fun _=>false) c) v) false) false):=fun h' nx' κ'=>by
   simp only [oAd,hv,hv2];rfl
  rw [hs] at e
  rcases br_true e with ⟨b1,e⟩ | ⟨b1,e⟩
  rotate_left
  ·obtain ⟨b2,e⟩:=br_t e
   obtain ⟨b3,e⟩:=br_t e
   obtain ⟨c,rfl,e⟩:=asK_true e
   cases c with
   | negSucc c=>cases e
   | ofNat c=>
    obtain ⟨b4,e⟩:=br_t (show br (Nat.beq c 48) (κ (.xi n 22 r 0) h nx) false=true from e)
    refine ⟨.xi n 22 r 0,fun h' nx' κ'=>?_,fun θ ac w hE=>?_⟩
    ·rw [hs,b1,b2,b3]
     show asK 4 (fun c=>@Int.rec (fun _=>R) (fun c=>br (Nat.beq c 48) (κ' (.xi n 22 r 0) h' nx') false) (fun _=>false) c) (.i 4 (Int.ofNat c))=_
     rw [asK_i]
     show br (Nat.beq c 48) _ false=_
     rw [b4];rfl
    ·have b2:=Nat.eq_of_beq_eq_true b2
     have b3:=Nat.eq_of_beq_eq_true b3
     have b4:=Nat.eq_of_beq_eq_true b4
     subst b2 b3 b4
     have hY:ac.eval Y = .int .u8 (((xnat (θ.ext n)).toNat / 2 ^ r % 2:Nat):Int):=by
      rw [(hr2 θ ac hE).2,xb_val (by decide)];rfl
     refine ⟨.int .u8 ((48 + (xnat (θ.ext n)).toNat / 2 ^ r % 2:Nat):Int),⟨xb_ok (by decide),by rw [xb_val (by decide)];rfl⟩,bin_run ho (hr θ ac hE).i hY (eqGuard_int _ _ _ _ _ _ _ _) ?_⟩
     have hw:=wrap_nat (k:=4) (m:=48 + (xnat (θ.ext n)).toNat / 2 ^ r % 2) (by simp only [khi];omega)
     show (binOp .add t (.int .u8 (48:Int)) (.int .u8 _)).run P w=_
     simp only [binOp,Op.intArith,Sem.run_pure]
     refine congrArg (fun x=>Result.ok (Value.int .u8 x) w) ?_
     exact hw
  obtain ⟨b2,e⟩:=br_t e
  obtain ⟨c,rfl,e⟩:=asK_true e
  cases c with
  | negSucc c=>cases e
  | ofNat c=>
   have e:fnat (Nat.add r c) (fun c=>br (Nat.blt c 4294967296) (κ (.xi n 13 c 1) h nx) false)=true:=e
   rw [fnat_eq] at e
   obtain ⟨b3,e⟩:=br_t e
   refine ⟨.xi n 13 (Nat.add r c) 1,fun h' nx' κ'=>?_,fun θ ac w hE=>?_⟩
   ·rw [hs,b1,br_tt,b2,br_tt,asK_i]
    show fnat (Nat.add r c) _=_
    rw [fnat_eq,b3];rfl
   ·have b1:=Nat.eq_of_beq_eq_true b1
    have b2:=Nat.eq_of_beq_eq_true b2
    have b3:r + c < 4294967296:=by simpa [Nat.blt_eq] using b3
    subst b1 b2
    obtain ⟨hok,hY⟩:=hr2 θ ac hE
    obtain ⟨h2,w',w1,w2,w3⟩:=xo_num (by omega) (by omega) hok
    refine ⟨_,⟨xo_ok (by omega) w' w1 w2 b3,rfl⟩,bin_run ho (hr θ ac hE).i (hY.trans w3) (eqGuard_int _ _ _ _ _ _ _ _) ?_⟩
    have hw:(IntKind.i64).wrap (((w' + (r + c):Nat):Int))=((w' + (r + c):Nat):Int):=wrap_nat (k:=3) (m:=w' + (r + c)) (by simp only [khi];omega)
    have hs2:((c:Int) + ((w':Int) + (r:Int)))=((w' + (r + c):Nat):Int):=by omega
    have hs3:toV θ (.xi n 13 (Nat.add r c) 1) = .int .i64 ((w' + (r + c):Nat):Int):=by
     show (Value.int .i64 (xnat (θ.ext n) + ((Nat.add r c:Nat):Int)))=_
     rw [w1];congr 1
    rw [hs3]
    show (binOp .add t (.int .i64 (c:Int)) (.int .i64 (xnat (θ.ext n) + (r:Int)))).run P w=_
    rw [w1]
    simp [binOp,Op.intArith,hs2]
    have:=hw
    simp only [Int.natCast_add] at this
    exact this
 by_cases hf:∃ n m,v2 = .f n m
 ·obtain ⟨n,m,rfl⟩:=hf
  have hs:∀ h' nx' (κ':K),oAd k x y en h' nx' κ' = br (Nat.beq k 3) (asK 3 (fun c=>@Int.rec (fun _=>R) (fun c=>fnat (Nat.add n (Nat.mul 65536 c)) fun q=>br (Nat.blt q 1125899906842624) (br (Nat.blt m 4294967296) (κ' (.f q m) h' nx') false) false) (fun _=>false) c) v) false:=fun h' nx' κ'=>by
   simp only [oAd,hv,hv2];rfl
  rw [hs] at e
  obtain ⟨b1,e⟩:=br_t e
  obtain ⟨c,hc,e2⟩:=asK_true e
  subst hc
  cases c with
  | negSucc c=>cases e2
  | ofNat c=>
   have e2:fnat (Nat.add n (Nat.mul 65536 c)) (fun q=>br (Nat.blt q 1125899906842624) (br (Nat.blt m 4294967296) (κ (.f q m) h nx) false) false)=true:=e2
   rw [fnat_eq] at e2
   obtain ⟨b2,e3⟩:=br_t e2
   obtain ⟨b3,e4⟩:=br_t e3
   refine ⟨.f (Nat.add n (Nat.mul 65536 c)) m,fun h' nx' κ'=>?_,fun θ ac w hE=>?_⟩
   ·rw [hs,b1]
    show asK 3 (fun c=>@Int.rec (fun _=>R) (fun c=>fnat (Nat.add n (Nat.mul 65536 c)) fun q=>br (Nat.blt q 1125899906842624) (br (Nat.blt m 4294967296) (κ' (.f q m) h' nx') false) false) (fun _=>false) c) (.i 3 (Int.ofNat c))=_
    rw [asK_i]
    show fnat (Nat.add n (Nat.mul 65536 c)) _=_
    rw [fnat_eq,b2,b3];rfl
   ·have b1:=Nat.eq_of_beq_eq_true b1
    have b2:n + 65536 * c < 1125899906842624:=by simpa [Nat.blt_eq] using b2
    have b3:m < 4294967296:=by simpa [Nat.blt_eq] using b3
    subst b1
    obtain ⟨⟨⟨w',w1⟩,hm⟩,hY⟩:=hr2 θ ac hE
    have h1:(n + 65536 * c) % 65536=n % 65536:=by omega
    have h2:(n + 65536 * c) / 65536=n / 65536 + c:=by omega
    have hv1:toV θ (.f (Nat.add n (Nat.mul 65536 c)) m) = .int .i64 (((w' % m + (n / 65536 + c):Nat)):Int):=by
     show Value.int .i64 (xnat (θ.ext ((n + 65536 * c) % 65536)) % (m:Int) + (((n + 65536 * c) / 65536:Nat):Int))=_
     rw [h1,h2,w1]
     congr 1
    have hY':ac.eval Y = .int .i64 (((w' % m + n / 65536:Nat)):Int):=by
     rw [hY]
     show Value.int .i64 (xnat (θ.ext (n % 65536)) % (m:Int) + ((n / 65536:Nat):Int))=_
     rw [w1]
     congr 1
    have hlt:=Nat.mod_lt w' hm
    refine ⟨_,⟨⟨⟨w',by rw [show Nat.add n (Nat.mul 65536 c)=n + 65536 * c from rfl,h1];exact w1⟩,hm⟩,rfl⟩,bin_run ho (hr θ ac hE).i hY' (eqGuard_int _ _ _ _ _ _ _ _) ?_⟩
    rw [hv1]
    have hw:=wrap_nat (k:=3) (m:=w' % m + (n / 65536 + c)) (by simp only [khi];omega)
    show (binOp .add t (.int .i64 (c:Int)) (.int .i64 _)).run P w=_
    simp only [binOp,Op.intArith,Sem.run_pure,ne_eq,not_true_eq_false,if_false]
    refine congrArg (fun x=>Result.ok (Value.int .i64 x) w) ?_
    have hs2:((c:Int) + ((w' % m + n / 65536:Nat):Int))=((w' % m + (n / 65536 + c):Nat):Int):=by omega
    rw [hs2]
    exact hw
 ·have hsame:∀ h nx κ,oAd k x y en h nx κ=oLa arAdd laAdd k x y en h nx κ:=by
   intro h nx κ
   simp only [oAd,oLa,hv,hv2]
   cases v2<;>first | rfl | exact absurd ⟨_,_,_,_,rfl⟩ hxi | exact absurd ⟨_,_,rfl⟩ hf
  rw [hsame] at e
  obtain ⟨v',k1,k2⟩:=p_la hx hy ho (fun a b κ _=>⟨_,fun κ'=>arAdd_eq k a b κ',fun w=>by simp [binOp,Op.intArith]⟩) (laAdd_ok k) en h nx κ e
  exact ⟨v',fun h' nx' κ'=>(hsame h' nx' κ').trans (k1 h' nx' κ'),k2⟩
theorem p_rem {t t2:TypeId} {k:Nat} (hx:XOk x X) (hy:XOk y Y) (ho:o.op = .binOp .rem t X Y t2):PureOk P o (oRem k x y):=by
 have hrem:∀ (a b:Int) (κ:Int→R),arRem k a b κ=true→∃ c,(∀ κ',arRem k a b κ' = κ' c)∧∀ w,(binOp .rem t (.int (kindOf k) a) (.int (kindOf k) b)).run P w = .ok (.int (kindOf k) c) w:=
  fun a b κ e=>⟨_,fun κ'=>arRem_eq k a b κ' (isZ_true e).1,fun w=>by simp [binOp,Op.intDiv,(isZ_true e).1]⟩
 have hp:PureOk P o (oAr arRem k x y):=p_ar hx hy ho hrem
 intro en h nx κ e
 obtain ⟨v,hv,hr⟩:=hx en
 obtain ⟨v2,hv2,hr2⟩:=hy en
 by_cases hl:∃ k' N,v = .l k' N
 ·obtain ⟨k',N,rfl⟩:=hl
  have hsame:∀ h nx (κ:K),oRem k x y en h nx κ=oLa arRem laRem k x y en h nx (fun v h nx=>colV v fun v=>κ v h nx):=by
   intro h nx κ
   simp only [oRem,oLa,hv]
  rw [hsame] at e
  obtain ⟨v',k1,k2⟩:=p_la hx hy ho hrem (laRem_ok k) en h nx _ e
  obtain ⟨v3,c1,c2⟩:=colV_ok v'
  refine ⟨v3,fun h' nx' κ'=>((hsame h' nx' κ').trans (k1 h' nx' _)).trans (c1 _),fun θ ac w hE=>?_⟩
  obtain ⟨r,r1,r2⟩:=k2 θ ac w hE
  exact ⟨r,c2 θ r r1,r2⟩
 by_cases hxi:∃ n k' r m,v = .xi n k' r m
 ·obtain ⟨n,k',r,m,rfl⟩:=hxi
  simp only [oRem,hv,hv2] at e
  obtain ⟨b0,e⟩:=br_t e
  obtain ⟨b1,e1⟩:=br_t e
  obtain ⟨b,rfl,e2⟩:=asK_true e1
  cases b with
  | negSucc b=>cases e2
  | ofNat b=>
   rcases br_true e2 with ⟨bm,e2⟩ | ⟨bm,e2⟩
   ·obtain ⟨c1,e3⟩:=br_t e2
    obtain ⟨c2,e4⟩:=br_t e3
    obtain ⟨c3,e5⟩:=br_t e4
    obtain ⟨c4,e5⟩:=br_t e5
    have c4':n < 65536:=by simpa [Nat.blt_eq] using c4
    refine ⟨.f n b,fun h' nx' κ'=>?_,fun θ ac w hE=>?_⟩
    ·simp only [oRem,hv,hv2,b0,b1,asK_i]
     show br (Nat.beq m 1) (br (Nat.beq k 3) (br (Nat.blt 0 b) (br (Nat.blt b 9223372036854775808) (br (Nat.blt n 65536) _ _) _) _) _) _=_
     rw [bm,c1,c2,c3,c4];rfl
    ·have b1:=Nat.eq_of_beq_eq_true b1
     have c1:=Nat.eq_of_beq_eq_true c1
     have c2:0 < b:=by simpa [Nat.blt_eq] using c2
     subst b1 c1
     obtain ⟨hok,hX⟩:=hr θ ac hE
     obtain ⟨w',w0,w1,w2,w3⟩:=xi_num (by decide) hok
     have hX:ac.eval X = .int (kindOf 3) (w':Int):=by rw [hX,w0]
     have hn:n % 65536=n:=Nat.mod_eq_of_lt c4'
     refine ⟨.int .i64 (xnat (θ.ext n) % (b:Int)),⟨⟨⟨w',by rw [hn];exact w1⟩,c2⟩,by simp only [toV,hn,Nat.div_eq_of_lt c4'];simp⟩,bin_run ho hX (hr2 θ ac hE).i (eqGuard_int _ _ _ _ _ _ _ _) ?_⟩
     have hb':b≠0:=by omega
     have hq:Int.tmod (w':Int) (b:Int)=xnat (θ.ext n) % (b:Int):=by rw [w1];rfl
     simp [binOp,Op.intDiv,hb',hq,kindOf]
   obtain ⟨b2,e3⟩:=br_t e2
   obtain ⟨b3,e4⟩:=br_t e3
   refine ⟨.i k (.ofNat r),fun h' nx' κ'=>?_,fun θ ac w hE=>⟨_,vr_i θ k _,?_⟩⟩
   ·simp only [oRem,hv,hv2,b0,b1,asK_i]
    show br (Nat.beq m 1) _ (br (Nat.beq b m) (br (Nat.blt 0 m) _ _) _)=_
    rw [bm,b2,b3];rfl
   ·have b1:=Nat.eq_of_beq_eq_true b1
    have b2:=Nat.eq_of_beq_eq_true b2
    have b3:0 < m:=by simpa [Nat.blt_eq] using b3
    subst b1 b2
    obtain ⟨hok,hX⟩:=hr θ ac hE
    obtain ⟨w',w0,w1,w2,w3⟩:=xi_num (by simpa [Nat.blt_eq] using b0) hok
    have hX:ac.eval X = .int (kindOf k') (w':Int):=by rw [hX,w0]
    refine bin_run ho hX (hr2 θ ac hE).i (eqGuard_int _ _ _ _ _ _ _ _) ?_
    have hb:(Int.ofNat b)≠0:=by simp;omega
    have hb':b≠0:=by omega
    have hq:Int.tmod (w':Int) (b:Int)=(r:Int):=by
     subst w2;rfl
    simp [binOp,Op.intDiv,hb',hq]
 ·have hsame:∀ h nx κ,oRem k x y en h nx κ=oAr arRem k x y en h nx κ:=by
   intro h nx κ
   simp only [oRem,oAr,hv]
   cases v<;>first | rfl | exact absurd ⟨_,_,_,_,rfl⟩ hxi | exact absurd ⟨_,_,rfl⟩ hl
  rw [hsame] at e
  obtain ⟨v',k1,k2⟩:=hp en h nx κ e
  exact ⟨v',fun h' nx' κ'=>(hsame h' nx' κ').trans (k1 h' nx' κ'),k2⟩
theorem p_cmp {op:BinOp} {t t2:TypeId} {g:Int→Int→Bool} {k:Nat} {f:OpF} (hx:XOk x X) (hy:XOk y Y) (ho:o.op = .binOp op t X Y t2)
  (hf:∀ en h nx κ,f en h nx κ=x en (asK k fun a=>y en (asK k fun b=>κ (.b (g a b)) h nx)))
  (hg:∀ a b w,(binOp op t (.int (kindOf k) a) (.int (kindOf k) b)).run P w = .ok (.bool (g a b)) w):PureOk P o f:=by
 intro en h nx κ e
 obtain ⟨v,hv,hr⟩:=hx en
 obtain ⟨v2,hv2,hr2⟩:=hy en
 simp only [hf,hv,hv2] at e
 obtain ⟨a,rfl,e1⟩:=asK_true e
 obtain ⟨b,rfl,e2⟩:=asK_true e1
 refine ⟨.b (g a b),fun h' nx' κ'=>?_,fun θ ac w hE=>⟨_,vr_b θ _,?_⟩⟩
 ·simp only [hf,hv,hv2,asK_i]
 ·exact bin_run ho (hr θ ac hE).i (hr2 θ ac hE).i (eqGuard_int _ _ _ _ _ _ _ _) (hg a b w)
theorem p_sh {op:BinOp} {t t2:TypeId} {g:Nat→Int→Nat→Int} {k:Nat} {f:OpF} (hx:XOk x X) (hy:XOk y Y) (ho:o.op = .binOp op t X Y t2)
  (hf:∀ en h nx κ,f en h nx κ=x en (asK k fun a=>y en (asN fun n=>κ (.i k (g k a n)) h nx)))
  (hg:∀ a n j w,(binOp op t (.int (kindOf k) a) (.int j (.ofNat n))).run P w = .ok (.int (kindOf k) (g k a n)) w):PureOk P o f:=by
 intro en h nx κ e
 obtain ⟨v,hv,hr⟩:=hx en
 obtain ⟨v2,hv2,hr2⟩:=hy en
 simp only [hf,hv,hv2] at e
 obtain ⟨a,rfl,e1⟩:=asK_true e
 obtain ⟨j,n,rfl,e2⟩:=asN_true e1
 refine ⟨.i k (g k a n),fun h' nx' κ'=>?_,fun θ ac w hE=>⟨_,vr_i θ k _,?_⟩⟩
 ·simp only [hf,hv,hv2,asK_i];rfl
 ·exact bin_run ho (hr θ ac hE).i (hr2 θ ac hE).i (eqGuard_int _ _ _ _ _ _ _ _) (hg a n _ w)
theorem p_shl {t t2:TypeId} {k:Nat} (hx:XOk x X) (hy:XOk y Y) (ho:o.op = .binOp .shl t X Y t2):PureOk P o (oShl k x y):=by
 have hp:PureOk P o (fun en h nx κ=>x en (asK k fun a=>y en (asN fun n=>shl k a n fun r=>κ (.i k r) h nx))):=
  p_sh (k:=k) (g:=fun k a n=>(kindOf k).wrap (a * 2 ^ min n (kindOf k).bits)) hx hy ho (fun en h nx κ=>by simp only [shl_eq]) fun a n j w=>by simp [binOp,Op.shift,show ¬ ((n:Int) < 0) by omega]
 intro en h nx κ e
 obtain ⟨v,hv,hr⟩:=hx en
 obtain ⟨v2,hv2,hr2⟩:=hy en
 by_cases hl:∃ k' A,v = .l k' A
 ·obtain ⟨k',A,rfl⟩:=hl
  simp only [oShl,hv,hv2] at e
  obtain ⟨b1,e⟩:=br_t e
  obtain ⟨b2,e⟩:=br_t e
  obtain ⟨j,n,rfl,e⟩:=asN_true e
  obtain ⟨b3,e⟩:=br_t e
  rw [fnat_eq] at e
  obtain ⟨M,k1,k2,k3,k4⟩:=laCut_true e
  have b1':=Nat.eq_of_beq_eq_true b1
  have b2':k < 8:=by simpa [Nat.blt_eq] using b2
  have b3':n < kbit k:=by simpa [Nat.blt_eq] using b3
  subst b1'
  refine ⟨.l k' M,fun h' nx' κ'=>?_,fun θ ac w hE=>⟨_,vr_l θ b2' k3,?_⟩⟩
  ·simp only [oShl,hv,hv2,b1,b2]
   show br (Nat.blt n (kbit k')) _ _=_
   rw [b3,br_tt,fnat_eq];exact k1 _
  ·obtain ⟨la,ua⟩:=(hr θ ac hE).l b2'
   refine bin_run ho ua (hr2 θ ac hE).i (eqGuard_int _ _ _ _ _ _ _ _) ?_
   rw [kbit_eq] at b3'
   have h64:(kindOf k').bits≤64:=by rcases k' with _ | _ | _ | _ | _ | _ | _ | k'<;>first | decide | (show IntKind.u64.bits≤64;decide)
   have hm:ln θ.lane (Nat.mul A (Nat.pow 2 n))=ln θ.lane A * 2 ^ n:=by
    refine ln_mul fun i hi=>?_
    have h3:ln i A < 2 ^ 64:=la.all64 i (by have:=θ.lane_lt;omega)
    have h4:2 ^ n < 2 ^ 64:=Nat.pow_lt_pow_right (by decide) (by omega)
    exact Nat.lt_of_lt_of_le (Nat.mul_lt_mul'' h3 h4) (by decide)
   have:=k4 θ.lane θ.lane_lt
   rw [hm] at this
   simp only [binOp,Op.shift,show ¬ (Int.ofNat n < 0) by simp,if_false,Sem.run_pure,Nat.min_eq_left (Nat.le_of_lt b3'),Int.ofNat_eq_natCast,Int.toNat_natCast]
   refine congrArg (fun x=>Result.ok (Value.int (kindOf k') x) w) ?_
   rw [← this]
   congr 1
 ·have hsame:∀ h nx κ,oShl k x y en h nx κ=x en (asK k fun a=>y en (asN fun n=>shl k a n fun r=>κ (.i k r) h nx)):=by
   intro h nx κ
   simp only [oShl,hv]
   cases v<;>first | rfl | exact absurd ⟨_,_,rfl⟩ hl
  rw [hsame] at e
  obtain ⟨v',k1,k2⟩:=hp en h nx κ e
  exact ⟨v',fun h' nx' κ'=>(hsame h' nx' κ').trans (k1 h' nx' κ'),k2⟩
theorem p_shr {t t2:TypeId} {k:Nat} (hx:XOk x X) (hy:XOk y Y) (ho:o.op = .binOp .shr t X Y t2):PureOk P o (oShr k x y):=by
 have hp:PureOk P o (fun en h nx κ=>x en (asK k fun a=>y en (asN fun n=>shr k a n fun r=>κ (.i k r) h nx))):=
  p_sh (k:=k) (g:=fun k a n=>a.fdiv (2 ^ min n (kindOf k).bits)) hx hy ho (fun en h nx κ=>by simp only [shr_eq]) fun a n j w=>by simp [binOp,Op.shift,show ¬ ((n:Int) < 0) by omega]
 intro en h nx κ e
 obtain ⟨v,hv,hr⟩:=hx en
 obtain ⟨v2,hv2,hr2⟩:=hy en
 by_cases hl:∃ k' A,v = .l k' A
 ·obtain ⟨k',A,rfl⟩:=hl
  simp only [oShr,hv,hv2] at e
  obtain ⟨b1,e⟩:=br_t e
  obtain ⟨b2,e⟩:=br_t e
  obtain ⟨j,n,rfl,e⟩:=asN_true e
  obtain ⟨b3,e⟩:=br_t e
  rw [fnat_eq] at e
  have b1':=Nat.eq_of_beq_eq_true b1
  have b2':k < 8:=by simpa [Nat.blt_eq] using b2
  have b3':n < kbit k:=by simpa [Nat.blt_eq] using b3
  subst b1'
  have h64:(kindOf k').bits≤64:=by rcases k' with _ | _ | _ | _ | _ | _ | _ | k'<;>first | decide | (show IntKind.u64.bits≤64;decide)
  rw [kbit_eq] at b3'
  have hs:∀ {i:Nat},i < 4096→Lim (khi k') A→ln i (Nat.land (Nat.shiftRight A n) LM)=ln i A / 2 ^ n:=fun {i} hi la=>ln_shr hi (by omega) (la.all64 i hi)
  refine ⟨.l k' (Nat.land (Nat.shiftRight A n) LM),fun h' nx' κ'=>?_,fun θ ac w hE=>?_⟩
  ·simp only [oShr,hv,hv2,b1,b2]
   show br (Nat.blt n (kbit k')) _ _=_
   rw [b3,br_tt,fnat_eq]
  ·obtain ⟨la,ua⟩:=(hr θ ac hE).l b2'
   refine ⟨_,vr_l θ b2' (fun i hi=>by rw [hs hi la];exact Nat.lt_of_le_of_lt (Nat.div_le_self _ _) (la i hi)),bin_run ho ua (hr2 θ ac hE).i (eqGuard_int _ _ _ _ _ _ _ _) ?_⟩
   rw [hs θ.lane_lt la]
   simp only [binOp,Op.shift,show ¬ (Int.ofNat n < 0) by simp,if_false,Sem.run_pure,Nat.min_eq_left (Nat.le_of_lt b3'),Int.ofNat_eq_natCast,Int.toNat_natCast]
   refine congrArg (fun x=>Result.ok (Value.int (kindOf k') x) w) ?_
   rw [Int.fdiv_eq_ediv_of_nonneg _ (by exact Int.pow_nonneg (by decide))]
   simp
 by_cases hxi:∃ n k' r m,v = .xi n k' r m
 ·obtain ⟨n,k',r,m,rfl⟩:=hxi
  simp only [oShr,hv,hv2] at e
  obtain ⟨b1,e⟩:=br_t e
  obtain ⟨b2,e⟩:=br_t e
  obtain ⟨j,c,rfl,e⟩:=asN_true e
  obtain ⟨b3,e⟩:=br_t e
  have b1':=Nat.eq_of_beq_eq_true b1
  have b2':=Nat.eq_of_beq_eq_true b2
  subst b1' b2'
  have b3':c < 8:=by simpa [Nat.blt_eq] using b3
  refine ⟨.xi n 20 c 0,fun h' nx' κ'=>?_,fun θ ac w hE=>?_⟩
  ·simp only [oShr,hv,hv2,b1]
   show br (Nat.blt c 8) _ _=_
   rw [b3];rfl
  ·obtain ⟨hok,hX⟩:=hr θ ac hE
   obtain ⟨w',k1,k2,_,_⟩:=xi_num (by decide) hok
   refine ⟨.int .u8 ((w' / 2 ^ c:Nat):Int),⟨xb_ok (by decide),?_⟩,bin_run ho (hX.trans k1) (hr2 θ ac hE).i (eqGuard_int _ _ _ _ _ _ _ _) ?_⟩
   ·rw [xb_val (by decide)]
    show _=Value.int .u8 (((xnat (θ.ext n)).toNat / 2 ^ c:Nat):Int)
    rw [k2,Int.toNat_natCast]
   ·show (binOp .shr t (.int .u8 (w':Int)) (.int (kindOf j) (c:Int))).run P w=_
    simp only [binOp,Op.shift,show ¬ ((c:Int) < 0) by omega,if_false,Sem.run_pure,Int.toNat_natCast]
    rw [Nat.min_eq_left (show c≤IntKind.u8.bits by simp [IntKind.bits];omega),Int.fdiv_eq_ediv_of_nonneg _ (by exact Int.pow_nonneg (by decide))]
    refine congrArg (fun x=>Result.ok (Value.int .u8 x) w) ?_
    simp
 ·have hsame:∀ h nx κ,oShr k x y en h nx κ=x en (asK k fun a=>y en (asN fun n=>shr k a n fun r=>κ (.i k r) h nx)):=by
   intro h nx κ
   simp only [oShr,hv]
   cases v<;>first | rfl | exact absurd ⟨_,_,rfl⟩ hl | exact absurd ⟨_,_,_,_,rfl⟩ hxi
  rw [hsame] at e
  obtain ⟨v',k1,k2⟩:=hp en h nx κ e
  exact ⟨v',fun h' nx' κ'=>(hsame h' nx' κ').trans (k1 h' nx' κ'),k2⟩
theorem zLt_true {m:Nat} {b:Int} {κ:Bool→R} (e:zLt m b κ=true):∃ c,(∀ κ',zLt m b κ' = κ' c)∧κ c=true∧∀ z:Int,(m=0→z < 0)→(0 < m→(m:Int)≤z)→decide (z < b)=c:=by
 cases b with
 | negSucc b=>cases e
 | ofNat b=>
  rcases br_true e with ⟨h1,e1⟩ | ⟨h1,e1⟩
  ·have h0:=Nat.eq_of_beq_eq_true h1
   refine ⟨true,fun κ'=>?_,e1,fun z h2 _=>decide_eq_true ?_⟩
   ·show br (Nat.beq m 0) _ _=_
    rw [h1];rfl
   ·have:=h2 h0
    simp only [Int.ofNat_eq_natCast];omega
  ·obtain ⟨h2,e2⟩:=br_t e1
   refine ⟨false,fun κ'=>?_,e2,fun z _ h3=>decide_eq_false ?_⟩
   ·show br (Nat.beq m 0) _ (br (Nat.ble b m) _ _)=_
    rw [h1,h2];rfl
   ·have hb:=Nat.le_of_ble_eq_true h2
    have hm:0 < m:=by
     rcases Nat.eq_zero_or_pos m with h | h
     ·subst h;cases h1
     ·exact h
    have:=h3 hm
    simp only [Int.ofNat_eq_natCast];omega
theorem ltm_run {A B:Nat} {k:Nat} {θ:Th} {t:TypeId} {w:World} (la:Lim (khi k) A) (lb:Lim (khi k) B) :
  (binOp .lss t (.int (kindOf k) (ln θ.lane A:Nat)) (.int (kindOf k) (ln θ.lane B:Nat))).run P w = .ok (.bool (ln θ.lane (ltm A B) != 0)) w:=by
 rw [ln_ltm θ.lane_lt la.all64 lb.all64]
 by_cases h:ln θ.lane A < ln θ.lane B
 ·rw [if_pos h];simp [binOp,Op.intCmp,h]
 ·rw [if_neg h];simp [binOp,Op.intCmp,h]
theorem ltV_w {k:Nat} {a b:AV} (hb:isXi b=false) (κ:AV→R):ltV k a b κ=ltW k a b κ:=by
 unfold ltV;rw [hb];rfl
theorem ltV_old {k:Nat} {a b:AV} (hb:isXi b=false) (hz:∀ n m,a≠.z n m) (hl:isLL a b=false) (κ:AV→R):ltV k a b κ=asK k (fun a=>asK k (fun b=>cmLt a b fun c=>fbool c fun c=>κ (.b c)) b) a:=by
 have e:ltV k a b κ=br (isLL a b) (lnK k a fun A=>lnK k b fun B=>ltmK A B fun Y=>lbK Y κ) (asK k (fun a=>asK k (fun b=>cmLt a b fun c=>fbool c fun c=>κ (.b c)) b) a):=by
  rw [ltV_w hb]
  cases a<;>first | rfl | exact absurd rfl (hz _ _)
 rw [e,hl,br_ff]
theorem ltV_la {k:Nat} {a b:AV} (hb:isXi b=false) (hz:∀ n m,a≠.z n m) (hl:isLL a b=true) (κ:AV→R):ltV k a b κ=lnK k a fun A=>lnK k b fun B=>ltmK A B fun Y=>lbK Y κ:=by
 have e:ltV k a b κ=br (isLL a b) (lnK k a fun A=>lnK k b fun B=>ltmK A B fun Y=>lbK Y κ) (asK k (fun a=>asK k (fun b=>cmLt a b fun c=>fbool c fun c=>κ (.b c)) b) a):=by
  rw [ltV_w hb]
  cases a<;>first | rfl | exact absurd rfl (hz _ _)
 rw [e,hl,br_tt]
theorem p_lt {t t2:TypeId} {k:Nat} (hx:XOk x X) (hy:XOk y Y) (ho:o.op = .binOp .lss t X Y t2):PureOk P o (oLt k x y):=by
 have hp:PureOk P o (fun en h nx κ=>x en (asK k fun a=>y en (asK k fun b=>cmLt a b (kB κ h nx)))):=
  p_cmp (k:=k) (g:=fun a b=>decide (a < b)) hx hy ho (fun en h nx κ=>by simp only [cmLt_eq,kB_eq]) fun a b w=>by simp [binOp,Op.intCmp]
 intro en h nx κ e
 obtain ⟨v,hv,hr⟩:=hx en
 obtain ⟨v2,hv2,hr2⟩:=hy en
 by_cases hxi:∃ n k' r m,v2 = .xi n k' r m
 ·obtain ⟨n,k',r,m,rfl⟩:=hxi
  have hs:∀ h' nx' (κ':K),oLt k x y en h' nx' κ' = xoLt n k' r k v (fun v=>κ' v h' nx'):=fun h' nx' κ'=>by
   simp only [oLt,hv,hv2];rfl
  rw [hs] at e
  unfold xoLt at e
  obtain ⟨b1,e⟩:=br_t e
  obtain ⟨b2,e⟩:=br_t e
  have b1':=Nat.eq_of_beq_eq_true b1
  have b2':=Nat.eq_of_beq_eq_true b2
  subst b1' b2'
  by_cases hi:∃ k2 c,v = .i k2 c
  ·obtain ⟨k2,c,rfl⟩:=hi
   obtain ⟨b3,e⟩:=br_t (c:=Nat.beq k2 3) e
   have b3':=Nat.eq_of_beq_eq_true b3
   subst b3'
   cases c with
   | negSucc c=>cases e
   | ofNat c=>
    rcases br_true (c:=Nat.ble (Nat.add r 255) c) e with ⟨b4,_⟩ | ⟨b4,_⟩
    ·refine ⟨.b false,fun h' nx' κ'=>?_,fun θ ac w hE=>⟨_,vr_b θ false,?_⟩⟩
     ·rw [hs];show br (Nat.ble (Nat.add r 255) c) _ _=_;rw [b4];rfl
     ·obtain ⟨hok,hY⟩:=hr2 θ ac hE
      obtain ⟨h2,w',w1,w2,w3⟩:=xo_num (by omega) (by omega) hok
      refine bin_run ho (hr θ ac hE).i (hY.trans w3) (eqGuard_int _ _ _ _ _ _ _ _) ?_
      have b4:r + 255≤c:=Nat.le_of_ble_eq_true b4
      show (binOp .lss t (.int .i64 (c:Int)) (.int .i64 (xnat (θ.ext n) + (r:Int)))).run P w=_
      rw [w1]
      have:¬ ((c:Int) < (w':Int) + (r:Int)):=by omega
      simp [binOp,Op.intCmp,this]
    ·refine ⟨.xi n 15 r c,fun h' nx' κ'=>?_,fun θ ac w hE=>?_⟩
     ·rw [hs];show br (Nat.ble (Nat.add r 255) c) _ _=_;rw [b4];rfl
     ·obtain ⟨hok,hY⟩:=hr2 θ ac hE
      obtain ⟨h2,w',w1,w2,w3⟩:=xo_num (by omega) (by omega) hok
      refine ⟨_,⟨xo_ok (by omega) w' w1 w2 h2,rfl⟩,bin_run ho (hr θ ac hE).i (hY.trans w3) (eqGuard_int _ _ _ _ _ _ _ _) ?_⟩
      show (binOp .lss t (.int .i64 (c:Int)) (.int .i64 (xnat (θ.ext n) + (r:Int)))).run P w = .ok (.bool (decide ((c:Int) < xnat (θ.ext n) + r))) w
      simp [binOp,Op.intCmp]
  by_cases hi2:∃ k2 N,v = .l k2 N
  ·obtain ⟨k2,N,rfl⟩:=hi2
   obtain ⟨b3,e⟩:=br_t (c:=Nat.beq k2 3) e
   have b3':=Nat.eq_of_beq_eq_true b3
   subst b3'
   refine ⟨.xi n 16 r N,fun h' nx' κ'=>?_,fun θ ac w hE=>?_⟩
   ·rw [hs];rfl
   ·obtain ⟨hok,hY⟩:=hr2 θ ac hE
    obtain ⟨h2,w',w1,w2,w3⟩:=xo_num (by omega) (by omega) hok
    obtain ⟨_,ua⟩:=(hr θ ac hE).l (by omega)
    refine ⟨_,⟨xo_ok (by omega) w' w1 w2 h2,rfl⟩,bin_run ho ua (hY.trans w3) (eqGuard_int _ _ _ _ _ _ _ _) ?_⟩
    show (binOp .lss t (.int .i64 (ln θ.lane N:Int)) (.int .i64 (xnat (θ.ext n) + (r:Int)))).run P w = .ok (.bool (decide ((ln θ.lane N:Int) < xnat (θ.ext n) + r))) w
    simp [binOp,Op.intCmp]
  ·exfalso
   cases v<;>first | (cases e;done) | exact hi ⟨_,_,rfl⟩ | exact hi2 ⟨_,_,rfl⟩
 have hb2:isXi v2=false:=by
  cases v2<;>first | rfl | exact absurd ⟨_,_,_,_,rfl⟩ hxi
 by_cases hz:∃ n m,v = .z n m
 ·obtain ⟨n,m,rfl⟩:=hz
  have hs:∀ h' nx' (κ':K),oLt k x y en h' nx' κ' = br (Nat.beq k 3) (asK 3 (fun b=>zLt m b fun c=>κ' (.b c) h' nx') v2) false:=fun h' nx' κ'=>by
   simp only [oLt,hv,hv2,ltV_w hb2];rfl
  rw [hs] at e
  obtain ⟨b1,e1⟩:=br_t e
  obtain ⟨b,rfl,e2⟩:=asK_true e1
  obtain ⟨c,c1,_,c3⟩:=zLt_true e2
  have b1':=Nat.eq_of_beq_eq_true b1
  subst b1'
  refine ⟨.b c,fun h' nx' κ'=>by rw [hs,b1,br_tt,asK_i,c1],fun θ ac w hE=>⟨_,vr_b θ c,?_⟩⟩
  obtain ⟨⟨z1,z2⟩,hX⟩:=hr θ ac hE
  refine bin_run ho hX (hr2 θ ac hE).i (eqGuard_int _ _ _ _ _ _ _ _) ?_
  rw [← c3 _ z1 z2]
  show (binOp .lss t (.int .i64 _) (.int .i64 b)).run P w=_
  simp [binOp,Op.intCmp]
 have hz':∀ n m,v≠.z n m:=fun n m h=>hz ⟨n,m,h⟩
 cases hl:isLL v v2 with
 | true=>
  have hs:∀ h' nx' (κ':K),oLt k x y en h' nx' κ' = lnK k v (fun A=>lnK k v2 fun B=>ltmK A B fun Y=>lbK Y fun v=>κ' v h' nx'):=fun h' nx' κ'=>by
   simp only [oLt,hv,hv2];exact ltV_la hb2 hz' hl _
  rw [hs] at e
  obtain ⟨A,a1,e,_,_,a4⟩:=lnK_true e
  obtain ⟨B,b1,e,_,_,b4⟩:=lnK_true e
  unfold ltmK at e
  rw [fnat_eq] at e
  obtain ⟨v',c1,_,c3⟩:=lbK_true e
  refine ⟨v',fun h' nx' κ'=>?_,fun θ ac w hE=>?_⟩
  ·rw [hs,a1,b1]
   unfold ltmK
   rw [fnat_eq,c1]
  ·obtain ⟨la,ua⟩:=a4 θ _ (hr θ ac hE)
   obtain ⟨lb,ub⟩:=b4 θ _ (hr2 θ ac hE)
   exact ⟨_,c3 (lim_ltm la.all64 lb.all64) θ,bin_run ho ua ub (eqGuard_int _ _ _ _ _ _ _ _) (ltm_run la lb)⟩
 | false=>
  have hsame:∀ h nx κ,oLt k x y en h nx κ=x en (asK k fun a=>y en (asK k fun b=>cmLt a b (kB κ h nx))):=by
   intro h nx κ
   simp only [oLt,hv,hv2]
   exact ltV_old hb2 hz' hl _
  rw [hsame] at e
  obtain ⟨v',k1,k2⟩:=hp en h nx κ e
  exact ⟨v',fun h' nx' κ'=>(hsame h' nx' κ').trans (k1 h' nx' κ'),k2⟩
theorem p_ge {t t2:TypeId} {k:Nat} (hx:XOk x X) (hy:XOk y Y) (ho:o.op = .binOp .geq t X Y t2):PureOk P o (oGe k x y):=by
 have hp:PureOk P o (fun en h nx κ=>x en (asK k fun a=>y en (asK k fun b=>cmLe b a (kB κ h nx)))):=
  p_cmp (k:=k) (g:=fun a b=>decide (b≤a)) hx hy ho (fun en h nx κ=>by simp only [cmLe_eq,kB_eq]) fun a b w=>by simp [binOp,Op.intCmp]
 intro en h nx κ e
 obtain ⟨v,hv,hr⟩:=hx en
 obtain ⟨v2,hv2,hr2⟩:=hy en
 by_cases hz:∃ n m,v = .z n m
 ·obtain ⟨n,m,rfl⟩:=hz
  have hs:∀ h' nx' (κ':K),oGe k x y en h' nx' κ' = br (Nat.beq k 3) (asK 3 (fun b=>zLt m b fun c=>κ' (.b (not' c)) h' nx') v2) false:=fun h' nx' κ'=>by
   simp only [oGe,hv,hv2];rfl
  rw [hs] at e
  obtain ⟨b1,e1⟩:=br_t e
  obtain ⟨b,rfl,e2⟩:=asK_true e1
  obtain ⟨c,c1,_,c3⟩:=zLt_true e2
  have b1':=Nat.eq_of_beq_eq_true b1
  subst b1'
  refine ⟨.b (not' c),fun h' nx' κ'=>by rw [hs,b1,br_tt,asK_i,c1],fun θ ac w hE=>⟨_,vr_b θ _,?_⟩⟩
  obtain ⟨⟨z1,z2⟩,hX⟩:=hr θ ac hE
  refine bin_run ho hX (hr2 θ ac hE).i (eqGuard_int _ _ _ _ _ _ _ _) ?_
  rw [← c3 _ z1 z2,not'_eq,← decide_not]
  show (binOp .geq t (.int .i64 _) (.int .i64 b)).run P w=_
  simp [binOp,Op.intCmp,Int.not_lt]
 have hz':∀ n m,v≠.z n m:=fun n m h=>hz ⟨n,m,h⟩
 have hge:∀ κ:AV→R,geV k v v2 κ=br (isLL v v2) (lnK k v fun A=>lnK k v2 fun B=>ltmK A B fun Y=>fnat (Nat.xor LO Y) fun Y=>lbK Y κ) (asK k (fun a=>asK k (fun b=>cmLe b a fun c=>fbool c fun c=>κ (.b c)) v2) v):=by
  intro κ
  cases v<;>first | rfl | exact absurd rfl (hz' _ _)
 cases hl:isLL v v2 with
 | true=>
  have hs:∀ h' nx' (κ':K),oGe k x y en h' nx' κ' = lnK k v (fun A=>lnK k v2 fun B=>ltmK A B fun Y=>fnat (Nat.xor LO Y) fun Y=>lbK Y fun v=>κ' v h' nx'):=fun h' nx' κ'=>by
   simp only [oGe,hv,hv2,hge,hl,br_tt]
  rw [hs] at e
  obtain ⟨A,a1,e,_,_,a4⟩:=lnK_true e
  obtain ⟨B,b1,e,_,_,b4⟩:=lnK_true e
  unfold ltmK at e
  rw [fnat_eq,fnat_eq] at e
  obtain ⟨v',c1,_,c3⟩:=lbK_true e
  refine ⟨v',fun h' nx' κ'=>?_,fun θ ac w hE=>?_⟩
  ·rw [hs,a1,b1]
   unfold ltmK
   rw [fnat_eq,fnat_eq,c1]
  ·obtain ⟨la,ua⟩:=a4 θ _ (hr θ ac hE)
   obtain ⟨lb,ub⟩:=b4 θ _ (hr2 θ ac hE)
   refine ⟨_,c3 (lim_not la.all64 lb.all64) θ,bin_run ho ua ub (eqGuard_int _ _ _ _ _ _ _ _) ?_⟩
   rw [ltm_not θ.lane_lt la.all64 lb.all64]
   by_cases h:ln θ.lane A < ln θ.lane B
   ·rw [if_pos h];simp [binOp,Op.intCmp];omega
   ·rw [if_neg h];simp [binOp,Op.intCmp];omega
 | false=>
  have hsame:∀ h nx κ,oGe k x y en h nx κ=x en (asK k fun a=>y en (asK k fun b=>cmLe b a (kB κ h nx))):=by
   intro h nx κ
   simp only [oGe,hv,hv2,hge,hl,br_ff]
   rfl
  rw [hsame] at e
  obtain ⟨v',k1,k2⟩:=hp en h nx κ e
  exact ⟨v',fun h' nx' κ'=>(hsame h' nx' κ').trans (k1 h' nx' κ'),k2⟩
theorem p_eq {neg:Bool} {t t2:TypeId} {k:Nat} (hx:XOk x X) (hy:XOk y Y) (ho:o.op = .binOp (if neg then .neq else .eql) t X Y t2):PureOk P o (oEq neg k x y):=by
 have hrun:∀ (a b:Int) (w:World),(binOp (if neg then .neq else .eql) t (.int (kindOf k) a) (.int (kindOf k) b)).run P w = .ok (.bool (eqB neg (not' (a == b)))) w:=by
  intro a b w
  cases neg
  ·simp [binOp,Op.intCmp,eqB,not']
   cases (a == b)<;>rfl
  ·simp [binOp,Op.intCmp,eqB,not',bne]
   cases (a == b)<;>rfl
 have hp:PureOk P o (fun en h nx κ=>x en (asK k fun a=>y en (asK k fun b=>cmEq a b fun c=>kB κ h nx (eqB neg (not' c))))):=
  p_cmp (k:=k) (g:=fun a b=>eqB neg (not' (a == b))) hx hy ho (fun en h nx κ=>by simp only [cmEq_eq,kB_eq]) hrun
 intro en h nx κ e
 obtain ⟨v,hv,hr⟩:=hx en
 obtain ⟨v2,hv2,hr2⟩:=hy en
 cases hl:isLL v v2 with
 | true=>
  have hs:∀ h' nx' (κ':K),oEq neg k x y en h' nx' κ' = laEq k v v2 (fun c=>κ' (.b (eqB neg (not' c))) h' nx'):=fun h' nx' κ'=>by
   simp only [oEq,hv,hv2,eqV,hl,br_tt]
  rw [hs] at e
  obtain ⟨r,r1,_,r3⟩:=laEq_true e
  refine ⟨.b (eqB neg (not' r)),fun h' nx' κ'=>by rw [hs,r1],fun θ ac w hE=>?_⟩
  obtain ⟨a,b,ua,ub,hab⟩:=r3 θ _ _ (hr θ ac hE) (hr2 θ ac hE)
  refine ⟨_,vr_b θ _,bin_run ho ua ub (by cases neg<;>rfl) ?_⟩
  rw [hrun,hab]
  congr 4
  by_cases h:a=b
  ·subst h;simp
  ·have:¬ (a:Int)=(b:Int):=by omega
   rw [beq_false_of_ne h,beq_false_of_ne this]
 | false=>
  have hsame:∀ h nx κ,oEq neg k x y en h nx κ=x en (asK k fun a=>y en (asK k fun b=>cmEq a b fun c=>kB κ h nx (eqB neg (not' c)))):=by
   intro h nx κ
   simp only [oEq,hv,hv2,eqV,hl,br_ff]
   rfl
  rw [hsame] at e
  obtain ⟨v',k1,k2⟩:=hp en h nx κ e
  exact ⟨v',fun h' nx' κ'=>(hsame h' nx' κ').trans (k1 h' nx' κ'),k2⟩
theorem p_gt {t t2:TypeId} {k:Nat} (hx:XOk x X) (hy:XOk y Y) (ho:o.op = .binOp .gtr t X Y t2):PureOk P o (oGt k x y):=by
 have hp:PureOk P o (fun en h nx κ=>x en (asK k fun a=>y en (asK k fun b=>cmLt b a (kB κ h nx)))):=
  p_cmp (k:=k) (g:=fun a b=>decide (b < a)) hx hy ho (fun en h nx κ=>by simp only [cmLt_eq,kB_eq]) fun a b w=>by simp [binOp,Op.intCmp]
 intro en h nx κ e
 obtain ⟨v,hv,hr⟩:=hx en
 obtain ⟨v2,hv2,hr2⟩:=hy en
 by_cases hxi:∃ n k' r m,v = .xi n k' r m
 ·obtain ⟨n,k',r,m,rfl⟩:=hxi
  simp only [oGt,hv,hv2] at e
  obtain ⟨b1,e⟩:=br_t e
  obtain ⟨b2,e⟩:=br_t e
  obtain ⟨b,rfl,e5⟩:=asK_true e
  rw [cmEq_eq] at e5
  obtain ⟨b3,e6⟩:=br_t e5
  have b1':=Nat.eq_of_beq_eq_true b1
  have b2':=Nat.eq_of_beq_eq_true b2
  have b3':b = .ofNat 100:=by simpa using b3
  subst b1' b2' b3'
  refine ⟨.b (Nat.blt 0 m),fun h' nx' κ'=>?_,fun θ ac w hE=>⟨_,vr_b θ _,?_⟩⟩
  ·simp only [oGt,hv,hv2]
   show br (Nat.blt 0 m) (κ' (.b true) h' nx') (κ' (.b false) h' nx')=_
   cases Nat.blt 0 m<;>rfl
  ·obtain ⟨hok,hX⟩:=hr θ ac hE
   obtain ⟨z,z0,z1,z2⟩:=xi_len hok
   have hX:ac.eval X = .int .i64 (z:Int):=by rw [hX,z0]
   refine bin_run ho hX (hr2 θ ac hE).i (eqGuard_int _ _ _ _ _ _ _ _) ?_
   have hd:decide ((100:Int) < (z:Int))=Nat.blt 0 m:=by
    cases hb:Nat.blt 0 m with
    | true=>have:0 < m:=by simpa [Nat.blt_eq] using hb
            exact decide_eq_true (by have:=z2 this;omega)
    | false=>have:m=0:=by
              rcases Nat.eq_zero_or_pos m with h | h
              ·exact h
              ·rw [show Nat.blt 0 m=true by simpa [Nat.blt_eq] using h] at hb;cases hb
             exact decide_eq_false (by have:=z1 this;omega)
   rw [← hd]
   show (binOp .gtr t (.int .i64 (z:Int)) (.int .i64 (100:Int))).run P w=_
   simp [binOp,Op.intCmp]
 ·have hbr:∀ h nx κ,oGt k x y en h nx κ=br (isLL v v2) (lnK k v fun A=>lnK k v2 fun B=>ltmK B A fun Y=>lbK Y fun v=>κ v h nx) (asK k (fun a=>asK k (fun b=>cmLt b a (kB κ h nx)) v2) v):=by
   intro h nx κ
   simp only [oGt,hv,hv2]
   cases v<;>first | rfl | exact absurd ⟨_,_,_,_,rfl⟩ hxi
  cases hl:isLL v v2 with
  | true=>
   have hs:∀ h' nx' (κ':K),oGt k x y en h' nx' κ' = lnK k v (fun A=>lnK k v2 fun B=>ltmK B A fun Y=>lbK Y fun v=>κ' v h' nx'):=fun h' nx' κ'=>by
    rw [hbr,hl];rfl
   rw [hs] at e
   obtain ⟨A,a1,e,_,_,a4⟩:=lnK_true e
   obtain ⟨B,b1,e,_,_,b4⟩:=lnK_true e
   unfold ltmK at e
   rw [fnat_eq] at e
   obtain ⟨v',c1,_,c3⟩:=lbK_true e
   refine ⟨v',fun h' nx' κ'=>?_,fun θ ac w hE=>?_⟩
   ·rw [hs,a1,b1]
    unfold ltmK
    rw [fnat_eq,c1]
   ·obtain ⟨la,ua⟩:=a4 θ _ (hr θ ac hE)
    obtain ⟨lb,ub⟩:=b4 θ _ (hr2 θ ac hE)
    refine ⟨_,c3 (lim_ltm lb.all64 la.all64) θ,bin_run ho ua ub (eqGuard_int _ _ _ _ _ _ _ _) ?_⟩
    rw [ln_ltm θ.lane_lt lb.all64 la.all64]
    by_cases h:ln θ.lane B < ln θ.lane A
    ·rw [if_pos h];simp [binOp,Op.intCmp,h]
    ·rw [if_neg h];simp [binOp,Op.intCmp,h]
  | false=>
  have hsame:∀ h nx κ,oGt k x y en h nx κ=x en (asK k fun a=>y en (asK k fun b=>cmLt b a (kB κ h nx))):=by
   intro h nx κ
   simp only [hbr,hl,hv,hv2]
   rfl
  rw [hsame] at e
  obtain ⟨v',k1,k2⟩:=hp en h nx κ e
  exact ⟨v',fun h' nx' κ'=>(hsame h' nx' κ').trans (k1 h' nx' κ'),k2⟩
theorem p_le {t t2:TypeId} {k:Nat} (hx:XOk x X) (hy:XOk y Y) (ho:o.op = .binOp .leq t X Y t2):PureOk P o (oLe k x y):=by
 have hp:PureOk P o (fun en h nx κ=>x en (asK k fun a=>y en (asK k fun b=>cmLe a b (kB κ h nx)))):=
  p_cmp (k:=k) (g:=fun a b=>decide (a≤b)) hx hy ho (fun en h nx κ=>by simp only [cmLe_eq,kB_eq]) fun a b w=>by simp [binOp,Op.intCmp]
 intro en h nx κ e
 obtain ⟨v,hv,hr⟩:=hx en
 obtain ⟨v2,hv2,hr2⟩:=hy en
 have hbr:∀ h nx κ,oLe k x y en h nx κ=br (isLL v v2) (lnK k v fun A=>lnK k v2 fun B=>ltmK B A fun Y=>fnat (Nat.xor LO Y) fun Y=>lbK Y fun v=>κ v h nx) (asK k (fun a=>asK k (fun b=>cmLe a b (kB κ h nx)) v2) v):=by
  intro h nx κ
  simp only [oLe,hv,hv2]
 cases hl:isLL v v2 with
 | true=>
  have hs:∀ h' nx' (κ':K),oLe k x y en h' nx' κ' = lnK k v (fun A=>lnK k v2 fun B=>ltmK B A fun Y=>fnat (Nat.xor LO Y) fun Y=>lbK Y fun v=>κ' v h' nx'):=fun h' nx' κ'=>by
   rw [hbr,hl];rfl
  rw [hs] at e
  obtain ⟨A,a1,e,_,_,a4⟩:=lnK_true e
  obtain ⟨B,b1,e,_,_,b4⟩:=lnK_true e
  unfold ltmK at e
  rw [fnat_eq,fnat_eq] at e
  obtain ⟨v',c1,_,c3⟩:=lbK_true e
  refine ⟨v',fun h' nx' κ'=>?_,fun θ ac w hE=>?_⟩
  ·rw [hs,a1,b1]
   unfold ltmK
   rw [fnat_eq,fnat_eq,c1]
  ·obtain ⟨la,ua⟩:=a4 θ _ (hr θ ac hE)
   obtain ⟨lb,ub⟩:=b4 θ _ (hr2 θ ac hE)
   refine ⟨_,c3 (lim_not lb.all64 la.all64) θ,bin_run ho ua ub (eqGuard_int _ _ _ _ _ _ _ _) ?_⟩
   rw [ltm_not θ.lane_lt lb.all64 la.all64]
   by_cases h:ln θ.lane B < ln θ.lane A
   ·rw [if_pos h];simp [binOp,Op.intCmp];omega
   ·rw [if_neg h];simp [binOp,Op.intCmp];omega
 | false=>
  have hsame:∀ h nx κ,oLe k x y en h nx κ=x en (asK k fun a=>y en (asK k fun b=>cmLe a b (kB κ h nx))):=by
   intro h nx κ
   simp only [hbr,hl,hv,hv2]
   rfl
  rw [hsame] at e
  obtain ⟨v',k1,k2⟩:=hp en h nx κ e
  exact ⟨v',fun h' nx' κ'=>(hsame h' nx' κ').trans (k1 h' nx' κ'),k2⟩
theorem p_quo {t t2:TypeId} {k:Nat} (hx:XOk x X) (hy:XOk y Y) (ho:o.op = .binOp .quo t X Y t2)
  (hf:∀ a b κ,arQuo k a b κ=true→∃ c,(∀ κ',arQuo k a b κ' = κ' c)∧∀ w,(binOp .quo t (.int (kindOf k) a) (.int (kindOf k) b)).run P w = .ok (.int (kindOf k) c) w):PureOk P o (oQuo k x y):=by
 have hp:PureOk P o (oAr arQuo k x y):=p_ar hx hy ho hf
 intro en h nx κ e
 obtain ⟨v,hv,hr⟩:=hx en
 obtain ⟨v2,hv2,hr2⟩:=hy en
 by_cases hl:∃ k' A,v = .l k' A
 ·obtain ⟨k',A,rfl⟩:=hl
  simp only [oQuo,hv,hv2] at e
  obtain ⟨b1,e⟩:=br_t e
  obtain ⟨b2,e⟩:=br_t e
  obtain ⟨b,hb,e2⟩:=asK_true e
  subst hb
  clear e
  cases b with
  | negSucc c=>cases e2
  | ofNat c=>
   obtain ⟨b3,e⟩:=br_t (show br (Nat.beq (Nat.pow 2 (Nat.log2 c)) c) (br (Nat.ble (Nat.log2 c) 64) (fnat (Nat.land (Nat.shiftRight A (Nat.log2 c)) LM) fun N=>κ (.l k N) h nx) false) false=true from e2)
   obtain ⟨b4,e⟩:=br_t e
   have b1':=Nat.eq_of_beq_eq_true b1
   have b2':k < 8:=by simpa [Nat.blt_eq] using b2
   have b3':2 ^ Nat.log2 c=c:=Nat.eq_of_beq_eq_true b3
   have b4':Nat.log2 c≤64:=Nat.le_of_ble_eq_true b4
   subst b1'
   have hs:∀ {i:Nat},i < 4096→Lim (khi k') A→ln i (Nat.land (Nat.shiftRight A (Nat.log2 c)) LM)=ln i A / c:=fun {i} hi la=>by
    rw [ln_shr hi b4' (la.all64 i hi),b3']
   refine ⟨.l k' (Nat.land (Nat.shiftRight A (Nat.log2 c)) LM),fun h' nx' κ'=>?_,fun θ ac w hE=>?_⟩
   ·simp only [oQuo,hv,hv2,b1,b2,br_tt,asK_i]
    show br (Nat.beq (Nat.pow 2 (Nat.log2 c)) c) _ _=_
    rw [b3,b4,br_tt,br_tt,fnat_eq]
   ·obtain ⟨la,ua⟩:=(hr θ ac hE).l b2'
    have hlt:=Nat.lt_of_le_of_lt (Nat.div_le_self (ln θ.lane A) c) (la _ θ.lane_lt)
    refine ⟨_,vr_l θ b2' (fun i hi=>by rw [hs hi la];exact Nat.lt_of_le_of_lt (Nat.div_le_self _ _) (la i hi)),bin_run ho ua (hr2 θ ac hE).i (eqGuard_int _ _ _ _ _ _ _ _) ?_⟩
    rw [hs θ.lane_lt la]
    have hc0:c≠0:=fun h=>by subst h;cases b3
    have hc:¬ (Int.ofNat c=0):=fun h=>hc0 (by injection h)
    have h2:(binOp .quo t (.int (kindOf k') ((ln θ.lane A:Nat):Int)) (.int (kindOf k') (Int.ofNat c))).run P w = .ok (.int (kindOf k') ((kindOf k').wrap (((ln θ.lane A:Nat):Int).tdiv (Int.ofNat c)))) w:=by
     simp [binOp,Op.intDiv,hc0]
    rw [h2]
    refine congrArg (fun x=>Result.ok (Value.int (kindOf k') x) w) ?_
    exact wrap_nat (k:=k') (m:=ln θ.lane A / c) hlt
 ·have hsame:∀ h nx κ,oQuo k x y en h nx κ=oAr arQuo k x y en h nx κ:=by
   intro h nx κ
   simp only [oQuo,oAr,hv]
   cases v<;>first | rfl | exact absurd ⟨_,_,rfl⟩ hl
  rw [hsame] at e
  obtain ⟨v',k1,k2⟩:=hp en h nx κ e
  exact ⟨v',fun h' nx' κ'=>(hsame h' nx' κ').trans (k1 h' nx' κ'),k2⟩
theorem p_and {t t2:TypeId} {k:Nat} (hx:XOk x X) (hy:XOk y Y) (ho:o.op = .binOp .and t X Y t2):PureOk P o (oAnd k x y):=by
 have hp:PureOk P o (oLa arAnd laAnd k x y):=p_la hx hy ho (fun a b κ e=>⟨_,fun κ'=>arAnd_eq k a b κ',fun w=>by simp [binOp,Op.intBits,bitsI]⟩) (laAnd_ok k)
 intro en h nx κ e
 obtain ⟨v,hv,hr⟩:=hx en
 obtain ⟨v2,hv2,hr2⟩:=hy en
 by_cases hxi:∃ n k' r m,v = .xi n k' r m
 ·obtain ⟨n,k',r,m,rfl⟩:=hxi
  have hs:∀ h' nx' (κ':K),oAnd k x y en h' nx' κ' = br (Nat.beq k' 20) (br (Nat.beq k 4) (asK 4 (fun c=>@Int.rec (fun _=>R) (fun c=>br (Nat.beq c 1) (κ' (.xi n 21 r 0) h' nx') false) (fun _=>false) c) v2) false) false:=fun h' nx' κ'=>by
   simp only [oAnd,hv,hv2];rfl
  rw [hs] at e
  obtain ⟨b1,e⟩:=br_t e
  obtain ⟨b2,e⟩:=br_t e
  obtain ⟨c,rfl,e⟩:=asK_true e
  cases c with
  | negSucc c=>cases e
  | ofNat c=>
   obtain ⟨b3,e⟩:=br_t (show br (Nat.beq c 1) (κ (.xi n 21 r 0) h nx) false=true from e)
   refine ⟨.xi n 21 r 0,fun h' nx' κ'=>?_,fun θ ac w hE=>?_⟩
   ·rw [hs,b1,b2,br_tt,br_tt,asK_i]
    show br (Nat.beq c 1) _ false=_
    rw [b3];rfl
   ·have b1:=Nat.eq_of_beq_eq_true b1
    have b2:=Nat.eq_of_beq_eq_true b2
    have b3:=Nat.eq_of_beq_eq_true b3
    subst b1 b2 b3
    have hX:ac.eval X = .int .u8 (((xnat (θ.ext n)).toNat / 2 ^ r:Nat):Int):=by
     rw [(hr θ ac hE).2,xb_val (by decide)];rfl
    refine ⟨.int .u8 (((xnat (θ.ext n)).toNat / 2 ^ r % 2:Nat):Int),⟨xb_ok (by decide),by rw [xb_val (by decide)];rfl⟩,bin_run ho hX (hr2 θ ac hE).i (eqGuard_int _ _ _ _ _ _ _ _) ?_⟩
    generalize (xnat (θ.ext n)).toNat / 2 ^ r=q
    have hb:(BitVec.ofInt 8 (q:Int) &&& BitVec.ofInt 8 1).toNat=q % 2:=by
     rw [BitVec.toNat_and,BitVec.toNat_ofInt,BitVec.toNat_ofInt]
     have e1:((q:Int) % ((2 ^ 8:Nat):Int)).toNat=q % 256:=by omega
     have e2:((1:Int) % ((2 ^ 8:Nat):Int)).toNat=1:=by decide
     rw [e1,e2,Nat.and_one_is_mod]
     omega
    show (binOp .and t (.int .u8 (q:Int)) (.int .u8 1)).run P w=_
    simp only [binOp,Op.intBits,Sem.run_pure]
    refine congrArg (fun x=>Result.ok (Value.int .u8 x) w) ?_
    show IntKind.u8.wrap ((BitVec.ofInt 8 (q:Int) &&& BitVec.ofInt 8 1).toNat:Nat)=_
    rw [hb]
    exact wrap_nat (k:=4) (m:=q % 2) (by simp only [khi];omega)
 ·have hsame:∀ h nx κ,oAnd k x y en h nx κ=oLa arAnd laAnd k x y en h nx κ:=by
   intro h nx κ
   simp only [oAnd,oLa,hv,hv2]
   cases v<;>first | rfl | exact absurd ⟨_,_,_,_,rfl⟩ hxi
  rw [hsame] at e
  obtain ⟨v',k1,k2⟩:=hp en h nx κ e
  exact ⟨v',fun h' nx' κ'=>(hsame h' nx' κ').trans (k1 h' nx' κ'),k2⟩
theorem p_bin {op:BinOp} {t t2:TypeId} {k:Nat} (hx:XOk x X) (hy:XOk y Y) (ho:o.op = .binOp op t X Y t2):PureOk P o (dBin op k x y):=by
 cases op
 case add=>exact p_ad hx hy ho
 case sub=>exact p_ar hx hy ho fun a b κ _=>⟨_,fun κ'=>arSub_eq k a b κ',fun w=>by simp [binOp,Op.intArith]⟩
 case mul=>exact p_la hx hy ho (fun a b κ _=>⟨_,fun κ'=>arMul_eq k a b κ',fun w=>by simp [binOp,Op.intArith]⟩) (laMul_ok k)
 case quo=>exact p_quo hx hy ho fun a b κ e=>⟨_,fun κ'=>arQuo_eq k a b κ' (isZ_true e).1,fun w=>by simp [binOp,Op.intDiv,(isZ_true e).1]⟩
 case rem=>exact p_rem hx hy ho
 case and=>exact p_and hx hy ho
 case or=>exact p_la hx hy ho (fun a b κ e=>⟨_,fun κ'=>arOr_eq k a b κ',fun w=>by simp [binOp,Op.intBits,bitsI]⟩) (laOr_ok k)
 case xor=>exact p_la hx hy ho (fun a b κ e=>⟨_,fun κ'=>arXor_eq k a b κ',fun w=>by simp [binOp,Op.intBits,bitsI]⟩) (laXor_ok k)
 case andNot=>exact p_ar hx hy ho fun a b κ e=>⟨_,fun κ'=>arAnn_eq k a b κ',fun w=>by simp [binOp,Op.intBits,bitsI]⟩
 case shl=>exact p_shl hx hy ho
 case shr=>exact p_shr hx hy ho
 case eql=>exact p_eq (neg:=false) hx hy ho
 case neq=>exact p_eq (neg:=true) hx hy ho
 case lss=>exact p_lt hx hy ho
 case leq=>exact p_le hx hy ho
 case gtr=>exact p_gt hx hy ho
 case geq=>exact p_ge hx hy ho
theorem p_str {op:BinOp} {t t2:TypeId} {g:List Nat→List Nat→Bool} (hx:XOk x X) (hy:XOk y Y) (ho:o.op = .binOp op t X Y t2)
  (hg:∀ a b w,(∀ x ∈ a,x < 256)→(∀ x ∈ b,x < 256)→(binOp op t (.string (bytesOf a)) (.string (bytesOf b))).run P w = .ok (.bool (g a b)) w):PureOk P o (oSS g x y):=by
 intro en h nx κ e
 obtain ⟨v,hv,hr⟩:=hx en
 obtain ⟨v2,hv2,hr2⟩:=hy en
 simp only [oSS,hv,hv2] at e
 obtain ⟨a,rfl,e1⟩:=asS_true e
 obtain ⟨b,rfl,e2⟩:=asS_true e1
 refine ⟨.b (g a b),fun h' nx' κ'=>?_,fun θ ac w hE=>⟨_,vr_b θ _,?_⟩⟩
 ·simp only [oSS,hv,hv2]
  exact kB_eq _ _ _ _
 ·exact bin_run ho (hr θ ac hE).s.1 (hr2 θ ac hE).s.1 (by cases op<;>rfl) (hg a b w (hr θ ac hE).s.2 (hr2 θ ac hE).s.2)
theorem by_ok {θ:Th} {v:AV} (h:byOk v):Ok θ v∧∃ n:Nat,n < 256∧toV θ v = .int .u8 (n:Int)∧byV θ v=UInt8.ofNat n:=by
 rcases h with ⟨n,rfl,hn⟩ | ⟨N,rfl,hN⟩ | ⟨n,r,m,rfl⟩
 ·exact ⟨trivial,n,hn,rfl,rfl⟩
 ·exact ⟨.inl ⟨by decide,hN⟩,_,hN _ θ.lane_lt,rfl,rfl⟩
 ·exact ⟨xb_ok (by decide),48 + (xnat (θ.ext n)).toNat / 2 ^ r % 2,by omega,by rw [xb_val (by decide)];rfl,rfl⟩
theorem tx_toList (θ:Th) (l:List AV):(txV θ l).toList=l.map (byV θ):=by
 rw [Go.ByteArray.toList_eq];simp [txV]
theorem tx_size (θ:Th) (l:List AV):(txV θ l).size=l.length:=by
 show (txV θ l).data.size=_
 simp [txV]
theorem tx_append (θ:Th) (a b:List AV):txV θ a ++ txV θ b=txV θ (a ++ b):=by
 have hj:∀ x y:ByteArray,x.data=y.data→x=y:=fun x y h=>by cases x;cases y;cases h;rfl
 apply hj
 simp [txV,ByteArray.data_append]
theorem ofBytes_eq:∀ (l:List Nat) (κ:List AV→R),ofBytes l κ=κ (l.map fun m=>.i 4 (.ofNat m))
 | [],_=>rfl
 | _ :: l,_=>ofBytes_eq l _
theorem tx_bytes (θ:Th) (l:List Nat):txV θ (l.map fun m=>AV.i 4 (.ofNat m))=bytesOf l:=by
 unfold txV bytesOf
 rw [List.map_map]
 rfl
theorem bytes_byOk {l:List Nat} (h:∀ x ∈ l,x < 256):∀ v ∈ l.map (fun m=>AV.i 4 (.ofNat m)),byOk v:=by
 intro v hv
 obtain ⟨m,hm,rfl⟩:=List.mem_map.1 hv
 exact .inl ⟨m,rfl,h m hm⟩
theorem txK_true {v:AV} {κ:List AV→R} (e:txK v κ=true):∃ l,(∀ κ',txK v κ' = κ' l)∧κ l=true∧∀ θ u,VR θ v u→u = .string (txV θ l)∧∀ x ∈ l,byOk x:=by
 cases v<;>first | (cases e;done) | skip
 ·rename_i l
  have e:ofBytes l κ=true:=e
  rw [ofBytes_eq] at e
  refine ⟨_,fun κ'=>ofBytes_eq l κ',e,fun θ u hu=>⟨?_,bytes_byOk hu.s.2⟩⟩
  rw [tx_bytes];exact hu.s.1
 ·rename_i l
  exact ⟨l,fun _=>rfl,e,fun θ u hu=>⟨hu.2,hu.1⟩⟩
theorem byXq_true {x y:AV} {κ:Bool→R} (e:byXq x y κ=true):(∀ κ',byXq x y κ' = κ' false)∧κ false=true∧∀ θ,byOk x→byOk y→(byV θ x == byV θ y)=false∧(byV θ y == byV θ x)=false:=by
 cases x<;>first | (cases e;done) | skip
 rename_i n k r m
 cases y<;>first | (cases e;done) | skip
 rename_i k2 c
 obtain ⟨b1,e1⟩:=br_t (show br (Nat.beq k 22) (br (Nat.beq k2 4) (@Int.rec (fun _=>R) (fun c=>br (Nat.beq c 48) false (br (Nat.beq c 49) false (κ false))) (fun _=>false) c) false) false=true from e)
 obtain ⟨b2,e2⟩:=br_t e1
 cases c with
 | negSucc c=>cases e2
 | ofNat c=>
  obtain ⟨b3,e3⟩:=br_f (show br (Nat.beq c 48) false (br (Nat.beq c 49) false (κ false))=true from e2)
  obtain ⟨b4,e4⟩:=br_f e3
  have n48:c≠48:=fun h=>by subst h;cases b3
  have n49:c≠49:=fun h=>by subst h;cases b4
  refine ⟨fun κ'=>?_,e4,fun θ hx hy=>?_⟩
  ·show br (Nat.beq k 22) (br (Nat.beq k2 4) (br (Nat.beq c 48) false (br (Nat.beq c 49) false (κ' false))) false) false=_
   rw [b1,b2,b3,b4];rfl
  ·have hc:c < 256:=by
    rcases hy with ⟨n',h1,h2⟩ | ⟨N,h1,_⟩ | ⟨_,_,_,h1⟩
    ·injection h1 with _ h1;injection h1 with h1;omega
    ·cases h1
    ·cases h1
   have hb:48 + (xnat (θ.ext n)).toNat / 2 ^ r % 2 < 256:=by omega
   have hne:¬ (48 + (xnat (θ.ext n)).toNat / 2 ^ r % 2=c):=by omega
   constructor
   ·show (UInt8.ofNat (48 + (xnat (θ.ext n)).toNat / 2 ^ r % 2) == UInt8.ofNat c)=false
    rw [beq_eq_false_iff_ne]
    exact fun h=>hne ((ofNat_inj hb hc).1 h)
   ·show (UInt8.ofNat c == UInt8.ofNat (48 + (xnat (θ.ext n)).toNat / 2 ^ r % 2))=false
    rw [beq_eq_false_iff_ne]
    exact fun h=>hne ((ofNat_inj hc hb).1 h).symm
theorem byEq_true {x y:AV} {κ:Bool→R} (e:byEq x y κ=true):∃ q,(∀ κ',byEq x y κ' = κ' q)∧κ q=true∧∀ θ,byOk x→byOk y→q=(byV θ x == byV θ y)∧q=(byV θ y == byV θ x):=by
 rcases br_true (show br (isXi x) (byXq x y κ) (br (isXi y) (byXq y x κ) (laEq 4 x y κ))=true from e) with ⟨g1,e1⟩ | ⟨g1,e1⟩
 ·obtain ⟨h1,h2,h3⟩:=byXq_true e1
  exact ⟨false,fun κ'=>by unfold byEq;rw [g1];exact h1 κ',h2,fun θ hx hy=>⟨(h3 θ hx hy).1.symm,(h3 θ hx hy).2.symm⟩⟩
 rcases br_true e1 with ⟨g2,e2⟩ | ⟨g2,e2⟩
 ·obtain ⟨h1,h2,h3⟩:=byXq_true e2
  exact ⟨false,fun κ'=>by unfold byEq;rw [g1,g2];exact h1 κ',h2,fun θ hx hy=>⟨(h3 θ hy hx).2.symm,(h3 θ hy hx).1.symm⟩⟩
 obtain ⟨q,q1,e3,q3⟩:=laEq_true e2
 refine ⟨q,fun κ'=>by unfold byEq;rw [g1,g2];exact q1 κ',e3,fun θ hx hy=>?_⟩
 obtain ⟨ox,n,hn,tx,bx⟩:=by_ok (θ:=θ) hx
 obtain ⟨oy,m,hm,ty,by_⟩:=by_ok (θ:=θ) hy
 obtain ⟨n',m',e1,e2,e3⟩:=q3 θ _ _ ⟨ox,rfl⟩ ⟨oy,rfl⟩
 rw [tx] at e1;rw [ty] at e2
 injection e1 with _ e1;injection e2 with _ e2
 have e1:n=n':=by omega
 have e2:m=m':=by omega
 subst e1 e2
 rw [bx,by_,e3]
 constructor
 ·rw [Bool.eq_iff_iff,beq_iff_eq,beq_iff_eq,ofNat_inj hn hm]
 ·rw [Bool.eq_iff_iff,beq_iff_eq,beq_iff_eq,ofNat_inj hm hn];exact eq_comm
theorem asT_true:∀ {a b:List AV} {κ:Bool→R},asT a b κ=true→∃ r,(∀ κ',asT a b κ' = κ' r)∧κ r=true∧
  ∀ θ,(∀ v ∈ a,byOk v)→(∀ v ∈ b,byOk v)→(txV θ a == txV θ b)=r∧(txV θ b == txV θ a)=r
 | [],[],κ,e=>⟨true,fun _=>rfl,e,fun θ _ _=>⟨by rw [beq_toListBytes];simp,by rw [beq_toListBytes];simp⟩⟩
 | [],_ :: _,κ,e=>⟨false,fun _=>rfl,e,fun θ _ _=>⟨by rw [beq_toListBytes,tx_toList,tx_toList];simp,by rw [beq_toListBytes,tx_toList,tx_toList];simp⟩⟩
 | _ :: _,[],κ,e=>⟨false,fun _=>rfl,e,fun θ _ _=>⟨by rw [beq_toListBytes,tx_toList,tx_toList];simp,by rw [beq_toListBytes,tx_toList,tx_toList];simp⟩⟩
 | x :: a,y :: b,κ,e=>by
  have step:∀ κ',asT (x :: a) (y :: b) κ' = byEq x y fun q=>br q (asT a b κ') (κ' false):=fun _=>rfl
  rw [step] at e
  obtain ⟨q,q1,e1,hq⟩:=byEq_true e
  cases q with
  | false=>
   refine ⟨false,fun κ'=>by rw [step,q1];rfl,e1,fun θ ha hb=>?_⟩
   obtain ⟨h1,h2⟩:=hq θ (ha x (by simp)) (hb y (by simp))
   rw [beq_toListBytes,beq_toListBytes,tx_toList,tx_toList]
   simp only [List.map_cons,List.cons_beq_cons,← h1,← h2,Bool.false_and,and_self]
  | true=>
   obtain ⟨r,k1,k2,k3⟩:=asT_true (show asT a b κ=true from e1)
   refine ⟨r,fun κ'=>by rw [step,q1];exact k1 κ',k2,fun θ ha hb=>?_⟩
   obtain ⟨h1,h2⟩:=hq θ (ha x (by simp)) (hb y (by simp))
   obtain ⟨j1,j2⟩:=k3 θ (fun v hv=>ha v (List.mem_cons_of_mem _ hv)) (fun v hv=>hb v (List.mem_cons_of_mem _ hv))
   rw [beq_toListBytes,tx_toList,tx_toList] at j1 j2
   rw [beq_toListBytes,beq_toListBytes,tx_toList,tx_toList]
   simp only [List.map_cons,List.cons_beq_cons,← h1,← h2,Bool.true_and]
   exact ⟨j1,j2⟩
theorem asSQ_true {x y:AV} {κ:Bool→R} (e:asSQ x y κ=true):∃ r,(∀ κ',asSQ x y κ' = κ' r)∧κ r=true∧one x=true∧one y=true∧
  ∀ θ u v,VR θ x u→VR θ y v→∃ a b,u = .string a∧v = .string b∧(a == b)=r∧(b == a)=r:=by
 unfold asSQ at e
 split at e
 ·rename_i a
  split at e
  ·rename_i b
   refine ⟨eqL a b,fun _=>rfl,e,rfl,rfl,fun θ u v hu hv=>⟨_,_,hu.s.1,hv.s.1,?_,?_⟩⟩
   ·rw [beq_toListBytes,str_eq hu.s.2 hv.s.2]
   ·rw [beq_toListBytes,str_eq hv.s.2 hu.s.2,eqL_eq,eqL_eq]
    exact decide_eq_decide.2 ⟨Eq.symm,Eq.symm⟩
  ·rename_i n k r m
   obtain ⟨b1,e1⟩:=br_t e
   obtain ⟨b2,e2⟩:=br_t e1
   have b1':=Nat.eq_of_beq_eq_true b1
   subst b1'
   have b2':a=[r]:=by rw [eqL_eq] at b2;simpa using b2
   subst b2'
   refine ⟨false,fun κ'=>?_,e2,rfl,rfl,fun θ u v hu hv=>?_⟩
   ·show br (Nat.beq 8 8) (br (eqL [r] [r]) (κ' false) false) false=_
    rw [b1,b2];rfl
   ·obtain ⟨_,s,k1,_,_,k2,k3⟩:=xi_str hv.1
    exact ⟨_,s,hu.s.1,hv.2.trans k1,k3,k2⟩
  ·rename_i b
   rw [ofBytes_eq] at e
   obtain ⟨r,k1,k2,k3⟩:=asT_true e
   refine ⟨r,fun κ'=>(ofBytes_eq a _).trans (k1 κ'),k2,rfl,rfl,fun θ u v hu hv=>⟨_,_,hu.s.1,hv.2,?_⟩⟩
   have h:=k3 θ (bytes_byOk hu.s.2) hv.1
   rw [tx_bytes] at h
   exact h
  ·cases e
 ·rename_i n k r m
  split at e
  ·rename_i b
   obtain ⟨b1,e1⟩:=br_t e
   obtain ⟨b2,e2⟩:=br_t e1
   have b1':=Nat.eq_of_beq_eq_true b1
   subst b1'
   have b2':b=[r]:=by rw [eqL_eq] at b2;simpa using b2
   subst b2'
   refine ⟨false,fun κ'=>?_,e2,rfl,rfl,fun θ u v hu hv=>?_⟩
   ·show br (Nat.beq 8 8) (br (eqL [r] [r]) (κ' false) false) false=_
    rw [b1,b2];rfl
   ·obtain ⟨_,s,k1,_,_,k2,k3⟩:=xi_str hu.1
    exact ⟨s,_,hu.2.trans k1,hv.s.1,k2,k3⟩
  ·cases e
 ·rename_i a
  split at e
  ·rename_i b
   obtain ⟨r,k1,k2,k3⟩:=asT_true e
   exact ⟨r,k1,k2,rfl,rfl,fun θ u v hu hv=>⟨_,_,hu.2,hv.2,(k3 θ hu.1 hv.1).1,(k3 θ hu.1 hv.1).2⟩⟩
  ·rename_i b
   rw [ofBytes_eq] at e
   obtain ⟨r,k1,k2,k3⟩:=asT_true e
   refine ⟨r,fun κ'=>(ofBytes_eq b _).trans (k1 κ'),k2,rfl,rfl,fun θ u v hu hv=>⟨_,_,hu.2,hv.s.1,?_⟩⟩
   have h:=k3 θ hu.1 (bytes_byOk hv.s.2)
   rw [tx_bytes] at h
   exact h
  ·cases e
 ·cases e
theorem p_cat {t t2:TypeId} (hx:XOk x X) (hy:XOk y Y) (ho:o.op = .binOp .add t X Y t2):PureOk P o (oCat x y):=by
 intro en h nx κ e
 obtain ⟨v,hv,hr⟩:=hx en
 obtain ⟨v2,hv2,hr2⟩:=hy en
 simp only [oCat,hv,hv2] at e
 rcases br_true e with ⟨g,e0⟩ | ⟨g,e0⟩
 ·obtain ⟨l,l1,e1,l2⟩:=txK_true e0
  obtain ⟨m,m1,e2,m2⟩:=txK_true e1
  obtain ⟨hl,e3⟩:=br_t e2
  refine ⟨.t (l ++ m),fun h' nx' κ'=>?_,fun θ ac w hE=>⟨_,⟨?_,rfl⟩,?_⟩⟩
  ·simp only [oCat,hv,hv2,g]
   show txK v _=_
   rw [l1,m1,hl]
   exact appK_eq _ _ _
  ·intro z hz
   rcases List.mem_append.1 hz with hz | hz
   ·exact (l2 θ _ (hr θ ac hE)).2 z hz
   ·exact (m2 θ _ (hr2 θ ac hE)).2 z hz
  ·refine bin_run ho (l2 θ _ (hr θ ac hE)).1 (m2 θ _ (hr2 θ ac hE)).1 rfl ?_
   have hl':l.length + m.length < 9223372036854775808:=by
    rw [lenN_eq,lenN_eq] at hl
    simpa [Nat.blt_eq] using hl
   have h63:¬ ((((txV θ l).size + (txV θ m).size:Nat):Int) > IntKind.i64.max):=by
    rw [tx_size,tx_size]
    have:IntKind.i64.max=9223372036854775807:=by decide
    omega
   simp only [binOp,Op.stringOp,if_neg h63,Sem.run_pure,toV,tx_append]
 obtain ⟨a,rfl,e1⟩:=asS_true e0
 obtain ⟨b,rfl,e2⟩:=asS_true e1
 obtain ⟨hl,e3⟩:=br_t e2
 refine ⟨.s (a ++ b),fun h' nx' κ'=>?_,fun θ ac w hE=>⟨_,⟨?_,rfl⟩,?_⟩⟩
 ·simp only [oCat,hv,hv2]
  show br (Nat.blt (Nat.add (lenN Nat a) (lenN Nat b)) 9223372036854775808) (appK Nat a b fun l=>κ' (.s l) h' nx') false=_
  rw [hl]
  exact appK_eq _ _ _
 ·intro z hz
  rcases List.mem_append.1 hz with hz | hz
  ·exact (hr θ ac hE).s.2 z hz
  ·exact (hr2 θ ac hE).s.2 z hz
 ·refine bin_run ho (hr θ ac hE).s.1 (hr2 θ ac hE).s.1 rfl ?_
  have hl':a.length + b.length < 9223372036854775808:=by
   rw [lenN_eq,lenN_eq] at hl
   simpa [Nat.blt_eq] using hl
  have h63:¬ ((((bytesOf a).size + (bytesOf b).size:Nat):Int) > IntKind.i64.max):=by
   rw [bytes_size,bytes_size]
   have:IntKind.i64.max=9223372036854775807:=by decide
   omega
  simp only [binOp,Op.stringOp,if_neg h63,Sem.run_pure,toV,bytes_append]
theorem p_sq {op:BinOp} {t t2:TypeId} {neg:Bool} (hx:XOk x X) (hy:XOk y Y) (ho:o.op = .binOp op t X Y t2)
  (hg:∀ a b w,(binOp op t (.string a) (.string b)).run P w = .ok (.bool (eqB neg (not' (a == b)))) w):PureOk P o (oSQ neg x y):=by
 intro en h nx κ e
 obtain ⟨v,hv,hr⟩:=hx en
 obtain ⟨v2,hv2,hr2⟩:=hy en
 simp only [oSQ,hv,hv2] at e
 obtain ⟨r,k1,_,_,_,k2⟩:=asSQ_true e
 refine ⟨.b (eqB neg (not' r)),fun h' nx' κ'=>?_,fun θ ac w hE=>⟨_,vr_b θ _,?_⟩⟩
 ·simp only [oSQ,hv,hv2,k1]
 ·obtain ⟨a,b,h1,h2,h3,_⟩:=k2 θ _ _ (hr θ ac hE) (hr2 θ ac hE)
  rw [← h3]
  exact bin_run ho h1 h2 (by cases op<;>rfl) (hg a b w)
theorem p_bs {op:BinOp} {t t2:TypeId} (hx:XOk x X) (hy:XOk y Y) (ho:o.op = .binOp op t X Y t2):PureOk P o (dBs op x y):=by
 have hbad:PureOk P o oBad:=fun en h nx κ e=>by cases e
 cases op
 case add=>exact p_cat hx hy ho
 case eql=>exact p_sq (neg:=false) hx hy ho fun a b w=>by rw [beq_toListBytes];simp only [binOp,Op.stringOp,Sem.run_pure];cases (a.toList == b.toList)<;>rfl
 case neq=>exact p_sq (neg:=true) hx hy ho fun a b w=>by rw [beq_toListBytes];simp only [binOp,Op.stringOp,Sem.run_pure,bne];cases (a.toList == b.toList)<;>rfl
 case lss=>exact p_str hx hy ho fun a b w ha hb=>by simp [binOp,Op.stringOp,str_lt ha hb,sLt]
 case leq=>exact p_str hx hy ho fun a b w ha hb=>by simp [binOp,Op.stringOp,str_lt ha hb,str_eq ha hb,sLe,or'_eq]
 case gtr=>exact p_str hx hy ho fun a b w ha hb=>by simp [binOp,Op.stringOp,str_lt ha hb,str_eq ha hb,sGt,not'_eq,or'_eq]
 case geq=>exact p_str hx hy ho fun a b w ha hb=>by simp [binOp,Op.stringOp,str_lt ha hb,sGe,not'_eq]
 all_goals exact hbad
theorem run_equal_bool {t:TypeId} {w:World} (hu:P.underlying t=some .bool) (m n:Bool):(Op.equal t (.bool m) (.bool n)).run P w = .ok (m == n) w:=by
 have h:∀ d:Nat,(Op.equalIn (d + 1) t (.bool m) (.bool n)).run P w = .ok (m == n) w:=fun d=>by simp [Op.equalIn,run_underlying hu]
 exact h 9999
theorem p_bb {neg:Bool} {t t2:TypeId} (hx:XOk x X) (hy:XOk y Y) (hu:P.underlying t=some .bool) (ho:o.op = .binOp (if neg then .neq else .eql) t X Y t2):PureOk P o (oBB neg x y):=by
 intro en h nx κ e
 obtain ⟨v,hv,hr⟩:=hx en
 obtain ⟨v2,hv2,hr2⟩:=hy en
 simp only [oBB,hv,hv2] at e
 obtain ⟨a,rfl,e1⟩:=asB_true e
 obtain ⟨b,rfl,e2⟩:=asB_true e1
 refine ⟨.b (if neg then !(a == b) else a == b),fun h' nx' κ'=>?_,fun θ ac w hE=>⟨_,vr_b θ _,?_⟩⟩
 ·simp only [oBB,hv,hv2]
  show kB κ' h' nx' (eqB neg (not' (eqB a b)))=_
  rw [kB_eq,negc_eq,eqB_eq]
 ·refine bin_run ho (hr θ ac hE).b (hr2 θ ac hE).b (by cases neg<;>rfl) ?_
  cases neg<;>simp [binOp,run_equal_bool hu]
theorem p_nt {t:TypeId} (hx:XOk x X) (ho:o.op = .unOp .not t X):PureOk P o (oNt x):=by
 intro en h nx κ e
 obtain ⟨v,hv,hr⟩:=hx en
 by_cases hxi:∃ n k r m,v = .xi n k r m
 ·obtain ⟨n,k,r,m,rfl⟩:=hxi
  simp only [oNt,hv] at e
  obtain ⟨b1,e⟩:=br_t e
  have b1':=Nat.eq_of_beq_eq_true b1
  subst b1'
  refine ⟨.xi n 24 r 0,fun h' nx' κ'=>by simp only [oNt,hv];rfl,fun θ ac w hE=>?_⟩
  have hX:ac.eval X = .bool ((xnat (θ.ext n)).toNat / 2 ^ r % 2 == 1):=by rw [(hr θ ac hE).2,xb_val (by decide)];rfl
  refine ⟨.bool ((xnat (θ.ext n)).toNat / 2 ^ r % 2 != 1),⟨xb_ok (by decide),by rw [xb_val (by decide)];rfl⟩,?_⟩
  simp [execOp,ho,hX,Op.unary,bne]
 have hsame:∀ h nx κ,oNt x en h nx κ=asB (fun c=>kB κ h nx (not' c)) v:=by
  intro h nx κ
  simp only [oNt,hv]
  cases v<;>first | rfl | exact absurd ⟨_,_,_,_,rfl⟩ hxi
 rw [hsame] at e
 obtain ⟨a,rfl,e1⟩:=asB_true e
 refine ⟨.b !a,fun h' nx' κ'=>?_,fun θ ac w hE=>⟨_,vr_b θ _,?_⟩⟩
 ·rw [hsame]
  show kB κ' h' nx' (not' a)=_
  rw [kB_eq,not'_eq]
 ·simp [execOp,ho,(hr θ ac hE).b,Op.unary]
theorem p_ng {t:TypeId} (hx:XOk x X) (ho:o.op = .unOp .neg t X):PureOk P o (oNg x):=by
 intro en h nx κ e
 obtain ⟨v,hv,hr⟩:=hx en
 simp only [oNg,hv] at e
 obtain ⟨k,n,rfl,e1⟩:=asI_true e
 refine ⟨.i k ((kindOf k).wrap (0 - n)),fun h' nx' κ'=>?_,fun θ ac w hE=>⟨_,vr_i θ _ _,?_⟩⟩
 ·simp only [oNg,hv]
  show wrap k (Int.sub 0 n) (fun r=>κ' (.i k r) h' nx')=_
  rw [wrap_eq];rfl
 ·simp [execOp,ho,(hr θ ac hE).i,Op.unary,Op.intArith]
theorem ones_eq (k:Nat):ones k=(if (kindOf k).signed then -1 else (kindOf k).max):=by
 rcases k with _ | _ | _ | _ | _ | _ | _ | k<;>rfl
theorem khi_ones {k:Nat} (h4:4≤k) (h8:k < 8):(kindOf k).signed=false∧(kindOf k).max=((khi k - 1:Nat):Int):=by
 rcases k with _ | _ | _ | _ | _ | _ | _ | _ | k<;>first | omega | (refine ⟨rfl,?_⟩;decide)
theorem p_cm {t:TypeId} (hx:XOk x X) (ho:o.op = .unOp .xor t X):PureOk P o (oCm x):=by
 intro en h nx κ e
 obtain ⟨v,hv,hr⟩:=hx en
 by_cases hl:∃ k A,v = .l k A
 ·obtain ⟨k,A,rfl⟩:=hl
  simp only [oCm,hv] at e
  obtain ⟨b1,e⟩:=br_t e
  obtain ⟨b2,e⟩:=br_t e
  rw [fnat_eq] at e
  have b1':=Nat.le_of_ble_eq_true b1
  have b2':k < 8:=by simpa [Nat.blt_eq] using b2
  have hM:∀ {i:Nat},i < 4096→ln i (lMask k)=khi k - 1:=fun {i} hi=>ln_LO (Nat.lt_of_le_of_lt (Nat.sub_le _ _) (Nat.lt_of_le_of_lt (khi_le64 k) (by decide))) hi
  have hlt:khi k - 1 < khi k:=by
   obtain ⟨b,hb,_⟩:=khi_two k
   have:0 < 2 ^ b:=Nat.pow_pos (by decide)
   omega
  refine ⟨.l k (Nat.xor (lMask k) A),fun h' nx' κ'=>?_,fun θ ac w hE=>?_⟩
  ·simp only [oCm,hv,b1,b2,br_tt,fnat_eq]
  ·obtain ⟨la,ua⟩:=(hr θ ac hE).l b2'
   have hlane:∀ {i:Nat},i < 4096→ln i (Nat.xor (lMask k) A)=(khi k - 1) ^^^ ln i A:=fun {i} hi=>by
    rw [show Nat.xor (lMask k) A=lMask k ^^^ A from rfl,ln_xor,hM hi]
   have hlim:Lim (khi k) (Nat.xor (lMask k) A):=by
    intro i hi
    obtain ⟨q,hq,_⟩:=khi_pow k
    have h1:=la i hi
    rw [hlane hi]
    rw [hq] at h1 hlt ⊢
    exact Nat.xor_lt_two_pow hlt h1
   refine ⟨_,vr_l θ b2' hlim,?_⟩
   rw [hlane θ.lane_lt]
   have hb:=bits_xor (k:=k) hlt (la _ θ.lane_lt)
   obtain ⟨s1,s2⟩:=khi_ones b1' b2'
   simp only [bitsI] at hb
   simp only [execOp,ho,ua,Op.unary,Op.intBits,s1,s2,Bool.false_eq_true,if_false,Sem.run_bind,Sem.run_pure,Result.andThen]
   exact congrArg (fun x=>Result.ok (Next.value (Value.int (kindOf k) x)) w) hb
 have hsame:∀ h nx κ,oCm x en h nx κ=asI (fun k n=>arXor k (ones k) n fun r=>κ (.i k r) h nx) v:=by
  intro h nx κ
  simp only [oCm,hv]
  cases v<;>first | rfl | exact absurd ⟨_,_,rfl⟩ hl
 rw [hsame] at e
 obtain ⟨k,n,rfl,e1⟩:=asI_true e
 refine ⟨.i k (bitsI .xor (kindOf k) (if (kindOf k).signed then -1 else (kindOf k).max) n),fun h' nx' κ'=>?_,fun θ ac w hE=>⟨_,vr_i θ _ _,?_⟩⟩
 ·rw [hsame]
  show arXor k _ n (fun r=>κ' (.i k r) h' nx')=_
  rw [ones_eq,arXor_eq]
 ·simp [execOp,ho,(hr θ ac hE).i,Op.unary,Op.intBits,bitsI]
theorem p_cvi {s d:TypeId} {k k0:Nat} {k1:IntKind} (hx:XOk x X) (hs:P.underlying s=some (.int k1)) (hd:P.underlying d=some (.int (kindOf k))) (ho:o.op = .convert s d X):PureOk P o (oCvi k x):=by
 intro en h nx κ e
 obtain ⟨v,hv,hr⟩:=hx en
 by_cases hl:∃ k' A,v = .l k' A
 ·obtain ⟨k',A,rfl⟩:=hl
  simp only [oCvi,hv] at e
  obtain ⟨b1,e⟩:=br_t e
  obtain ⟨b2,e⟩:=br_t e
  obtain ⟨M,k1',k2,k3,k4⟩:=laCut_true e
  have b1':k' < 8:=by simpa [Nat.blt_eq] using b1
  have b2':k < 8:=by simpa [Nat.blt_eq] using b2
  refine ⟨.l k M,fun h' nx' κ'=>?_,fun θ ac w hE=>⟨_,vr_l θ b2' k3,?_⟩⟩
  ·simp only [oCvi,hv,b1,b2,br_tt]
   exact k1' _
  ·obtain ⟨la,ua⟩:=(hr θ ac hE).l b1'
   have:=k4 θ.lane θ.lane_lt
   simp [execOp,ho,ua,convert,run_underlying hs,run_underlying hd,Conv.intToInt,this]
 by_cases hxi:∃ n k' r m,v = .xi n k' r m
 ·obtain ⟨n,k',r,m,rfl⟩:=hxi
  simp only [oCvi,hv] at e
  rcases br_true e with ⟨b14,e⟩ | ⟨b14,e⟩
  ·obtain ⟨b1,e1⟩:=br_t e
   have b1':=Nat.eq_of_beq_eq_true b1
   have b14':=Nat.eq_of_beq_eq_true b14
   subst b1' b14'
   refine ⟨.xi n 13 0 1,fun h' nx' κ'=>by simp only [oCvi,hv];rfl,fun θ ac w hE=>?_⟩
   obtain ⟨hok,hX⟩:=hr θ ac hE
   obtain ⟨h2,w',w1,w2,w3⟩:=xo_num (by omega) (by omega) hok
   refine ⟨_,⟨xo_ok (by omega) w' w1 w2 (by omega),rfl⟩,?_⟩
   have hX:ac.eval X = .int .u8 (w':Int):=by rw [hX,w3,← w1];rfl
   have hw:(kindOf 3).wrap (w':Int)=(w':Int):=wrap_nat (k:=3) (m:=w') (by simp only [khi];omega)
   have hs3:toV θ (.xi n 13 0 1) = .int (kindOf 3) (w':Int):=by
    show (Value.int .i64 (xnat (θ.ext n) + ((0:Nat):Int)))=_
    rw [w1];simp [kindOf]
   rw [hs3]
   simp [execOp,ho,hX,convert,run_underlying hs,run_underlying hd,Conv.intToInt,hw]
  obtain ⟨b0,e⟩:=br_t e
  obtain ⟨b1,e1⟩:=br_t e
  have b1':=Nat.eq_of_beq_eq_true b1
  subst b1'
  refine ⟨.xi n 3 r m,fun h' nx' κ'=>by simp only [oCvi,hv,b14,b0];rfl,fun θ ac w hE=>?_⟩
  obtain ⟨hok,hX⟩:=hr θ ac hE
  obtain ⟨w',w0,w1,w2,w3⟩:=xi_num (by simpa [Nat.blt_eq] using b0) hok
  refine ⟨.int (kindOf 3) (xnat (θ.ext n)),⟨xi_ok (by omega) w' w1 w2 w3,rfl⟩,?_⟩
  have hX:ac.eval X = .int (kindOf k') (w':Int):=by rw [hX,w0]
  have hw:(kindOf 3).wrap (w':Int)=(w':Int):=wrap_nat (k:=3) (m:=w') (by simp only [khi];omega)
  simp [execOp,ho,hX,convert,run_underlying hs,run_underlying hd,Conv.intToInt,hw,w1]
 ·have hsame:∀ h nx κ,oCvi k x en h nx κ=asI (fun _ n=>wrap k n fun r=>κ (.i k r) h nx) v:=by
   intro h nx κ
   simp only [oCvi,hv]
   cases v<;>first | rfl | exact absurd ⟨_,_,_,_,rfl⟩ hxi | exact absurd ⟨_,_,rfl⟩ hl
  rw [hsame] at e
  obtain ⟨j,n,rfl,e1⟩:=asI_true e
  refine ⟨.i k ((kindOf k).wrap n),fun h' nx' κ'=>?_,fun θ ac w hE=>⟨_,vr_i θ _ _,?_⟩⟩
  ·rw [hsame]
   show wrap k n (fun r=>κ' (.i k r) h' nx')=_
   rw [wrap_eq]
  ·simp [execOp,ho,(hr θ ac hE).i,convert,run_underlying hs,run_underlying hd,Conv.intToInt]
theorem p_mki {t:TypeId} {d:TypeDesc} (hx:XOk x X) (hu:P.underlying t=some d) (hd:∀ ms,d≠.interface ms) (ho:o.op = .makeInterface t X):PureOk P o (oMki t x):=by
 intro en h nx κ e
 obtain ⟨v,hv,hr⟩:=hx en
 refine ⟨.ifc t v,fun h' nx' κ'=>by simp only [oMki,hv],fun θ a w hE=>⟨.iface t (a.eval X),⟨(hr θ a hE).1,by rw [(hr θ a hE).2];rfl⟩,?_⟩⟩
 simp only [execOp,ho,Instr.makeInterface,Sem.run_bind,run_underlying hu,Result.andThen]
 cases d<;>first | rfl | exact absurd rfl (hd _)
theorem p_mkf {f:FuncId} {xs:XsF} {cs:Array Operand} (hx:XsOk xs cs.toList) (ho:o.op = .makeFunc (.func f) #[] cs):PureOk P o (oMkf f xs):=by
 intro en h nx κ e
 obtain ⟨vs,hv,_,hr⟩:=hx en
 refine ⟨.fn f vs,fun h' nx' κ'=>by simp only [oMkf,hv],fun θ a w hE=>⟨.func (.func f) #[] (cs.map a.eval),⟨(hr θ a hE).1,?_⟩,?_⟩⟩
 ·have:=(hr θ a hE).2
  have h2:cs.map a.eval=(toVs θ vs).toArray:=by rw [← this];apply Array.ext';simp
  rw [h2];rfl
 ·simp [execOp,ho,Instr.makeFunc]
theorem p_ext {n:Nat} (hx:XOk x X) (ho:o.op = .extract X n):PureOk P o (oExt x n):=by
 intro en h nx κ e
 obtain ⟨v,hv,hr⟩:=hx en
 simp only [oExt,hv] at e
 obtain ⟨l,rfl,e1⟩:=asTu_true e
 rw [nthK_eq] at e1
 cases hl:l[n]? with
 | none=>rw [hl] at e1;cases e1
 | some r=>
  refine ⟨r,fun h' nx' κ'=>?_,fun θ ac w hE=>⟨toV θ r,?_,?_⟩⟩
  ·simp only [oExt,hv]
   show nthK AV _ l n=_
   rw [nthK_eq,hl]
  ·exact ⟨Oks_iff.1 (hr θ ac hE).tu.2 r (List.mem_of_getElem? hl),rfl⟩
  ·simp [execOp,ho,(hr θ ac hE).tu.1,Instr.extract,toVs_get,hl]
theorem p_fa {s:TypeId} {n k off:Nat} {fs:Array Field} {fd:Field} (hx:XOk x X) (hu:P.underlying s=some (.struct fs)) (hf:fs[n]? = some fd) (hk:sizeT P fd.type=some k) (hk0:k≠0) (hoff:fd.offset=off)
  (ho:o.op = .fieldAddr s X n):PureOk P o (oFa x off):=by
 intro en h nx κ e
 obtain ⟨v,hv,hr⟩:=hx en
 simp only [oFa,hv] at e
 obtain ⟨b,i,rfl,e1⟩:=asP_true e
 refine ⟨.p b (i + off),fun h' nx' κ'=>?_,fun θ ac w hE=>⟨_,⟨(hr θ ac hE).1,rfl⟩,?_⟩⟩
 ·simp only [oFa,hv]
  exact fnat_eq (i + off) fun j=>κ' (.p b j) h' nx'
 ·have hx':=(hr θ ac hE).p.1
  simp [execOp,ho,hx',Instr.fieldAt,run_underlying hu,hf,Instr.sureAddr,fieldPlace,run_size hk,hk0,Addr.add_lit,hoff,toV,Nat.add_assoc]
theorem p_fld {s:TypeId} {n k off:Nat} {fs:Array Field} {fd:Field} (hx:XOk x X) (hu:P.underlying s=some (.struct fs)) (hf:fs[n]? = some fd) (hk:sizeT P fd.type=some k) (hg:aggT P fd.type=some true) (hoff:fd.offset=off)
  (ho:o.op = .field s X n):PureOk P o (oFld x off k):=by
 intro en h nx κ e
 obtain ⟨v,hv,hr⟩:=hx en
 simp only [oFld,hv] at e
 obtain ⟨l,rfl,e1⟩:=asAg_true e
 simp only [dropL_eq,takeK_eq,List.length_drop] at e1
 split at e1
 ·rename_i hn
  refine ⟨.ag ((l.drop off).take k),fun h' nx' κ'=>?_,fun θ ac w hE=>⟨_,⟨⟨Oks_take _ (Oks_drop _ (hr θ ac hE).ag.2.1),all_take _ (all_drop _ (hr θ ac hE).ag.2.2)⟩,rfl⟩,?_⟩⟩
  ·simp only [oFld,hv]
   show takeK AV k (dropL AV off l) _=_
   simp only [dropL_eq,takeK_eq,List.length_drop]
   rw [if_pos hn]
  ·obtain ⟨d,hd,hag⟩:=aggT_some (w:=w) hg
   have hp:(part fd.type (toVs θ l).toArray fd.offset).run P w = .ok (.agg (toVs θ ((l.drop off).take k)).toArray) w:=by
    simp only [part,Sem.run_bind,hag,Result.andThen,if_true,run_size hk,Sem.run_pure]
    congr 2
    apply Array.ext'
    simp [hoff,toVs_map,List.extract_eq_take_drop,List.map_take,List.map_drop]
   simp [execOp,ho,(hr θ ac hE).ag.1,Instr.field,run_underlying hu,hf,asAgg,hp,toV]
 ·cases e1
theorem p_fl1 {s:TypeId} {n off:Nat} {fs:Array Field} {fd:Field} (hx:XOk x X) (hu:P.underlying s=some (.struct fs)) (hf:fs[n]? = some fd) (hg:aggT P fd.type=some false) (hoff:fd.offset=off)
  (ho:o.op = .field s X n):PureOk P o (oFl1 x off):=by
 intro en h nx κ e
 obtain ⟨v,hv,hr⟩:=hx en
 simp only [oFl1,hv] at e
 obtain ⟨l,rfl,e1⟩:=asAg_true e
 rw [nthK_eq] at e1
 cases hl:l[off]? with
 | none=>rw [hl] at e1;cases e1
 | some r=>
  refine ⟨r,fun h' nx' κ'=>?_,fun θ ac w hE=>⟨toV θ r,?_,?_⟩⟩
  ·simp only [oFl1,hv]
   show nthK AV _ l off=_
   rw [nthK_eq,hl]
  ·exact ⟨Oks_iff.1 (hr θ ac hE).ag.2.1 r (List.mem_of_getElem? hl),rfl⟩
  ·obtain ⟨d,hd,hag⟩:=aggT_some (w:=w) hg
   have hp:(part fd.type (toVs θ l).toArray fd.offset).run P w = .ok (toV θ r) w:=by
    simp only [part,Sem.run_bind,hag,Result.andThen]
    simp [hoff,toVs_get,hl]
   simp [execOp,ho,(hr θ ac hE).ag.1,Instr.field,run_underlying hu,hf,asAgg,hp]
theorem p_ias {t e':TypeId} {size:Nat} (hx:XOk x X) (hy:XOk y Y) (hu:P.underlying t=some (.slice e')) (hs:sizeT P e' = some size) (ho:o.op = .indexAddr t X Y):PureOk P o (oIas x y size):=by
 intro en h nx κ e
 obtain ⟨v,hv,hr⟩:=hx en
 obtain ⟨v2,hv2,hr2⟩:=hy en
 simp only [oIas,hv,hv2] at e
 obtain ⟨b,off,len,cap,rfl,e1⟩:=asSl_true e
 obtain ⟨j,i,rfl,e2⟩:=asN_true e1
 obtain ⟨hl,e3⟩:=br_t e2
 have hl':i < len:=by simpa [Nat.blt_eq] using hl
 refine ⟨.p b (off + i * size),fun h' nx' κ'=>?_,fun θ ac w hE=>⟨_,⟨(hr θ ac hE).1,rfl⟩,?_⟩⟩
 ·simp only [oIas,hv,hv2]
  show br (Nat.blt i len) (fnat _ _) false=_
  rw [hl]
  exact fnat_eq (off + i * size) fun j=>κ' (.p b j) h' nx'
 ·obtain ⟨_,c,hx'⟩:=(hr θ ac hE).sl
  have hy':=(hr2 θ ac hE).i
  simp [execOp,ho,hx',hy',Instr.indexAt,asIntOf,run_underlying hu,run_size hs,Addr.add_lit,hl',toV,Nat.add_assoc]
theorem p_iaa {t e':TypeId} {size len:Nat} (hx:XOk x X) (hy:XOk y Y) (hu:P.underlying t=some (.array len e')) (hs:sizeT P e' = some size) (ho:o.op = .indexAddr t X Y):PureOk P o (oIaa x y len size):=by
 intro en h nx κ e
 obtain ⟨v,hv,hr⟩:=hx en
 obtain ⟨v2,hv2,hr2⟩:=hy en
 simp only [oIaa,hv,hv2] at e
 obtain ⟨b,off,rfl,e1⟩:=asP_true e
 by_cases hl:∃ k N,v2 = .l k N
 ·obtain ⟨k,N,rfl⟩:=hl
  obtain ⟨b1,e⟩:=br_t (show qK b off len size k N (fun v=>κ v h nx)=true from e1)
  obtain ⟨b2,e⟩:=br_t e
  obtain ⟨b3,e⟩:=br_t e
  obtain ⟨b4,e⟩:=br_t e
  have b1':=Nat.eq_of_beq_eq_true b1
  have b2':=Nat.eq_of_beq_eq_true b2
  have b3':k < 8:=by simpa [Nat.blt_eq] using b3
  subst b1' b2'
  refine ⟨.q b off N,fun h' nx' κ'=>?_,fun θ ac w hE=>?_⟩
  ·simp only [oIaa,hv,hv2]
   refine (asP_pi _ b off).trans ?_
   unfold qK
   rw [b1,b2,b3,b4,br_tt,br_tt,br_tt,br_tt]
  ·obtain ⟨la,ua⟩:=(hr2 θ ac hE).l b3'
   have h16:Lim 16 N:=
    lt16 la.all64 b4
   have hx':=(hr θ ac hE).p
   have hl16:=h16 θ.lane θ.lane_lt
   refine ⟨_,⟨⟨hx'.2,h16⟩,rfl⟩,?_⟩
   simp [execOp,ho,hx'.1,ua,Instr.indexAt,Instr.sureAddr,asIntOf,run_underlying hu,run_size hs,Addr.add_lit,hl16,toV,Nat.add_assoc]
 have hsame:∀ h nx κ,oIaa x y len size en h nx κ=asN (fun i=>br (Nat.blt i len) (fnat (Nat.add off (Nat.mul i size)) fun j=>κ (.p b j) h nx) false) v2:=by
  intro h nx κ
  simp only [oIaa,hv,hv2]
  cases v2<;>first | rfl | exact absurd ⟨_,_,rfl⟩ hl
 have e1:asN (fun i=>br (Nat.blt i len) (fnat (Nat.add off (Nat.mul i size)) fun j=>κ (.p b j) h nx) false) v2=true:=by
  rw [← hsame];simp only [oIaa,hv,hv2];exact e1
 obtain ⟨j,i,rfl,e2⟩:=asN_true e1
 obtain ⟨hl,e3⟩:=br_t e2
 have hl':i < len:=by simpa [Nat.blt_eq] using hl
 refine ⟨.p b (off + i * size),fun h' nx' κ'=>?_,fun θ ac w hE=>⟨_,⟨(hr θ ac hE).1,rfl⟩,?_⟩⟩
 ·rw [hsame]
  show br (Nat.blt i len) (fnat _ _) false=_
  rw [hl]
  exact fnat_eq (off + i * size) fun j=>κ' (.p b j) h' nx'
 ·have hx':=(hr θ ac hE).p.1
  have hy':=(hr2 θ ac hE).i
  simp [execOp,ho,hx',hy',Instr.indexAt,Instr.sureAddr,asIntOf,run_underlying hu,run_size hs,Addr.add_lit,hl',toV,Nat.add_assoc]
end ops
end Go.AM

namespace Go.AM
open Go
theorem fold_set (vs:List Value):∀ (off i:Nat) (cells:Array Value),off + i + vs.length≤cells.size→
  ((vs.zipIdx i).foldl (fun cs x=>cs.setIfInBounds (off + x.2) x.1) cells).toList=cells.toList.take (off + i) ++ vs ++ cells.toList.drop (off + i + vs.length):=by
 induction vs with
 | nil=>intro off i cells _;simp
 | cons v r ih=>
  intro off i cells h
  simp only [List.length_cons] at h
  rw [List.zipIdx_cons,List.foldl_cons,ih off (i + 1) _ (by simp;omega)]
  have ho:off + i < cells.toList.length:=by simp;omega
  rw [Array.toList_setIfInBounds,show off + (i + 1)=off + i + 1 by omega,List.take_succ_eq_append_getElem (by simpa using ho)]
  simp only [List.length_cons]
  rw [List.take_set_of_le (Nat.le_refl _),List.getElem_set_self,List.drop_set_of_lt (by omega),show off + i + 1 + r.length=off + i + (r.length + 1) by omega]
  simp
theorem fill_step (place:Nat→Option (Nat × Nat)) (cells:Array Value) (i off size:Nat) (v:Value) (rest:List (Nat × Value)) (hp:place i=some (off,size)) (hv:v.cells.size=size) (hl:off + size≤cells.size) :
  ∃ cells',Instr.fill place cells ((i,v) :: rest)=Instr.fill place cells' rest∧cells'.toList=cells.toList.take off ++ v.cells.toList ++ cells.toList.drop (off + v.cells.toList.length):=by
 have hf:=fold_set v.cells.toList off 0 cells (by simp;omega)
 have heq:(v.cells.zipIdx.foldl (fun cs x=>cs.setIfInBounds (off + x.2) x.1) cells)=((v.cells.toList.zipIdx 0).foldl (fun cs x=>cs.setIfInBounds (off + x.2) x.1) cells):=by
  rw [← Array.foldl_toList,Array.toList_zipIdx]
 refine ⟨v.cells.zipIdx.foldl (fun cs x=>cs.setIfInBounds (off + x.2) x.1) cells,?_,?_⟩
 ·have h1:¬ (v.cells.size≠size || off + v.cells.size > cells.size)=true:=by simp [hv];omega
  simp only [Instr.fill,hp]
  rw [if_neg h1]
 ·rw [heq,hf];simp
theorem fill_ok {place place':Nat→Option (Nat × Nat)} (hpl:∀ i r,place i=some r→place' i=some r) :
  ∀ {ps:List (Nat × Operand)} {pts:List Pt} {en:Env} {z:List AV} {κ:List AV→R},parts place ps=some pts→dP pts en z κ=true→
   ∃ l,(∀ κ',dP pts en z κ' = κ' l)∧l.length=z.length∧∀ θ (a:Act),ER θ en a.tmps→Oks θ z→z.all one=true→
    Oks θ l∧l.all one=true∧Instr.fill place' (toVs θ z).toArray (ps.map fun q=>(q.1,a.eval q.2))=some (toVs θ l).toArray
 | [],pts,en,z,κ,hp,e=>by
  cases hp
  exact ⟨z,fun _=>rfl,rfl,fun θ a _ h1 h2=>⟨h1,h2,rfl⟩⟩
 | (i,Y) :: ps,pts,en,z,κ,hp,e=>by
  unfold parts omap at hp
  split at hp
  ·rename_i pt r hpt hr
   injection hp with hp;subst hp
   split at hpt
   ·rename_i off size x hplace hx
    injection hpt with hpt;subst hpt
    obtain ⟨v,hv,hvr⟩:=x_ok hx en
    have e:dX x en (cellsK fun vs=>br (Nat.beq (lenN AV vs) size) (putLK vs off z fun l=>dP r en l κ) false)=true:=e
    rw [hv] at e
    obtain ⟨hc,e1,hcr⟩:=cellsK_true e
    obtain ⟨hs,e2⟩:=br_t e1
    have hs':(cellsV v).length=size:=by rw [← lenN_eq];exact Nat.eq_of_beq_eq_true hs
    rw [putLK_eq] at e2
    split at e2
    ·rename_i hle
     obtain ⟨l,k1,k2,k3⟩:=fill_ok hpl hr e2
     refine ⟨l,fun κ'=>?_,?_,fun θ a hE hz hz1=>?_⟩
     ·show dX x en (cellsK fun vs=>br (Nat.beq (lenN AV vs) size) (putLK vs off z fun l=>dP r en l κ') false)=_
      rw [hv,hc,hs]
      show putLK (cellsV v) off z (fun l=>dP r en l κ')=_
      rw [putLK_eq,if_pos hle]
      exact k1 κ'
     ·rw [k2];simp;omega
     ·obtain ⟨q1,q2,q3⟩:=hcr (hvr θ a hE)
      obtain ⟨k4,k5,k6⟩:=k3 θ a hE (Oks_append.2 ⟨Oks_append.2 ⟨Oks_take _ hz,q1⟩,Oks_drop _ hz⟩) (by simp only [List.all_append,all_take _ hz1,q2,all_drop _ hz1,Bool.and_self])
      refine ⟨k4,k5,?_⟩
      have hn:(a.eval Y).cells.size=size:=by rw [← Array.length_toList,q3,toVs_length];exact hs'
      obtain ⟨cs,f1,f2⟩:=fill_step place' (toVs θ z).toArray i off size (a.eval Y) (ps.map fun q=>(q.1,a.eval q.2)) (hpl i _ hplace) hn (by simp;omega)
      rw [List.map_cons,f1,← k6]
      congr 1
      apply Array.ext'
      rw [f2,q3]
      simp [toVs_map,List.map_take,List.map_drop]
    ·cases e2
   ·cases hpt
  ·cases hp
section ops
variable {P:Program} {o:Oper} {x y:XF} {X Y:Operand}
theorem places_ok:∀ (fs:List Field) (w:World),fs.all (fun f=>(sizeT P f.type).isSome)=true→
  (fs.mapM (fun f:Field=>do pure (f.offset,← sizeOf f.type)):Sem (List (Nat × Nat))).run P w = .ok (fs.map fun f:Field=>(f.offset,(sizeT P f.type).getD 0)) w
 | [],w,_=>rfl
 | f :: fs,w,h=>by
  simp only [List.all_cons,Bool.and_eq_true] at h
  obtain ⟨k,hk⟩:=Option.isSome_iff_exists.1 h.1
  have ih:=places_ok fs w h.2
  rw [List.mapM_cons]
  simp only [Sem.run_bind,run_size hk,Result.andThen,Sem.run_pure,ih,List.map_cons,hk,Option.getD_some]
theorem p_blds {t:TypeId} {fs:Array Field} {ps:Array (Nat × Operand)} {pts:List Pt} {z:List AV} (hu:P.underlying t=some (.struct fs)) (hz:zeroT P t=some z) (hs:fs.toList.all (fun f=>(sizeT P f.type).isSome)=true)
  (hp:parts (fun i=>match fs[i]? with | some f=>(sizeT P f.type).map (fun s=>(f.offset,s)) | none=>none) ps.toList=some pts) (ho:o.op = .build t ps):PureOk P o (oBld z (dP pts)):=by
 intro en h nx κ e
 obtain ⟨ti,zv,i1,i2,i3,i4⟩:=zeroT_some hz
 have hag:∀ (i:Nat) (r:Nat × Nat),(match fs[i]? with | some f=>(sizeT P f.type).map (fun s=>(f.offset,s)) | none=>none)=some r→((fs.toList.map fun f:Field=>(f.offset,(sizeT P f.type).getD 0)).toArray[i]?)=some r:=by
  intro i r hr
  split at hr
  ·rename_i f hf
   obtain ⟨k,k1,k2⟩:=Option.map_eq_some_iff.1 hr
   subst k2
   simp [hf,k1]
  ·cases hr
 obtain ⟨l,k1,k2,k3⟩:=fill_ok (place':=((fs.toList.map fun f:Field=>(f.offset,(sizeT P f.type).getD 0)).toArray[·]?)) hag hp e
 refine ⟨.ag l,fun h' nx' κ'=>k1 _,fun θ a w hE=>⟨.agg (toVs θ l).toArray,⟨⟨(k3 θ a hE (i4 θ).1 i3).1,(k3 θ a hE (i4 θ).1 i3).2.1⟩,rfl⟩,?_⟩⟩
 have hfill:=(k3 θ a hE (i4 θ).1 i3).2.2
 have hm:(fs.mapM (fun f:Field=>do pure (f.offset,← sizeOf f.type)):Sem (Array (Nat × Nat))).run P w = .ok (fs.toList.map fun f:Field=>(f.offset,(sizeT P f.type).getD 0)).toArray w:=by
  rw [Array.mapM_eq_mapM_toList]
  simp only [Sem.run_map,places_ok fs.toList w hs,Result.andThen]
 have hps:(ps.map fun (i,x)=>(i,a.eval x)).toList=ps.toList.map fun q=>(q.1,a.eval q.2):=by simp
 simp only [execOp,ho,Instr.build,zeroValue,typeInfo,Sem.run_bind,run_program,i1,i2,Result.andThen,Sem.run_pure,run_underlying hu,hm,hps,(i4 θ).2,hfill]
theorem p_blda {t el:TypeId} {n s:Nat} {ps:Array (Nat × Operand)} {pts:List Pt} {z:List AV} (hu:P.underlying t=some (.array n el)) (hz:zeroT P t=some z) (hs:sizeT P el=some s)
  (hp:parts (fun i=>(sizeT P el).map (fun s=>(i * s,s))) ps.toList=some pts) (ho:o.op = .build t ps):PureOk P o (oBld z (dP pts)):=by
 intro en h nx κ e
 obtain ⟨ti,zv,i1,i2,i3,i4⟩:=zeroT_some hz
 obtain ⟨l,k1,k2,k3⟩:=fill_ok (place':=fun i=>some (i * s,s)) (fun i r hr=>by rw [hs] at hr;exact hr) hp e
 refine ⟨.ag l,fun h' nx' κ'=>k1 _,fun θ a w hE=>⟨.agg (toVs θ l).toArray,⟨⟨(k3 θ a hE (i4 θ).1 i3).1,(k3 θ a hE (i4 θ).1 i3).2.1⟩,rfl⟩,?_⟩⟩
 have hfill:=(k3 θ a hE (i4 θ).1 i3).2.2
 have hps:(ps.map fun (i,x)=>(i,a.eval x)).toList=ps.toList.map fun q=>(q.1,a.eval q.2):=by simp
 simp only [execOp,ho,Instr.build,zeroValue,typeInfo,Sem.run_bind,run_program,i1,i2,Result.andThen,Sem.run_pure,run_underlying hu,run_size hs,hps,(i4 θ).2,hfill]
theorem mmL_go {k:Nat} {a v:AV} {κ:AV→R} (e:lnK k a (fun A=>lnK k v fun B=>fnat (ltm A B) fun Y=>br (Nat.beq Y 0) (κ a) (br (Nat.beq Y LO) (κ v) false))=true) :
  ∃ w,(∀ κ':AV→R,lnK k a (fun A=>lnK k v fun B=>fnat (ltm A B) fun Y=>br (Nat.beq Y 0) (κ' a) (br (Nat.beq Y LO) (κ' v) false))=κ' w)∧κ w=true∧
   ∀ θ u u2,VR θ a u→VR θ v u2→∃ u',VR θ w u'∧∀ w,(Builtin.max2 u u2).run P w = .ok u' w:=by
 obtain ⟨A,a1,e,_,_,a4⟩:=lnK_true e
 obtain ⟨B,b1,e,_,_,b4⟩:=lnK_true e
 rw [fnat_eq] at e
 rcases br_true e with ⟨h1,e⟩ | ⟨h1,e⟩
 ·refine ⟨a,fun κ'=>by rw [a1,b1,fnat_eq,h1];rfl,e,fun θ u u2 hu hu2=>⟨u,hu,fun w=>?_⟩⟩
  obtain ⟨la,ua⟩:=a4 θ u hu
  obtain ⟨lb,ub⟩:=b4 θ u2 hu2
  have h:=ln_ltm θ.lane_lt la.all64 lb.all64
  rw [Nat.eq_of_beq_eq_true h1,ln_nought] at h
  have h2:¬ ln θ.lane A < ln θ.lane B:=fun h3=>by rw [if_pos h3] at h;omega
  have h3:¬ ((ln θ.lane A:Nat):Int) < ((ln θ.lane B:Nat):Int):=by omega
  subst ua ub
  simp [Builtin.max2,h3]
 ·obtain ⟨h2,e⟩:=br_t e
  refine ⟨v,fun κ'=>by rw [a1,b1,fnat_eq,h1,h2];rfl,e,fun θ u u2 hu hu2=>⟨u2,hu2,fun w=>?_⟩⟩
  obtain ⟨la,ua⟩:=a4 θ u hu
  obtain ⟨lb,ub⟩:=b4 θ u2 hu2
  have h:=ln_ltm θ.lane_lt la.all64 lb.all64
  rw [Nat.eq_of_beq_eq_true h2,ln_ones θ.lane_lt] at h
  have h2:ln θ.lane A < ln θ.lane B:=by
   by_cases h3:ln θ.lane A < ln θ.lane B
   ·exact h3
   ·rw [if_neg h3] at h;omega
  have h3:((ln θ.lane A:Nat):Int) < ((ln θ.lane B:Nat):Int):=by omega
  subst ua ub
  simp [Builtin.max2,h3]
theorem mmL_true {mx:Bool} {a v:AV} {κ:AV→R} (e:mmL mx a v κ=true):∃ w,(∀ κ':AV→R,mmL mx a v κ' = κ' w)∧κ w=true∧
  ∀ θ u u2,VR θ a u→VR θ v u2→∃ u',VR θ w u'∧∀ w,((if mx then Builtin.max2 else Builtin.min2) u u2).run P w = .ok u' w:=by
 have go:∀ k:Nat,(∀ κ':AV→R,mmL mx a v κ' = br mx (lnK k a fun A=>lnK k v fun B=>fnat (ltm A B) fun Y=>br (Nat.beq Y 0) (κ' a) (br (Nat.beq Y LO) (κ' v) false)) false)→∃ w,(∀ κ':AV→R,mmL mx a v κ' = κ' w)∧κ w=true∧
   ∀ θ u u2,VR θ a u→VR θ v u2→∃ u',VR θ w u'∧∀ w,((if mx then Builtin.max2 else Builtin.min2) u u2).run P w = .ok u' w:=fun k hk=>by
  rw [hk] at e
  obtain ⟨h1,e⟩:=br_t e
  subst h1
  obtain ⟨w,w1,w2,w3⟩:=mmL_go (P:=P) e
  exact ⟨w,fun κ'=>by rw [hk,br_tt,w1],w2,w3⟩
 by_cases h1:∃ k N,a = .l k N
 ·obtain ⟨k,N,rfl⟩:=h1
  exact go k fun κ'=>rfl
 by_cases h2:∃ k N,v = .l k N
 ·obtain ⟨k,N,rfl⟩:=h2
  refine go k fun κ'=>?_
  cases a<;>first | rfl | exact absurd ⟨_,_,rfl⟩ h1
 ·exfalso
  have:mmL mx a v κ=false:=by
   cases a<;>first | exact absurd ⟨_,_,rfl⟩ h1 | (cases v<;>first | rfl | exact absurd ⟨_,_,rfl⟩ h2)
  rw [this] at e;cases e
theorem mm_ok {mx:Bool}:∀ {vs:List AV} {a:AV} {κ:AV→R},mmK mx vs a κ=true→∃ r,(∀ κ',mmK mx vs a κ' = κ' r)∧∀ θ u,VR θ a u→Oks θ vs→
  ∃ u',VR θ r u'∧∀ w,((toVs θ vs).foldlM (if mx then Builtin.max2 else Builtin.min2) u).run P w = .ok u' w
 | [],a,κ,e=>⟨a,fun _=>rfl,fun θ u hu _=>⟨u,hu,fun w=>rfl⟩⟩
 | v :: vs,a,κ,e=>by
  have step0:∀ κ,mmK mx (v :: vs) a κ=br (isLL a v) (mmL mx a v fun w=>mmK mx vs w κ) (asI (fun k x=>asI (fun _ y=>@Bool.rec (fun _=>R)
   (cmLt y x fun c=>br c (mmK mx vs (.i k y) κ) (mmK mx vs (.i k x) κ)) (cmLt x y fun c=>br c (mmK mx vs (.i k y) κ) (mmK mx vs (.i k x) κ)) mx) v) a):=fun _=>rfl
  cases hl:isLL a v with
  | true=>
   rw [step0,hl,br_tt] at e
   obtain ⟨w,q1,q2,q3⟩:=mmL_true (P:=P) e
   obtain ⟨r,r1,r2⟩:=mm_ok q2
   refine ⟨r,fun κ'=>by rw [step0,hl,br_tt,q1,r1],fun θ u hu hv=>?_⟩
   obtain ⟨uw,w1,w2⟩:=q3 θ u _ hu ⟨hv.1,rfl⟩
   obtain ⟨u',w3,w4⟩:=r2 θ uw w1 hv.2
   refine ⟨u',w3,fun w=>?_⟩
   simp only [toVs,List.foldlM_cons,Sem.run_bind,w2,Result.andThen,w4]
  | false=>
  have step:∀ κ,mmK mx (v :: vs) a κ=asI (fun k x=>asI (fun _ y=>@Bool.rec (fun _=>R)
   (cmLt y x fun c=>br c (mmK mx vs (.i k y) κ) (mmK mx vs (.i k x) κ)) (cmLt x y fun c=>br c (mmK mx vs (.i k y) κ) (mmK mx vs (.i k x) κ)) mx) v) a:=fun κ=>by rw [step0,hl,br_ff]
  rw [step] at e
  obtain ⟨k,x,rfl,e1⟩:=asI_true e
  obtain ⟨k2,y,rfl,e2⟩:=asI_true e1
  have go:∀ z:Int,(∀ κ,mmK mx (.i k2 y :: vs) (.i k x) κ=mmK mx vs (.i k z) κ)→(∀ w,((if mx then Builtin.max2 else Builtin.min2) (.int (kindOf k) x) (.int (kindOf k2) y)).run P w = .ok (.int (kindOf k) z) w)→
    mmK mx vs (.i k z) κ=true→∃ r,(∀ κ',mmK mx (.i k2 y :: vs) (.i k x) κ' = κ' r)∧∀ θ u,VR θ (.i k x) u→Oks θ (.i k2 y :: vs)→∃ u',VR θ r u'∧∀ w,((toVs θ (.i k2 y :: vs)).foldlM (if mx then Builtin.max2 else Builtin.min2) u).run P w = .ok u' w:=by
   intro z h1 h2 h3
   obtain ⟨r,q1,q2⟩:=mm_ok h3
   refine ⟨r,fun κ'=>by rw [h1,q1],fun θ u hu hv=>?_⟩
   obtain ⟨u',w1,w2⟩:=q2 θ _ (vr_i θ k z) hv.2
   refine ⟨u',w1,fun w=>?_⟩
   have hu:=hu.i
   subst hu
   simp only [toVs,toV,List.foldlM_cons,Sem.run_bind,h2,Result.andThen,w2]
  cases mx with
  | true=>
   simp only [cmLt_eq] at e2
   by_cases hc:x < y
   ·refine go y (fun κ=>?_) (fun w=>by simp [Builtin.max2,hc]) (by rw [decide_eq_true hc] at e2;exact e2)
    rw [step]
    show cmLt x y _=_
    rw [cmLt_eq,decide_eq_true hc]
   ·refine go x (fun κ=>?_) (fun w=>by simp [Builtin.max2,hc]) (by rw [decide_eq_false hc] at e2;exact e2)
    rw [step]
    show cmLt x y _=_
    rw [cmLt_eq,decide_eq_false hc]
  | false=>
   simp only [cmLt_eq] at e2
   by_cases hc:y < x
   ·refine go y (fun κ=>?_) (fun w=>by simp [Builtin.min2,hc]) (by rw [decide_eq_true hc] at e2;exact e2)
    rw [step]
    show cmLt y x _=_
    rw [cmLt_eq,decide_eq_true hc]
   ·refine go x (fun κ=>?_) (fun w=>by simp [Builtin.min2,hc]) (by rw [decide_eq_false hc] at e2;exact e2)
    rw [step]
    show cmLt y x _=_
    rw [cmLt_eq,decide_eq_false hc]
theorem p_mm {mx:Bool} {xs:XsF} {c:Call} (hx:XsOk xs c.args.toList) (hc:c.callee = .builtin (if mx then .max else .min)) (ho:o.op = .call c):PureOk P o (oMm mx xs):=by
 intro en h nx κ e
 obtain ⟨vs,hv,hlen,hr⟩:=hx en
 simp only [oMm,hv] at e
 cases vs with
 | nil=>cases e
 | cons v vs=>
  obtain ⟨r,q1,q2⟩:=mm_ok (P:=P) e
  refine ⟨r,fun h' nx' κ'=>by simp only [oMm,hv];exact q1 _,fun θ a w hE=>?_⟩
  obtain ⟨h1,h2⟩:=hr θ a hE
  obtain ⟨u',w1,w2⟩:=q2 θ (toV θ v) ⟨h1.1,rfl⟩ h1.2
  refine ⟨u',w1,?_⟩
  have hargs:(c.args.map a.eval).toList=toV θ v :: toVs θ vs:=by rw [Array.toList_map,h2];rfl
  have w2:=w2 w
  cases mx<;>simp only [if_true,if_false,Bool.false_eq_true] at w2 hc<;>
   simp only [execOp,ho,resolve,hc,Sem.run_bind,Sem.run_pure,Result.andThen,invoke,builtin,Builtin.max_,Builtin.min_,hargs,w2]
theorem kn_lt (k:IntKind):kn k < 8:=by cases k<;>decide
theorem eqK_true {c:Nat} {x y:AV} {κ:Bool→R} (e:eqK c x y κ=true):∃ r,(∀ κ',eqK c x y κ' = κ' r)∧
  ((c < 8∧one x=true∧one y=true∧∀ θ u v,VR θ x u→VR θ y v→∃ m n:Int,u = .int (kindOf c) m∧v = .int (kindOf c) n∧r=(m == n))∨(c=8∧one x=true∧one y=true∧∀ θ u v,VR θ x u→VR θ y v→∃ a b,u = .string a∧v = .string b∧(a == b)=r∧(b == a)=r)∨(c≠8∧8≤c∧∃ a b,x = .b a∧y = .b b∧r=(a == b))):=by
 unfold eqK at e
 rcases br_true e with ⟨h1,e1⟩ | ⟨h1,e1⟩
 ·have h1':c < 8:=by simpa [Nat.blt_eq] using h1
  rcases br_true e1 with ⟨h2,e1⟩ | ⟨h2,e1⟩
  ·obtain ⟨r,k1,_,k3⟩:=laEq_true e1
   have h1x:∀ {v:AV} {κ:Nat→R},lnK c v κ=true→one v=true:=by
    intro v κ e
    cases v<;>first | rfl | cases e
   obtain ⟨_,a1,e2,_⟩:=lnK_true e1
   refine ⟨r,fun κ'=>?_,.inl ⟨h1',h1x e1,h1x e2,fun θ u v hu hv=>?_⟩⟩
   ·unfold eqK
    rw [h1,h2]
    exact k1 κ'
   ·obtain ⟨a,b,u1,u2,u3⟩:=k3 θ u v hu hv
    refine ⟨a,b,u1,u2,?_⟩
    rw [u3]
    by_cases hab:a=b
    ·subst hab;simp
    ·have:¬ (a:Int)=(b:Int):=by omega
     rw [beq_false_of_ne hab,beq_false_of_ne this]
  obtain ⟨m,rfl,e2⟩:=asK_true e1
  obtain ⟨n,rfl,e3⟩:=asK_true e2
  refine ⟨m == n,fun κ'=>?_,.inl ⟨h1',rfl,rfl,fun θ u v hu hv=>⟨m,n,hu.i,hv.i,rfl⟩⟩⟩
  unfold eqK
  rw [h1]
  show asK c (fun a=>asK c (fun b=>cmEq a b κ') (.i c n)) (.i c m)=_
  rw [asK_i,asK_i,cmEq_eq]
 ·have h1':¬ c < 8:=fun h=>by rw [show Nat.blt c 8=true by simpa [Nat.blt_eq] using h] at h1;cases h1
  rcases br_true e1 with ⟨h2,e2⟩ | ⟨h2,e2⟩
  ·have h2':=Nat.eq_of_beq_eq_true h2
   obtain ⟨r,k1,_,k2,k3,k4⟩:=asSQ_true e2
   refine ⟨r,fun κ'=>?_,.inr (.inl ⟨h2',k2,k3,k4⟩)⟩
   unfold eqK
   rw [h1,h2];exact k1 κ'
  ·have h2':c≠8:=fun h=>by subst h;cases h2
   obtain ⟨a,rfl,e3⟩:=asB_true e2
   obtain ⟨b,rfl,e4⟩:=asB_true e3
   refine ⟨a == b,fun κ'=>?_,.inr (.inr ⟨h2',by omega,a,b,rfl,rfl,rfl⟩)⟩
   unfold eqK
   rw [h1,h2]
   show κ' (eqB a b)=_
   rw [eqB_eq]
theorem flatC_some {t:TypeId} {c:Nat} (h:flatC P t=some c):∃ d,P.underlying t=some d∧((∃ k,d = .int k∧c=kn k)∨(d = .string∧c=8)∨(d = .bool∧c=9)):=by
 unfold flatC at h
 split at h
 ·rename_i k hu;injection h with h;exact ⟨_,hu,.inl ⟨k,rfl,h.symm⟩⟩
 ·rename_i hu;injection h with h;exact ⟨_,hu,.inr (.inl ⟨rfl,h.symm⟩)⟩
 ·rename_i hu;injection h with h;exact ⟨_,hu,.inr (.inr ⟨rfl,h.symm⟩)⟩
 ·cases h
theorem cell_eq {t:TypeId} {c:Nat} {x y:AV} {κ:Bool→R} (hc:flatC P t=some c) (e:eqK c x y κ=true):∃ r,(∀ κ',eqK c x y κ' = κ' r)∧one x=true∧one y=true∧
  ∀ θ u v,VR θ x u→VR θ y v→(∀ d w,(Op.equalIn (d + 1) t u v).run P w = .ok r w)∧(r=true→∀ n,Instr.sameBits n v u=true)∧(∀ d,P.underlying t=some d→Instr.sameNow d u v=some r)∧
   (∀ e n w,(Instr.checkKey e (n + 1) t u).run P w = .ok () w)∧∀ op X Y w,(eqGuard op t X Y u v).run P w = .ok () w:=by
 obtain ⟨r,h1,h2⟩:=eqK_true e
 obtain ⟨d,hd,hk⟩:=flatC_some hc
 have hguard:∀ {θ:Th} {u v:Value} {a:Value},(u=a)→(∀ l,a≠.agg l)→a≠.nilIface→∀ op X Y w,(eqGuard op t X Y u v).run P w = .ok () w:=by
  intro θ u v a hu ha hn op X Y w
  subst hu
  unfold eqGuard
  cases op<;>(try rfl)<;>(cases u<;>first | rfl | exact absurd rfl hn | exact absurd rfl (ha _))
 rcases h2 with ⟨hlt,hone,hone',hab⟩ | ⟨rfl,hone,hone',hab⟩ | ⟨hn8,hle,a,b,rfl,rfl,rfl⟩
 ·rcases hk with ⟨k,rfl,hck⟩ | ⟨rfl,hck⟩ | ⟨rfl,hck⟩
  ·subst hck
   refine ⟨_,h1,hone,hone',fun θ u v hu hv=>?_⟩
   obtain ⟨m,n,hu,hv,hr⟩:=hab θ u v hu hv
   rw [kind_kn] at hu hv
   subst hu hv hr
   refine ⟨fun d w=>by simp [Op.equalIn,run_underlying hd],fun hr n=>?_,fun d' hd'=>?_,fun e n w=>by simp [Instr.checkKey,run_underlying hd],fun op X Y w=>by cases op<;>rfl⟩
   ·have:m = ‹_›:=by simpa using hr
    subst this
    cases n<;>simp [Instr.sameBits]
   ·rw [hd] at hd';injection hd' with hd';subst hd';simp [Instr.sameNow]
  ·omega
  ·omega
 ·rcases hk with ⟨k,rfl,hck⟩ | ⟨rfl,_⟩ | ⟨rfl,hck⟩
  ·have:=kn_lt k;omega
  ·refine ⟨_,h1,hone,hone',fun θ u v hu hv=>?_⟩
   obtain ⟨a,b,hu,hv,hb,hb'⟩:=hab θ u v hu hv
   subst hu hv
   refine ⟨fun d w=>by simp [Op.equalIn,run_underlying hd,hb],fun hr n=>?_,fun d' hd'=>?_,fun e n w=>by simp [Instr.checkKey,run_underlying hd],fun op X Y w=>by cases op<;>rfl⟩
   ·subst hr
    cases n<;>simp [Instr.sameBits,hb']
   ·rw [hd] at hd';injection hd' with hd';subst hd';simp [Instr.sameNow,hb]
  ·omega
 ·rcases hk with ⟨k,rfl,hck⟩ | ⟨rfl,hck⟩ | ⟨rfl,hck⟩
  ·have:=kn_lt k;omega
  ·omega
  ·refine ⟨_,h1,rfl,rfl,fun θ u v hu hv=>?_⟩
   have hu:=hu.b
   have hv:=hv.b
   subst hu hv
   refine ⟨fun d w=>by simp [Op.equalIn,run_underlying hd],fun hr n=>?_,fun d' hd'=>?_,fun e n w=>by simp [Instr.checkKey,run_underlying hd],fun op X Y w=>by cases op<;>rfl⟩
   ·have:a=b:=by simpa using hr
    subst this
    cases n<;>simp [Instr.sameBits]
   ·rw [hd] at hd';injection hd' with hd';subst hd';simp [Instr.sameNow]
end ops
end Go.AM

namespace Go.AM
open Go
section
variable {P:Program} {o:Oper} {x y:XF} {X Y:Operand}
theorem eqTs_nil {a b:List AV} {κ:Bool→R} (e:eqTs [] a b κ=true):a=[]∧b=[]:=by
 cases a<;>cases b<;>first | exact ⟨rfl,rfl⟩ | cases e
theorem eqTs_cons {c:Nat} {ks:List Nat} {a b:List AV} {κ:Bool→R} (e:eqTs (c :: ks) a b κ=true):∃ x r y s,a=x :: r∧b=y :: s∧eqK c x y (fun q=>br q (eqTs ks r s κ) (κ false))=true:=by
 cases a with
 | nil=>cases e
 | cons x r=>cases b with
  | nil=>cases e
  | cons y s=>exact ⟨x,r,y,s,rfl,rfl,e⟩
theorem part_cell {t:TypeId} {c:Nat} (hc:flatC P t=some c) {cs:Array Value} {i:Nat} {v:Value} (h:cs[i]? = some v) (w:World):(part t cs i).run P w = .ok v w:=by
 obtain ⟨d,hd,hk⟩:=flatC_some hc
 have ha:(isAgg t).run P w = .ok false w:=by
  simp only [isAgg,Sem.run_bind,run_underlying hd,Result.andThen]
  rcases hk with ⟨k,rfl,_⟩ | ⟨rfl,_⟩ | ⟨rfl,_⟩<;>rfl
 simp only [part,Sem.run_bind,ha,Result.andThen]
 simp [h]
theorem flatFs_some {f:Field} {fs:List Field} {n:Nat} {ks:List Nat} (h:flatFs P (f :: fs) n=some ks):f.name ≠ "_" ∧ f.offset=n∧∃ c cs,flatC P f.type=some c∧flatFs P fs (n + 1)=some cs∧ks=c :: cs:=by
 unfold flatFs at h
 split at h
 ·rename_i hn
  simp only [Bool.and_eq_true] at hn
  split at h
  ·rename_i c cs h1 h2
   injection h with h
   exact ⟨by simpa using hn.1,Nat.eq_of_beq_eq_true hn.2,c,cs,h1,h2,h.symm⟩
  ·cases h
 ·cases h
theorem get_drop {α:Type} {l:List α} {n:Nat} {x:α} {r:List α} (h:l.drop n=x :: r):l[n]? = some x∧l.drop (n + 1)=r:=by
 refine ⟨?_,?_⟩
 ·have:=List.getElem?_drop (xs:=l) (i:=n) (j:=0)
  rw [h] at this
  simpa using this.symm
 ·rw [← List.tail_drop,h];rfl
theorem eqs_fields:∀ {fs:List Field} {n:Nat} {ks:List Nat} {l r:List AV} {κ:Bool→R},flatFs P fs n=some ks→eqTs ks (l.drop n) (r.drop n) κ=true→
  ∃ c,(∀ κ',eqTs ks (l.drop n) (r.drop n) κ' = κ' c)∧(c=true→∀ θ,Oks θ l→Oks θ r→(l.drop n).length=(r.drop n).length∧∀ m,((toVs θ (r.drop n)).zip (toVs θ (l.drop n))).all (fun q=>Instr.sameBits m q.1 q.2)=true)∧
   ∀ θ,Oks θ l→Oks θ r→∀ d w,(Op.eqFields (d + 1) (toVs θ l).toArray (toVs θ r).toArray fs).run P w = .ok c w
 | [],n,ks,l,r,κ,h,e=>by
  cases h
  obtain ⟨h1,h2⟩:=eqTs_nil e
  refine ⟨true,fun κ'=>by rw [h1,h2];rfl,fun _ θ _ _=>⟨by rw [h1,h2],fun m=>by rw [h1,h2];rfl⟩,fun θ _ _ d w=>rfl⟩
 | f :: fs,n,ks,l,r,κ,h,e=>by
  obtain ⟨hn,hoff,c,cs,hc,hcs,rfl⟩:=flatFs_some h
  obtain ⟨x,l',y,r',hx,hy,e1⟩:=eqTs_cons e
  obtain ⟨q,k1,_,_,k2⟩:=cell_eq hc e1
  obtain ⟨hx1,hx2⟩:=get_drop hx
  obtain ⟨hy1,hy2⟩:=get_drop hy
  have step:∀ κ',eqTs (c :: cs) (l.drop n) (r.drop n) κ' = eqK c x y (fun q=>br q (eqTs cs l' r' κ') (κ' false)):=fun κ'=>by rw [hx,hy];rfl
  have fx:∀ θ,Oks θ l→VR θ x (toV θ x):=fun θ h=>⟨Oks_iff.1 h x (List.mem_of_getElem? hx1),rfl⟩
  have fy:∀ θ,Oks θ r→VR θ y (toV θ y):=fun θ h=>⟨Oks_iff.1 h y (List.mem_of_getElem? hy1),rfl⟩
  have run:∀ θ,Oks θ l→Oks θ r→∀ d w,(Op.eqFields (d + 1) (toVs θ l).toArray (toVs θ r).toArray (f :: fs)).run P w =
    if q then (Op.eqFields (d + 1) (toVs θ l).toArray (toVs θ r).toArray fs).run P w else .ok false w:=by
   intro θ h1 h2 d w
   have hp1:=part_cell hc (cs:=(toVs θ l).toArray) (i:=n) (v:=toV θ x) (by simp [toVs_get,hx1]) w
   have hp2:=part_cell hc (cs:=(toVs θ r).toArray) (i:=n) (v:=toV θ y) (by simp [toVs_get,hy1]) w
   have heq:=(k2 θ _ _ (fx θ h1) (fy θ h2)).1 d w
   rw [Op.eqFields]
   rw [if_pos hn,hoff]
   simp only [Sem.run_bind,hp1,hp2,heq,Result.andThen]
   cases q<;>simp
  cases q with
  | false=>
   refine ⟨false,fun κ'=>by rw [step,k1];rfl,(fun h=>nomatch h),fun θ h1 h2 d w=>by rw [run θ h1 h2];rfl⟩
  | true=>
   rw [k1] at e1
   have e2:eqTs cs (l.drop (n + 1)) (r.drop (n + 1)) κ=true:=by rw [hx2,hy2];exact e1
   obtain ⟨c2,j1,j2,j3⟩:=eqs_fields hcs e2
   refine ⟨c2,fun κ'=>?_,fun hc2 θ h1 h2=>?_,fun θ h1 h2 d w=>?_⟩
   ·rw [step,k1]
    show eqTs cs l' r' κ' = _
    rw [← hx2,← hy2];exact j1 κ'
   ·obtain ⟨i1,i2⟩:=j2 hc2 θ h1 h2
    rw [hx,hy,← hx2,← hy2]
    refine ⟨by simp only [List.length_cons,i1],fun m=>?_⟩
    simp only [toVs,List.zip_cons_cons,List.all_cons,i2 m,Bool.and_true]
    exact (k2 θ _ _ (fx θ h1) (fy θ h2)).2.1 rfl m
   ·rw [run θ h1 h2]
    exact j3 θ h1 h2 d w
def eqArr (P:Program) (d:Nat) (t:TypeId) (xs ys:Array Value):Nat→Nat→Sem Bool
 | 0,_=>pure true
 | n + 1,i=>do
  let a ← part t xs i
  let b ← part t ys i
  let r ← Op.equalIn d t a b
  if (!r)=true then pure false else eqArr P d t xs ys n (i + 1)
theorem run_equalIn_arr {t el:TypeId} {len:Nat} (hu:P.underlying t=some (.array len el)) (hs:sizeT P el=some 1) (d:Nat) (xs ys:Array Value) (w:World) :
  (Op.equalIn (d + 1) t (.agg xs) (.agg ys)).run P w=(eqArr P d el xs ys len 0).run P w:=by
 simp only [Op.equalIn,Sem.run_bind,run_underlying hu,Result.andThen_ok,run_size hs,Nat.mul_one,Std.Legacy.Range.forIn_eq_forIn_range',Std.Legacy.Range.size,Nat.sub_zero,Nat.add_one_sub_one,Nat.div_one]
 have key:∀ (n i:Nat) (w:World),((forIn (m:=Sem) (List.range' i n) ((none,()):Option Bool × Unit) fun i _=>do
    let a ← part el xs i
    let b ← part el ys i
    let r ← Op.equalIn d el a b
    if (!r)=true then pure (ForInStep.done (some false,())) else pure (ForInStep.yield (none,()))).run P w).andThen (fun a w'=>(match a.fst with | some b=>(pure b:Sem Bool) | none=>pure true).run P w')=(eqArr P d el xs ys n i).run P w:=by
  intro n
  induction n with
  | zero=>intro i w;simp [eqArr]
  | succ n ih=>
   intro i w
   rw [List.range'_succ,List.forIn_cons,eqArr]
   simp only [Sem.run_bind]
   generalize (part el xs i).run P w=r1
   cases r1 with
   | ok a w1=>
    simp only [Result.andThen_ok]
    generalize (part el ys i).run P w1=r2
    cases r2 with
    | ok b w2=>
     simp only [Result.andThen_ok]
     generalize (Op.equalIn d el a b).run P w2=r3
     cases r3 with
     | ok r w3=>
      cases r
      ·simp
      ·simp only [Result.andThen_ok,Bool.not_true,Bool.false_eq_true,if_false,Sem.run_pure]
       exact ih (i + 1) w3
     | halt x w3=>simp [Result.andThen]
    | halt x w2=>simp [Result.andThen]
   | halt x w1=>simp [Result.andThen]
 refine Eq.trans (congrArg (Result.andThen _) (funext fun a=>funext fun w'=>?_)) (key len 0 w)
 obtain ⟨a,b⟩:=a
 cases a<;>rfl
theorem eqs_arr {el:TypeId} {c:Nat} (hc:flatC P el=some c):∀ {k n:Nat} {l r:List AV} {κ:Bool→R},eqTs (List.replicate k c) (l.drop n) (r.drop n) κ=true→
  ∃ b,(∀ κ',eqTs (List.replicate k c) (l.drop n) (r.drop n) κ' = κ' b)∧(b=true→∀ θ,Oks θ l→Oks θ r→(l.drop n).length=(r.drop n).length∧∀ m,((toVs θ (r.drop n)).zip (toVs θ (l.drop n))).all (fun q=>Instr.sameBits m q.1 q.2)=true)∧
   ∀ θ,Oks θ l→Oks θ r→∀ d w,(eqArr P (d + 1) el (toVs θ l).toArray (toVs θ r).toArray k n).run P w = .ok b w
 | 0,n,l,r,κ,e=>by
  obtain ⟨h1,h2⟩:=eqTs_nil e
  refine ⟨true,fun κ'=>by rw [h1,h2];rfl,fun _ θ _ _=>⟨by rw [h1,h2],fun m=>by rw [h1,h2];rfl⟩,fun θ _ _ d w=>rfl⟩
 | k + 1,n,l,r,κ,e=>by
  rw [List.replicate_succ] at e ⊢
  obtain ⟨x,l',y,r',hx,hy,e1⟩:=eqTs_cons e
  obtain ⟨q,k1,_,_,k2⟩:=cell_eq hc e1
  obtain ⟨hx1,hx2⟩:=get_drop hx
  obtain ⟨hy1,hy2⟩:=get_drop hy
  have step:∀ κ',eqTs (c :: List.replicate k c) (l.drop n) (r.drop n) κ' = eqK c x y (fun q=>br q (eqTs (List.replicate k c) l' r' κ') (κ' false)):=fun κ'=>by rw [hx,hy];rfl
  have fx:∀ θ,Oks θ l→VR θ x (toV θ x):=fun θ h=>⟨Oks_iff.1 h x (List.mem_of_getElem? hx1),rfl⟩
  have fy:∀ θ,Oks θ r→VR θ y (toV θ y):=fun θ h=>⟨Oks_iff.1 h y (List.mem_of_getElem? hy1),rfl⟩
  have run:∀ θ,Oks θ l→Oks θ r→∀ d w,(eqArr P (d + 1) el (toVs θ l).toArray (toVs θ r).toArray (k + 1) n).run P w =
    if q then (eqArr P (d + 1) el (toVs θ l).toArray (toVs θ r).toArray k (n + 1)).run P w else .ok false w:=by
   intro θ h1 h2 d w
   have hp1:=part_cell hc (cs:=(toVs θ l).toArray) (i:=n) (v:=toV θ x) (by simp [toVs_get,hx1]) w
   have hp2:=part_cell hc (cs:=(toVs θ r).toArray) (i:=n) (v:=toV θ y) (by simp [toVs_get,hy1]) w
   have heq:=(k2 θ _ _ (fx θ h1) (fy θ h2)).1 d w
   rw [eqArr]
   simp only [Sem.run_bind,hp1,hp2,heq,Result.andThen]
   cases q<;>simp
  cases q with
  | false=>
   refine ⟨false,fun κ'=>by rw [step,k1];rfl,(fun h=>nomatch h),fun θ h1 h2 d w=>by rw [run θ h1 h2];rfl⟩
  | true=>
   rw [k1] at e1
   have e2:eqTs (List.replicate k c) (l.drop (n + 1)) (r.drop (n + 1)) κ=true:=by rw [hx2,hy2];exact e1
   obtain ⟨c2,j1,j2,j3⟩:=eqs_arr hc e2
   refine ⟨c2,fun κ'=>?_,fun hc2 θ h1 h2=>?_,fun θ h1 h2 d w=>?_⟩
   ·rw [step,k1]
    show eqTs (List.replicate k c) l' r' κ' = _
    rw [← hx2,← hy2];exact j1 κ'
   ·obtain ⟨i1,i2⟩:=j2 hc2 θ h1 h2
    rw [hx,hy,← hx2,← hy2]
    refine ⟨by simp only [List.length_cons,i1],fun m=>?_⟩
    simp only [toVs,List.zip_cons_cons,List.all_cons,i2 m,Bool.and_true]
    exact (k2 θ _ _ (fx θ h1) (fy θ h2)).2.1 rfl m
   ·rw [run θ h1 h2]
    exact j3 θ h1 h2 d w
theorem check_fields:∀ {fs:List Field} {n:Nat} {ks:List Nat} {l:List AV},flatFs P fs n=some ks→n + ks.length≤l.length→(∀ v ∈ l,one v=true)→∀ θ,Oks θ l→∀ (em:Bool) (d:Nat) (w:World),
  ((forIn (m:=Sem) fs PUnit.unit fun f r=>if f.name ≠ "_" then do Instr.checkKey em (d + 1) f.type (← part f.type (toVs θ l).toArray f.offset);pure (ForInStep.yield PUnit.unit) else do pure PUnit.unit;pure (ForInStep.yield PUnit.unit))).run P w = .ok PUnit.unit w:=by
 intro fs
 induction fs with
 | nil=>intro n ks l h hl h1 θ ho em d w;rfl
 | cons f fs ih=>
  intro n ks l h hl h1 θ ho em d w
  obtain ⟨hn,hoff,c,cs,hc,hcs,rfl⟩:=flatFs_some h
  simp only [List.length_cons] at hl
  have hx:l[n]? = some (l[n]'(by omega)):=List.getElem?_eq_getElem (by omega)
  have hp1:=part_cell hc (cs:=(toVs θ l).toArray) (i:=n) (v:=toV θ (l[n]'(by omega))) (by simp [toVs_get,hx]) w
  obtain ⟨dd,hd,hk⟩:=flatC_some hc
  have hck:∀ v,(Instr.checkKey em (d + 1) f.type v).run P w = .ok () w:=fun v=>by
   rcases hk with ⟨k,rfl,_⟩ | ⟨rfl,_⟩ | ⟨rfl,_⟩<;>simp [Instr.checkKey,run_underlying hd]
  rw [List.forIn_cons,if_pos hn,hoff]
  simp only [Sem.run_bind,hp1,Result.andThen,hck,Sem.run_pure]
  exact ih hcs (by omega) h1 θ ho em d w
theorem eqTs_len:∀ {ks:List Nat} {a b:List AV} {κ:R},eqTs ks a b (fun c=>br c κ false)=true→a.length=ks.length∧κ=true
 | [],a,b,κ,e=>by
  obtain ⟨h1,h2⟩:=eqTs_nil e
  subst h1 h2
  exact ⟨rfl,e⟩
 | c :: ks,a,b,κ,e=>by
  obtain ⟨x,r,y,s,rfl,rfl,e1⟩:=eqTs_cons e
  obtain ⟨q,k1,_⟩:=eqK_true e1
  rw [k1] at e1
  cases q with
  | false=>cases e1
  | true=>
   obtain ⟨h1,h2⟩:=eqTs_len (show eqTs ks r s _=true from e1)
   exact ⟨by simp [h1],h2⟩
theorem eqTs_refl_go:∀ {ks:List Nat} {a:List AV} {κ:R},eqTs ks a a (fun c=>br c κ false)=true→∀ κ',eqTs ks a a (fun c=>br c κ' false)=κ'
 | [],a,κ,e,κ'=>by rw [(eqTs_nil e).1];rfl
 | c :: ks,a,κ,e,κ'=>by
  obtain ⟨x,r,y,s,h1,h2,e1⟩:=eqTs_cons e
  rw [h1] at h2
  injection h2 with h2 h3
  subst h2 h3
  obtain ⟨q,k1,_⟩:=eqK_true e1
  rw [k1] at e1
  cases q with
  | false=>cases e1
  | true=>
   have:=eqTs_refl_go (show eqTs ks r r _=true from e1) κ'
   rw [h1]
   show eqK c x x _=_
   rw [k1];exact this
theorem flatT_some {t:TypeId} {g:Bool} {ks:List Nat} (h:flatT P t=some (g,ks)) :
  (g=false∧∃ c,ks=[c]∧flatC P t=some c)∨
  (g=true∧P.eqGuardType P.depth t=false∧((∃ fs,P.underlying t=some (.struct fs)∧P.stoodInHeld t=false∧flatFs P fs.toList 0=some ks)∨
    (∃ n el c,P.underlying t=some (.array n el)∧sizeT P el=some 1∧flatC P el=some c∧ks=List.replicate n c))):=by
 unfold flatT at h
 split at h
 ·rename_i fs hu
  by_cases h1:P.stoodInHeld t=true
  ·rw [if_pos h1] at h;cases h
  rw [if_neg h1] at h
  by_cases h2:P.eqGuardType P.depth t=true
  ·rw [if_pos h2] at h;cases h
  rw [if_neg h2] at h
  obtain ⟨ks',k1,k2⟩:=Option.map_eq_some_iff.1 h
  injection k2 with k2 k3
  subst k2 k3
  exact .inr ⟨rfl,by simpa using h2,.inl ⟨fs,hu,by simpa using h1,k1⟩⟩
 ·rename_i n el hu
  by_cases h2:P.eqGuardType P.depth t=true
  ·rw [if_pos h2] at h;cases h
  rw [if_neg h2] at h
  by_cases h3:sizeT P el=some 1
  ·rw [if_pos h3] at h
   obtain ⟨c,k1,k2⟩:=Option.map_eq_some_iff.1 h
   injection k2 with k2 k3
   subst k2 k3
   exact .inr ⟨rfl,by simpa using h2,.inr ⟨n,el,c,hu,h3,k1,rfl⟩⟩
  ·rw [if_neg h3] at h;cases h
 ·obtain ⟨c,h1,h2⟩:=Option.map_eq_some_iff.1 h
  injection h2 with h2 h3
  subst h2 h3
  exact .inl ⟨rfl,c,rfl,h1⟩
theorem laDif_true:∀ {ks:List Nat} {a b:List AV} {κ:Nat→R},laDif ks a b κ=true→∃ D,(∀ κ',laDif ks a b κ' = κ' D)∧κ D=true∧∀ θ,Oks θ a→Oks θ b→Lim (2 ^ 64) D∧
  ∃ a' b',toVs θ a' = toVs θ a∧toVs θ b' = toVs θ b∧Oks θ a'∧Oks θ b'∧∀ κ'':Bool→R,eqTs ks a' b' κ'' = κ'' (ln θ.lane D == 0)
 | [],[],[],κ,e=>⟨0,fun _=>rfl,e,fun θ _ _=>⟨lim_nought,[],[],rfl,rfl,trivial,trivial,fun κ''=>by rw [ln_nought];rfl⟩⟩
 | [],_ :: _,_,κ,e=>by cases e
 | [],[],_ :: _,κ,e=>by cases e
 | c :: ks,a,b,κ,e=>by
  have e:br (Nat.blt c 8) (@List.rec AV (fun _=>R) false (fun x r _=>@List.rec AV (fun _=>R) false (fun y s _=>lnK c x fun A=>lnK c y fun B=>laDif ks r s fun D=>fnat (Nat.lor D (Nat.xor A B)) κ) b) a) false=true:=e
  obtain ⟨hc,e⟩:=br_t e
  cases a with
  | nil=>cases e
  | cons x r=>
   cases b with
   | nil=>cases e
   | cons y s=>
    have step:∀ κ',laDif (c :: ks) (x :: r) (y :: s) κ' = br (Nat.blt c 8) (lnK c x fun A=>lnK c y fun B=>laDif ks r s fun D=>fnat (Nat.lor D (Nat.xor A B)) κ') false:=fun _=>rfl
    have e:lnK c x (fun A=>lnK c y fun B=>laDif ks r s fun D=>fnat (Nat.lor D (Nat.xor A B)) κ)=true:=e
    obtain ⟨A,a1,e,_,_,a4⟩:=lnK_true e
    obtain ⟨B,b1,e,_,_,b4⟩:=lnK_true e
    obtain ⟨D,d1,e,d3⟩:=laDif_true e
    rw [fnat_eq,lor_is,xor_is] at e
    refine ⟨D ||| (A ^^^ B),fun κ'=>by rw [step,hc,br_tt,a1,b1,d1,fnat_eq,lor_is,xor_is],e,fun θ ha hb=>?_⟩
    obtain ⟨la,ua⟩:=a4 θ _ ⟨ha.1,rfl⟩
    obtain ⟨lb,ub⟩:=b4 θ _ ⟨hb.1,rfl⟩
    obtain ⟨lD,a',b',q1,q2,q3,q4,q5⟩:=d3 θ ha.2 hb.2
    have lx:=lim_xor (b:=64) la.all64 lb.all64
    refine ⟨fun i hi=>by rw [ln_or];exact Nat.or_lt_two_pow (lD i hi) (lx i hi),.i c (ln θ.lane A:Nat) :: a',.i c (ln θ.lane B:Nat) :: b',?_,?_,⟨trivial,q3⟩,⟨trivial,q4⟩,fun κ''=>?_⟩
    ·simp only [toVs,q1,toV,ua]
    ·simp only [toVs,q2,toV,ub]
    ·have st:eqTs (c :: ks) (.i c (ln θ.lane A:Nat) :: a') (.i c (ln θ.lane B:Nat) :: b') κ'' = br (Nat.blt c 8) (asK c (fun m=>asK c (fun n=>cmEq m n fun q=>br q (eqTs ks a' b' κ'') (κ'' false)) (.i c (ln θ.lane B:Nat))) (.i c (ln θ.lane A:Nat)))
       (br (Nat.beq c 8) (asSQ (.i c (ln θ.lane A:Nat)) (.i c (ln θ.lane B:Nat)) fun q=>br q (eqTs ks a' b' κ'') (κ'' false)) (asB (fun m=>asB (fun n=>(fun q=>br q (eqTs ks a' b' κ'') (κ'' false)) (eqB m n)) (.i c (ln θ.lane B:Nat))) (.i c (ln θ.lane A:Nat)))):=rfl
     rw [st,hc,br_tt,asK_i,asK_i,cmEq_eq,q5,ln_or,ln_xor]
     by_cases hab:ln θ.lane A=ln θ.lane B
     ·rw [hab,Nat.xor_self,Nat.or_zero,show ((((ln θ.lane B:Nat):Int)) == ((ln θ.lane B:Nat):Int))=true by simp,br_tt]
     ·have h1:((((ln θ.lane A:Nat):Int)) == ((ln θ.lane B:Nat):Int))=false:=by
       have:¬ ((ln θ.lane A:Nat):Int)=((ln θ.lane B:Nat):Int):=by omega
       exact beq_false_of_ne this
      have h2:((ln θ.lane D ||| (ln θ.lane A ^^^ ln θ.lane B)) == 0)=false:=by
       refine beq_false_of_ne fun h0=>hab ?_
       have h3:ln θ.lane A ^^^ ln θ.lane B=0:=by
        have:=@Nat.right_le_or (ln θ.lane D) (ln θ.lane A ^^^ ln θ.lane B)
        omega
       have h4:(ln θ.lane A ^^^ ln θ.lane B) ^^^ ln θ.lane B=0 ^^^ ln θ.lane B:=by rw [h3]
       rwa [Nat.xor_assoc,Nat.xor_self,Nat.xor_zero,Nat.zero_xor] at h4
      rw [h1,h2,br_ff]
theorem laQ_true {ks:List Nat} {a b:List AV} {κ:Bool→R} (e:laQ ks a b κ=true):∃ c,(∀ κ',laQ ks a b κ' = κ' c)∧∀ θ,Oks θ a→Oks θ b→
  ∃ a' b',toVs θ a' = toVs θ a∧toVs θ b' = toVs θ b∧Oks θ a'∧Oks θ b'∧∀ κ'':Bool→R,eqTs ks a' b' κ'' = κ'' c:=by
 unfold laQ at e
 obtain ⟨D,d1,e,d3⟩:=laDif_true e
 rcases br_true e with ⟨h1,e1⟩ | ⟨h1,e1⟩
 ·refine ⟨true,fun κ'=>by unfold laQ;rw [d1,h1,br_tt],fun θ ha hb=>?_⟩
  obtain ⟨_,a',b',q1,q2,q3,q4,q5⟩:=d3 θ ha hb
  refine ⟨a',b',q1,q2,q3,q4,fun κ''=>?_⟩
  have h0:=Nat.eq_of_beq_eq_true h1
  rw [q5,h0,ln_nought];rfl
 ·obtain ⟨h2,e2⟩:=br_t e1
  refine ⟨false,fun κ'=>by unfold laQ;rw [d1,h1,br_ff,h2,br_tt],fun θ ha hb=>?_⟩
  obtain ⟨lD,a',b',q1,q2,q3,q4,q5⟩:=d3 θ ha hb
  refine ⟨a',b',q1,q2,q3,q4,fun κ''=>?_⟩
  have hl:=ln_ltm θ.lane_lt lim_nought lD
  rw [@Nat.eq_of_beq_eq_true (ltm 0 D) LO h2,ln_ones θ.lane_lt,ln_nought] at hl
  have:¬ ln θ.lane D=0:=by
   intro h0
   rw [h0] at hl
   simp at hl
  rw [q5,beq_false_of_ne this]
theorem eqT_ok {t:TypeId} {g:Bool} {ks:List Nat} (h:flatT P t=some (g,ks)) {x y:AV} {κ:Bool→R} (e:eqT g ks x y κ=true) :
  ∃ c,(∀ κ',eqT g ks x y κ' = κ' c)∧∀ θ u v,VR θ x u→VR θ y v→(∀ w,(Op.equal t u v).run P w = .ok c w)∧(c=true→Instr.sameBits 10000 v u=true)∧
   (∀ op X Y w,(eqGuard op t X Y u v).run P w = .ok () w)∧∀ d,P.underlying t=some d→Instr.sameNow d u v=(if g then none else some c):=by
 rcases flatT_some h with ⟨rfl,c,rfl,hc⟩ | ⟨rfl,hguard,hrest⟩
 ·obtain ⟨r,k1,_,_,k2⟩:=cell_eq hc (show eqK c x y κ=true from e)
  refine ⟨r,k1,fun θ u v hu hv=>?_⟩
  obtain ⟨j1,j2,j3,j4,j5⟩:=k2 θ u v hu hv
  exact ⟨fun w=>j1 9999 w,fun hr=>j2 hr _,j5,fun d hd=>j3 d hd⟩
 ·obtain ⟨a,rfl,e1⟩:=asAg_true (show asAg (fun a=>asAg (fun b=>br (or' (anyL a) (anyL b)) (laQ ks a b κ) (eqTs ks a b κ)) y) x=true from e)
  obtain ⟨b,rfl,e2⟩:=asAg_true e1
  have fin:∀ c,(∀ κ',eqT true ks (.ag a) (.ag b) κ' = κ' c)→(c=true→∀ θ,Oks θ a→Oks θ b→a.length=b.length∧∀ m,((toVs θ b).zip (toVs θ a)).all (fun q=>Instr.sameBits m q.1 q.2)=true)→
    (∀ θ,Oks θ a→Oks θ b→∀ w,(Op.equal t (.agg (toVs θ a).toArray) (.agg (toVs θ b).toArray)).run P w = .ok c w)→
    (∀ d u v,P.underlying t=some d→Instr.sameNow d (.agg u) (.agg v)=none)→
    ∃ c,(∀ κ',eqT true ks (.ag a) (.ag b) κ' = κ' c)∧∀ θ u v,VR θ (.ag a) u→VR θ (.ag b) v→(∀ w,(Op.equal t u v).run P w = .ok c w)∧(c=true→Instr.sameBits 10000 v u=true)∧
     (∀ op X Y w,(eqGuard op t X Y u v).run P w = .ok () w)∧∀ d,P.underlying t=some d→Instr.sameNow d u v=(if true then none else some c):=by
   intro c h1 h2 h3 h4
   refine ⟨c,h1,fun θ u v hu hv=>?_⟩
   obtain ⟨hu,ha,_⟩:=hu.ag
   obtain ⟨hv,hb,_⟩:=hv.ag
   subst hu hv
   refine ⟨h3 θ ha hb,fun hc=>?_,fun op X Y w=>run_eqGuard_agg w op t X Y _ _ hguard,fun d hd=>h4 d _ _ hd⟩
   obtain ⟨q1,q2⟩:=h2 hc θ ha hb
   show (_ == _ && _)=true
   simp only [List.size_toArray,toVs_length,q1,BEq.rfl,Bool.true_and]
   exact q2 9999
  have tell:∀ (a b:List AV) (κ:Bool→R),eqTs ks a b κ=true→∃ c,(∀ κ',eqTs ks a b κ' = κ' c)∧(c=true→∀ θ,Oks θ a→Oks θ b→a.length=b.length∧∀ m,((toVs θ b).zip (toVs θ a)).all (fun q=>Instr.sameBits m q.1 q.2)=true)∧
    (∀ θ,Oks θ a→Oks θ b→∀ w,(Op.equal t (.agg (toVs θ a).toArray) (.agg (toVs θ b).toArray)).run P w = .ok c w):=by
   intro a b κ e2
   rcases hrest with ⟨fs,hu,hst,hks⟩ | ⟨n,el,c,hu,hs,hc,rfl⟩
   ·have e3:eqTs ks (a.drop 0) (b.drop 0) κ=true:=e2
    obtain ⟨c,k1,k2,k3⟩:=eqs_fields hks e3
    refine ⟨c,k1,k2,fun θ ha hb w=>?_⟩
    have hf:P.fieldsOf t=fs:=by unfold Program.fieldsOf;rw [hu]
    have:=run_equalIn_struct (P:=P) w 9999 t (toVs θ a).toArray (toVs θ b).toArray (by rw [hf];exact hu) hst
    rw [hf,k3 θ ha hb 9998 w] at this
    exact this
   ·have e3:eqTs (List.replicate n c) (a.drop 0) (b.drop 0) κ=true:=e2
    obtain ⟨r,k1,k2,k3⟩:=eqs_arr hc e3
    refine ⟨r,k1,k2,fun θ ha hb w=>?_⟩
    have:=run_equalIn_arr hu hs 9999 (toVs θ a).toArray (toVs θ b).toArray w
    rw [k3 θ ha hb 9998 w] at this
    exact this
  have now:∀ (d:TypeDesc) (u v:Array Value),P.underlying t=some d→Instr.sameNow d (.agg u) (.agg v)=none:=by
   intro d u v hd
   rcases hrest with ⟨fs,hu,_,_⟩ | ⟨n,el,c,hu,_,_,_⟩<;>(rw [hu] at hd;injection hd with hd;subst hd;rfl)
  have hdef:∀ κ':Bool→R,eqT true ks (.ag a) (.ag b) κ' = br (or' (anyL a) (anyL b)) (laQ ks a b κ') (eqTs ks a b κ'):=fun _=>rfl
  rcases br_true e2 with ⟨hl,e3⟩ | ⟨hl,e3⟩
  ·obtain ⟨c,c1,c2⟩:=laQ_true e3
   refine fin c (fun κ'=>by rw [hdef,hl,br_tt,c1]) (fun hc θ ha hb=>?_) (fun θ ha hb w=>?_) now
   ·obtain ⟨a',b',q1,q2,q3,q4,q5⟩:=c2 θ ha hb
    obtain ⟨r,r1,r2,_⟩:=tell a' b' (fun _=>true) (q5 _)
    have hrc:r=c:=by
     have h1:=r1 (fun q=>q)
     have h2:=q5 (fun q=>q)
     exact h1.symm.trans h2
    obtain ⟨l1,l2⟩:=r2 (hrc.trans hc) θ q3 q4
    have la:=congrArg List.length q1
    have lb:=congrArg List.length q2
    simp only [toVs_length] at la lb
    exact ⟨by omega,fun m=>by rw [← q1,← q2];exact l2 m⟩
   ·obtain ⟨a',b',q1,q2,q3,q4,q5⟩:=c2 θ ha hb
    obtain ⟨r,r1,_,r3⟩:=tell a' b' (fun _=>true) (q5 _)
    have hrc:r=c:=by
     have h1:=r1 (fun q=>q)
     have h2:=q5 (fun q=>q)
     exact h1.symm.trans h2
    rw [← q1,← q2,← hrc]
    exact r3 θ q3 q4 w
  ·obtain ⟨c,k1,k2,k3⟩:=tell a b κ e3
   exact fin c (fun κ'=>by rw [hdef,hl,br_ff,k1]) k2 k3 now
def EqOk (P:Program) (t:TypeId) (g:Bool) (ks:List Nat):Prop:=∀ {x y:AV} {κ:Bool→R},eqT g ks x y κ=true→∃ c,(∀ κ',eqT g ks x y κ' = κ' c)∧∀ θ u v,VR θ x u→VR θ y v→
 (∀ w,(Op.equal t u v).run P w = .ok c w)∧∀ op X Y w,(eqGuard op t X Y u v).run P w = .ok () w
theorem eqOk_flat {t:TypeId} {g:Bool} {ks:List Nat} (h:flatT P t=some (g,ks)):EqOk P t g ks:=fun e=>
 let ⟨c,h1,h2⟩:=eqT_ok h e
 ⟨c,h1,fun θ u v hu hv=>let ⟨a,_,b,_⟩:=h2 θ u v hu hv;⟨a,b⟩⟩
theorem eqTs_app:∀ (k1 k2:List Nat) (a b:List AV) (κ:Bool→R),eqTs (k1 ++ k2) a b κ=eqTs k1 (a.take k1.length) (b.take k1.length) (fun q=>br q (eqTs k2 (a.drop k1.length) (b.drop k1.length) κ) (κ false))
 | [],k2,a,b,κ=>rfl
 | c :: k1,k2,[],b,κ=>rfl
 | c :: k1,k2,x :: a,[],κ=>rfl
 | c :: k1,k2,x :: a,y :: b,κ=>by
  show eqK c x y (fun q=>br q (eqTs (k1 ++ k2) a b κ) (κ false))=eqK c x y (fun q=>br q (eqTs k1 (a.take k1.length) (b.take k1.length) (fun q=>br q (eqTs k2 (a.drop k1.length) (b.drop k1.length) κ) (κ false))) (br false _ (κ false)))
  congr 1
  funext q
  rw [eqTs_app k1 k2 a b κ]
  cases q<;>rfl
theorem part_agg {t:TypeId} {gs:Array Field} {m:Nat} (hu:P.underlying t=some (.struct gs)) (hm:sizeT P t=some m) (θ:Th) (l:List AV) (n:Nat) (w:World) :
  (part t (toVs θ l).toArray n).run P w = .ok (.agg (toVs θ ((l.drop n).take m)).toArray) w:=by
 have hag:(isAgg t).run P w = .ok true w:=by
  simp only [isAgg,Sem.run_bind,run_underlying hu,Result.andThen]
  rfl
 simp only [part,Sem.run_bind,hag,Result.andThen,if_true,run_size hm,Sem.run_pure]
 congr 2
 apply Array.ext'
 simp [toVs_map,List.extract_eq_take_drop,List.map_take,List.map_drop]
theorem eqs_fields2:∀ {fs:List Field} {n:Nat} {ks:List Nat} {l r:List AV} {κ:Bool→R},flatF2 P fs n=some ks→eqTs ks (l.drop n) (r.drop n) κ=true→
  ∃ c,(∀ κ',eqTs ks (l.drop n) (r.drop n) κ' = κ' c)∧∀ θ,Oks θ l→Oks θ r→∀ d w,(Op.eqFields (d + 2) (toVs θ l).toArray (toVs θ r).toArray fs).run P w = .ok c w
 | [],n,ks,l,r,κ,h,e=>by
  cases h
  obtain ⟨h1,h2⟩:=eqTs_nil e
  exact ⟨true,fun κ'=>by rw [h1,h2];rfl,fun θ _ _ d w=>rfl⟩
 | f :: fs,n,ks,l,r,κ,h,e=>by
  unfold flatF2 at h
  split at h
  rotate_left
  ·cases h
  rename_i hn
  simp only [Bool.and_eq_true] at hn
  have hname:f.name ≠ "_" := by simpa using hn.1
  have hoff:f.offset=n:=Nat.eq_of_beq_eq_true hn.2
  split at h
  ·
   rename_i c hc
   obtain ⟨cs,hcs,rfl⟩:=Option.map_eq_some_iff.1 h
   obtain ⟨x,l',y,r',hx,hy,e1⟩:=eqTs_cons e
   obtain ⟨q,k1,_,_,k2⟩:=cell_eq hc e1
   obtain ⟨hx1,hx2⟩:=get_drop hx
   obtain ⟨hy1,hy2⟩:=get_drop hy
   have step:∀ κ',eqTs (c :: cs) (l.drop n) (r.drop n) κ' = eqK c x y (fun q=>br q (eqTs cs l' r' κ') (κ' false)):=fun κ'=>by rw [hx,hy];rfl
   have fx:∀ θ,Oks θ l→VR θ x (toV θ x):=fun θ h=>⟨Oks_iff.1 h x (List.mem_of_getElem? hx1),rfl⟩
   have fy:∀ θ,Oks θ r→VR θ y (toV θ y):=fun θ h=>⟨Oks_iff.1 h y (List.mem_of_getElem? hy1),rfl⟩
   have run:∀ θ,Oks θ l→Oks θ r→∀ d w,(Op.eqFields (d + 2) (toVs θ l).toArray (toVs θ r).toArray (f :: fs)).run P w =
     if q then (Op.eqFields (d + 2) (toVs θ l).toArray (toVs θ r).toArray fs).run P w else .ok false w:=by
    intro θ h1 h2 d w
    have hp1:=part_cell hc (cs:=(toVs θ l).toArray) (i:=n) (v:=toV θ x) (by simp [toVs_get,hx1]) w
    have hp2:=part_cell hc (cs:=(toVs θ r).toArray) (i:=n) (v:=toV θ y) (by simp [toVs_get,hy1]) w
    have heq:=(k2 θ _ _ (fx θ h1) (fy θ h2)).1 (d + 1) w
    rw [Op.eqFields]
    rw [if_pos hname,hoff]
    simp only [Sem.run_bind,hp1,hp2,heq,Result.andThen]
    cases q<;>simp
   cases q with
   | false=>exact ⟨false,fun κ'=>by rw [step,k1];rfl,fun θ h1 h2 d w=>by rw [run θ h1 h2];rfl⟩
   | true=>
    rw [k1] at e1
    have e2:eqTs cs (l.drop (n + 1)) (r.drop (n + 1)) κ=true:=by rw [hx2,hy2];exact e1
    obtain ⟨c2,j1,j3⟩:=eqs_fields2 hcs e2
    refine ⟨c2,fun κ'=>?_,fun θ h1 h2 d w=>?_⟩
    ·rw [step,k1]
     show eqTs cs l' r' κ' = _
     rw [← hx2,← hy2];exact j1 κ'
    ·rw [run θ h1 h2]
     exact j3 θ h1 h2 d w
  ·
   split at h
   rotate_left
   ·cases h
   rename_i gs hu
   split at h
   ·cases h
   rename_i hst
   split at h
   rotate_left
   ·cases h
   rename_i k1 m hk hm
   split at h
   rotate_left
   ·cases h
   rename_i hlen
   obtain ⟨cs,hcs,rfl⟩:=Option.map_eq_some_iff.1 h
   rw [eqTs_app,hlen] at e
   have e0:eqTs k1 (((l.drop n).take m).drop 0) (((r.drop n).take m).drop 0) (fun q=>br q (eqTs cs ((l.drop n).drop m) ((r.drop n).drop m) κ) (κ false))=true:=e
   obtain ⟨q,q1,_,q3⟩:=eqs_fields hk e0
   have step:∀ κ',eqTs (k1 ++ cs) (l.drop n) (r.drop n) κ' = br q (eqTs cs (l.drop (n + m)) (r.drop (n + m)) κ') (κ' false):=fun κ'=>by
    rw [eqTs_app,hlen,← List.drop_drop,← List.drop_drop]
    exact q1 _
   have run:∀ θ,Oks θ l→Oks θ r→∀ d w,(Op.eqFields (d + 2) (toVs θ l).toArray (toVs θ r).toArray (f :: fs)).run P w =
     if q then (Op.eqFields (d + 2) (toVs θ l).toArray (toVs θ r).toArray fs).run P w else .ok false w:=by
    intro θ h1 h2 d w
    have hp1:=part_agg hu hm θ l n w
    have hp2:=part_agg hu hm θ r n w
    have hf:P.fieldsOf f.type=gs:=by unfold Program.fieldsOf;rw [hu]
    have heq:=run_equalIn_struct (P:=P) w (d + 1) f.type (toVs θ ((l.drop n).take m)).toArray (toVs θ ((r.drop n).take m)).toArray (by rw [hf];exact hu) (by simpa using hst)
    rw [hf,q3 θ (Oks_take _ (Oks_drop _ h1)) (Oks_take _ (Oks_drop _ h2)) d w] at heq
    rw [Op.eqFields]
    rw [if_pos hname,hoff]
    simp only [Sem.run_bind,hp1,hp2,Result.andThen]
    rw [heq]
    cases q<;>simp
   rw [← hlen,← eqTs_app,step] at e
   cases q with
   | false=>exact ⟨false,fun κ'=>by rw [step];rfl,fun θ h1 h2 d w=>by rw [run θ h1 h2];rfl⟩
   | true=>
    obtain ⟨c2,j1,j3⟩:=eqs_fields2 hcs (show eqTs cs (l.drop (n + m)) (r.drop (n + m)) κ=true from e)
    exact ⟨c2,fun κ'=>by rw [step];exact j1 κ',fun θ h1 h2 d w=>by rw [run θ h1 h2];exact j3 θ h1 h2 d w⟩
theorem eqOk_flat2 {t:TypeId} {ks:List Nat} (h:flatT2 P t=some ks):EqOk P t true ks:=by
 unfold flatT2 at h
 split at h
 ·rename_i ks' h1
  injection h with h;subst h
  exact eqOk_flat h1
 ·cases h
 ·split at h
  rotate_left
  ·cases h
  rename_i fs hu
  split at h
  ·cases h
  rename_i hst
  split at h
  ·cases h
  rename_i hguard
  intro x y κ e
  obtain ⟨a,rfl,e1⟩:=asAg_true (show asAg (fun a=>asAg (fun b=>br (or' (anyL a) (anyL b)) (laQ ks a b κ) (eqTs ks a b κ)) y) x=true from e)
  obtain ⟨b,rfl,e2⟩:=asAg_true e1
  have hdef:∀ κ':Bool→R,eqT true ks (.ag a) (.ag b) κ' = br (or' (anyL a) (anyL b)) (laQ ks a b κ') (eqTs ks a b κ'):=fun _=>rfl
  have tell:∀ (a b:List AV) (κ:Bool→R),eqTs ks a b κ=true→∃ c,(∀ κ',eqTs ks a b κ' = κ' c)∧∀ θ,Oks θ a→Oks θ b→∀ w,(Op.equal t (.agg (toVs θ a).toArray) (.agg (toVs θ b).toArray)).run P w = .ok c w:=by
   intro a b κ e2
   have e3:eqTs ks (a.drop 0) (b.drop 0) κ=true:=e2
   obtain ⟨c,k1,k3⟩:=eqs_fields2 h e3
   refine ⟨c,k1,fun θ ha hb w=>?_⟩
   have hf:P.fieldsOf t=fs:=by unfold Program.fieldsOf;rw [hu]
   have:=run_equalIn_struct (P:=P) w 9999 t (toVs θ a).toArray (toVs θ b).toArray (by rw [hf];exact hu) (by simpa using hst)
   rw [hf,k3 θ ha hb 9997 w] at this
   exact this
  rcases br_true e2 with ⟨hl,e3⟩ | ⟨hl,e3⟩
  ·obtain ⟨c,c1,c2⟩:=laQ_true e3
   refine ⟨c,fun κ'=>by rw [hdef,hl,br_tt,c1],fun θ u v hu' hv'=>?_⟩
   obtain ⟨hu',ha,_⟩:=hu'.ag
   obtain ⟨hv',hb,_⟩:=hv'.ag
   subst hu' hv'
   refine ⟨fun w=>?_,fun op X Y w=>run_eqGuard_agg w op t X Y _ _ (by simpa using hguard)⟩
   obtain ⟨a',b',q1,q2,q3,q4,q5⟩:=c2 θ ha hb
   obtain ⟨r,r1,r3⟩:=tell a' b' (fun _=>true) (q5 _)
   have hrc:r=c:=by
    have h1:=r1 (fun q=>q)
    have h2:=q5 (fun q=>q)
    exact h1.symm.trans h2
   rw [← q1,← q2,← hrc]
   exact r3 θ q3 q4 w
  ·obtain ⟨c,k1,k3⟩:=tell a b κ e3
   refine ⟨c,fun κ'=>by rw [hdef,hl,br_ff,k1],fun θ u v hu' hv'=>?_⟩
   obtain ⟨hu',ha,_⟩:=hu'.ag
   obtain ⟨hv',hb,_⟩:=hv'.ag
   subst hu' hv'
   exact ⟨fun w=>k3 θ ha hb w,fun op X Y w=>run_eqGuard_agg w op t X Y _ _ (by simpa using hguard)⟩
theorem kyT_ok {t:TypeId} {g:Bool} {ks:List Nat} (h:flatT P t=some (g,ks)) {x:AV} {κ:R} (e:kyT g ks x κ=true) :
  κ=true∧(∀ κ',kyT g ks x κ' = κ')∧∀ θ u,VR θ x u→∀ em w,(Instr.checkKey em 10000 t u).run P w = .ok () w:=by
 rcases flatT_some h with ⟨rfl,c,rfl,hc⟩ | ⟨rfl,hguard,hrest⟩
 ·refine ⟨e,fun _=>rfl,fun θ u hu em w=>?_⟩
  obtain ⟨dd,hd,hk⟩:=flatC_some hc
  have key:∀ n:Nat,(Instr.checkKey em (n + 1) t u).run P w = .ok () w:=fun n=>by
   rcases hk with ⟨k,rfl,_⟩ | ⟨rfl,_⟩ | ⟨rfl,_⟩<;>simp [Instr.checkKey,run_underlying hd]
  exact key 9999
 ·obtain ⟨a,rfl,e1⟩:=asAg_true (show asAg (fun a=>eqTs ks a a fun c=>br c κ false) x=true from e)
  obtain ⟨hl,hκ⟩:=eqTs_len e1
  refine ⟨hκ,fun κ'=>eqTs_refl_go e1 κ',fun θ u hu em w=>?_⟩
  obtain ⟨hu,ho,h1⟩:=hu.ag
  subst hu
  have h1:∀ v ∈ a,one v=true:=fun v hv=>List.all_eq_true.1 h1 v hv
  rcases hrest with ⟨fs,hu,hst,hks⟩ | ⟨n,el,c,hu,hs,hc,rfl⟩
  ·have:=check_fields (l:=a) hks (by omega) h1 θ ho em 9998 w
   show (Instr.checkKey em (9999 + 1) t _).run P w=_
   rw [Instr.checkKey]
   simp only [Sem.run_bind,run_underlying hu,Result.andThen_ok]
   rw [← Array.forIn_toList]
   rw [this]
   rfl
  ·show (Instr.checkKey em (9999 + 1) t _).run P w=_
   rw [Instr.checkKey]
   simp only [Sem.run_bind,run_underlying hu,Result.andThen_ok,run_size hs,Nat.mul_one,Std.Legacy.Range.forIn_eq_forIn_range',Std.Legacy.Range.size,Nat.sub_zero,Nat.add_one_sub_one,Nat.div_one]
   rw [List.length_replicate] at hl
   obtain ⟨dd,hd,hk⟩:=flatC_some hc
   have hck:∀ (v:Value) (w:World),(Instr.checkKey em 9999 el v).run P w = .ok () w:=fun v w=>by
    have key:∀ n:Nat,(Instr.checkKey em (n + 1) el v).run P w = .ok () w:=fun n=>by
     rcases hk with ⟨k,rfl,_⟩ | ⟨rfl,_⟩ | ⟨rfl,_⟩<;>simp [Instr.checkKey,run_underlying hd]
    exact key 9998
   have key:∀ (m i:Nat),i + m=n→(forIn (m:=Sem) (List.range' i m) PUnit.unit fun i _=>do Instr.checkKey em 9999 el (← part el (toVs θ a).toArray (i * (← sizeOf el)));pure (ForInStep.yield PUnit.unit)).run P w = .ok PUnit.unit w:=by
    intro m
    induction m with
    | zero=>intro i _;rfl
    | succ m ih=>
     intro i hi
     have hx:a[i]? = some (a[i]'(by omega)):=List.getElem?_eq_getElem (by omega)
     have hp:=part_cell hc (cs:=(toVs θ a).toArray) (i:=i) (v:=toV θ (a[i]'(by omega))) (by simp [toVs_get,hx]) w
     rw [List.range'_succ,List.forIn_cons]
     simp only [Sem.run_bind,run_size hs,Nat.mul_one,hp,Result.andThen,hck,Sem.run_pure]
     exact ih (i + 1) (by omega)
   have:=key n 0 (by omega)
   rw [this]
   rfl
end
end Go.AM

namespace Go.AM
open Go
def Hit (q:QF) (k:AV):List ME→Option Nat→Prop
 | [],r=>r=none
 | .mk k' _ _ :: es,r=>∃ c,(∀ κ,q k k' κ=κ c)∧((c=true∧r=some 0)∨(c=false∧∃ r',Hit q k es r'∧r=r'.map (· + 1)))
noncomputable def vat (es:List ME) (i:Nat):AV:=match es[i]? with | some (.mk _ v _)=>v | none=>undef
def bat (es:List ME) (i:Nat):Nat:=match es[i]? with | some (.mk _ _ b)=>b | none=>0
def Det (q:QF):Prop:=∀ x y κ,q x y κ=true→∃ c,∀ κ',q x y κ' = κ' c
theorem Hit.lt {q:QF} {k:AV}:∀ {es:List ME} {r:Option Nat},Hit q k es r→∀ i,r=some i→i < es.length
 | [],r,h,i,hi=>by rw [show r=none from h] at hi;cases hi
 | .mk k' _ _ :: es,r,h,i,hi=>by
  obtain ⟨c,_,⟨_,h2⟩ | ⟨_,r',h3,h4⟩⟩:=h
  ·rw [h2] at hi;injection hi with hi;subst hi;simp
  ·rw [h4] at hi
   obtain ⟨j,hj,rfl⟩:=Option.map_eq_some_iff.1 hi
   have:=Hit.lt h3 j hj
   simp;omega
theorem fndK_true {q:QF} (hq:Det q) {k:AV}:∀ {es:List ME} {nf:R} {κ:AV→R},fndK q k es nf κ=true→
  ∃ r,Hit q k es r∧∀ nf' κ',fndK q k es nf' κ' = match r with | none=>nf' | some i=>κ' (vat es i)
 | [],nf,κ,e=>⟨none,rfl,fun _ _=>rfl⟩
 | .mk k' v b :: es,nf,κ,e=>by
  have e:q k k' (fun c=>br c (κ v) (fndK q k es nf κ))=true:=e
  obtain ⟨c,hc⟩:=hq _ _ _ e
  rw [hc] at e
  cases c with
  | true=>exact ⟨some 0,⟨true,hc,.inl ⟨rfl,rfl⟩⟩,fun nf' κ'=>(hc _).trans rfl⟩
  | false=>
   obtain ⟨r,h1,h2⟩:=fndK_true hq (show fndK q k es nf κ=true from e)
   refine ⟨r.map (· + 1),⟨false,hc,.inr ⟨rfl,r,h1,rfl⟩⟩,fun nf' κ'=>(hc _).trans ((h2 nf' κ').trans ?_)⟩
   cases r<;>rfl
def setE (k v:AV):List ME→Nat→List ME
 | [],_=>[]
 | .mk _ _ b :: es,0=>.mk k v b :: es
 | e :: es,i + 1=>e :: setE k v es i
theorem updK_true {q:QF} (hq:Det q) {k v:AV}:∀ {es:List ME} {nf:R} {κ:List ME→R},updK q k v es nf κ=true→
  ∃ r,Hit q k es r∧∀ nf' κ',updK q k v es nf' κ' = match r with | none=>nf' | some i=>κ' (setE k v es i)
 | [],nf,κ,e=>⟨none,rfl,fun _ _=>rfl⟩
 | .mk k' v' b :: es,nf,κ,e=>by
  have e:q k k' (fun c=>br c (κ (.mk k v b :: es)) (updK q k v es nf fun r=>κ (.mk k' v' b :: r)))=true:=e
  obtain ⟨c,hc⟩:=hq _ _ _ e
  rw [hc] at e
  cases c with
  | true=>exact ⟨some 0,⟨true,hc,.inl ⟨rfl,rfl⟩⟩,fun nf' κ'=>(hc _).trans rfl⟩
  | false=>
   obtain ⟨r,h1,h2⟩:=updK_true hq (show updK q k v es nf _=true from e)
   refine ⟨r.map (· + 1),⟨false,hc,.inr ⟨rfl,r,h1,rfl⟩⟩,fun nf' κ'=>(hc _).trans ((h2 nf' _).trans ?_)⟩
   cases r<;>rfl
def setKy (k:AV):List ME→Nat→List ME
 | [],_=>[]
 | .mk _ v b :: es,0=>.mk k v b :: es
 | e :: es,i + 1=>e :: setKy k es i
theorem entK_true {q:QF} (hq:Det q) {k:AV}:∀ {es:List ME} {nf:R} {κ:List ME→AV→Nat→R},entK q k es nf κ=true→
  ∃ r,Hit q k es r∧∀ nf' κ',entK q k es nf' κ' = match r with | none=>nf' | some i=>κ' (setKy k es i) (vat es i) (bat es i)
 | [],nf,κ,e=>⟨none,rfl,fun _ _=>rfl⟩
 | .mk k' v' b :: es,nf,κ,e=>by
  have e:q k k' (fun c=>br c (κ (.mk k v' b :: es) v' b) (entK q k es nf fun r v b'=>κ (.mk k' v' b :: r) v b'))=true:=e
  obtain ⟨c,hc⟩:=hq _ _ _ e
  rw [hc] at e
  cases c with
  | true=>exact ⟨some 0,⟨true,hc,.inl ⟨rfl,rfl⟩⟩,fun nf' κ'=>(hc _).trans rfl⟩
  | false=>
   obtain ⟨r,h1,h2⟩:=entK_true hq (show entK q k es nf _=true from e)
   refine ⟨r.map (· + 1),⟨false,hc,.inr ⟨rfl,r,h1,rfl⟩⟩,fun nf' κ'=>(hc _).trans ((h2 nf' _).trans ?_)⟩
   cases r<;>rfl
theorem delK_true {q:QF} (hq:Det q) {k:AV}:∀ {es:List ME} {κ:List ME→R},delK q k es κ=true→
  ∃ r,Hit q k es r∧∀ κ',delK q k es κ' = match r with | none=>κ' es | some i=>κ' (es.eraseIdx i)
 | [],κ,e=>⟨none,rfl,fun _=>rfl⟩
 | .mk k' v' b :: es,κ,e=>by
  have e:q k k' (fun c=>br c (κ es) (delK q k es fun r=>κ (.mk k' v' b :: r)))=true:=e
  obtain ⟨c,hc⟩:=hq _ _ _ e
  rw [hc] at e
  cases c with
  | true=>exact ⟨some 0,⟨true,hc,.inl ⟨rfl,rfl⟩⟩,fun κ'=>(hc _).trans rfl⟩
  | false=>
   obtain ⟨r,h1,h2⟩:=delK_true hq (show delK q k es _=true from e)
   refine ⟨r.map (· + 1),⟨false,hc,.inr ⟨rfl,r,h1,rfl⟩⟩,fun κ'=>(hc _).trans ((h2 _).trans ?_)⟩
   cases r<;>rfl
section
variable {P:Program} {o:Oper} {x y:XF} {X Y:Operand}
theorem find_hit {kt:TypeId} {g:Bool} {ks:List Nat} (hf:flatT P kt=some (g,ks)) {k:AV} {es:List ME} {r:Option Nat} (h:Hit (eqT g ks) k es r) {θ:Th} {u:Value} (hu:VR θ k u) (hes:∀ e ∈ es,meOk θ e) (w:World) :
  (Instr.findKey kt u (es.map (meV θ))).run P w = .ok (r.map fun i=>(i,toV θ (vat es i))) w∧∀ i,r=some i→∃ e,es[i]? = some e∧Instr.sameBits 10000 (meV θ e).key u=true:=by
 have det:∀ k',(∃ c,∀ κ,eqT g ks k k' κ=κ c)→Ok θ k'→∃ c,(∀ κ,eqT g ks k k' κ=κ c)∧(∀ w,(Op.equal kt u (toV θ k')).run P w = .ok c w)∧(c=true→Instr.sameBits 10000 (toV θ k') u=true)∧
   ∀ d,P.underlying kt=some d→Instr.sameNow d u (toV θ k')=(if g then none else some c):=by
  rintro k' ⟨c,hc⟩ hok
  have e:eqT g ks k k' (fun c'=>decide (c' = c))=true:=by rw [hc];simp
  obtain ⟨c',h1,h2⟩:=eqT_ok hf e
  obtain ⟨j1,j2,_,j4⟩:=h2 θ u (toV θ k') hu ⟨hok,rfl⟩
  have:c' = c:=by
   rw [h1] at e;simpa using e
  subst this
  exact ⟨c',h1,j1,j2,j4⟩
 obtain ⟨d,hd⟩:∃ d,P.underlying kt=some d:=by
  rcases flatT_some hf with ⟨_,c,_,hc⟩ | ⟨_,_,⟨fs,hu,_⟩ | ⟨n,el,c,hu,_⟩⟩
  ·obtain ⟨d,hd,_⟩:=flatC_some hc;exact ⟨d,hd⟩
  ·exact ⟨_,hu⟩
  ·exact ⟨_,hu⟩
 have ask:∀ (es:List ME) (r:Option Nat),Hit (eqT g ks) k es r→(∀ e ∈ es,meOk θ e)→∀ i,(Instr.findAsking kt u (es.map (meV θ)) i).run P w = .ok (r.map fun j=>(i + j,toV θ (vat es j))) w:=by
  intro es
  induction es with
  | nil=>intro r h _ i;rw [show r=none from h];rfl
  | cons e es ih=>
   intro r h hes i
   obtain ⟨k',v,b⟩:=e
   obtain ⟨c,hc,hr⟩:=h
   obtain ⟨c',h1,h2,_,_⟩:=det k' ⟨c,hc⟩ (hes _ (List.mem_cons_self ..)).1
   have:c' = c:=by have:=(h1 fun x=>decide (x=c)).symm.trans (hc fun x=>decide (x=c));simpa using this
   subst this
   simp only [List.map_cons,meV,Instr.findAsking,Sem.run_bind,h2,Result.andThen]
   rcases hr with ⟨rfl,rfl⟩ | ⟨rfl,r',h3,rfl⟩
   ·rfl
   ·have:=ih r' h3 (fun e he=>hes e (List.mem_cons_of_mem _ he)) (i + 1)
    simp only [Bool.false_eq_true,if_false]
    rw [this]
    cases r' with
    | none=>rfl
    | some j=>
     show Result.ok (some (i + 1 + j,_)) w=Result.ok (some (i + (j + 1),_)) w
     rw [show i + 1 + j=i + (j + 1) by omega];rfl
 have now:g=false→∀ (es:List ME) (r:Option Nat),Hit (eqT g ks) k es r→(∀ e ∈ es,meOk θ e)→∀ i,Instr.findNow d u (es.map (meV θ)) i=some (r.map fun j=>(i + j,toV θ (vat es j))):=by
  intro hg es
  induction es with
  | nil=>intro r h _ i;rw [show r=none from h];rfl
  | cons e es ih=>
   intro r h hes i
   obtain ⟨k',v,b⟩:=e
   obtain ⟨c,hc,hr⟩:=h
   obtain ⟨c',h1,h2,_,h4⟩:=det k' ⟨c,hc⟩ (hes _ (List.mem_cons_self ..)).1
   have:c' = c:=by have:=(h1 fun x=>decide (x=c)).symm.trans (hc fun x=>decide (x=c));simpa using this
   subst this
   have h4:=h4 d hd
   rw [hg] at h4
   simp only [Bool.false_eq_true,if_false] at h4
   simp only [List.map_cons,meV,Instr.findNow,h4]
   rcases hr with ⟨rfl,rfl⟩ | ⟨rfl,r',h3,rfl⟩
   ·rfl
   ·have:=ih r' h3 (fun e he=>hes e (List.mem_cons_of_mem _ he)) (i + 1)
    show Instr.findNow d u (es.map (meV θ)) (i + 1)=_
    rw [this]
    cases r' with
    | none=>rfl
    | some j=>
     show some (some (i + 1 + j,_))=some (some (i + (j + 1),_))
     rw [show i + 1 + j=i + (j + 1) by omega];rfl
 refine ⟨?_,?_⟩
 ·simp only [Instr.findKey,Sem.run_bind,run_underlying hd,Result.andThen]
  cases hg:g with
  | false=>
   have:=now hg es r h hes 0
   rw [this]
   simp only [Nat.zero_add,Sem.run_pure]
  | true=>
   cases es with
   | nil=>rw [show r=none from h];rfl
   | cons e es'=>
    obtain ⟨k',v,b⟩:=e
    have hh:=h
    obtain ⟨c,hc,_⟩:=hh
    obtain ⟨c',h1,h2,_,h4⟩:=det k' ⟨c,hc⟩ (hes _ (List.mem_cons_self ..)).1
    have h4:=h4 d hd
    rw [hg] at h4
    have hn:Instr.findNow d u ((ME.mk k' v b :: es').map (meV θ)) 0=none:=by
     simp only [List.map_cons,meV,Instr.findNow,h4,if_true]
    rw [hn]
    have:=ask _ r h hes 0
    simp only [Nat.zero_add] at this
    exact this
 ·clear ask now
  intro i hi
  subst hi
  have go:∀ (es:List ME) (i:Nat),Hit (eqT g ks) k es (some i)→(∀ e ∈ es,meOk θ e)→∃ e,es[i]? = some e∧Instr.sameBits 10000 (meV θ e).key u=true:=by
   intro es
   induction es with
   | nil=>intro i h _;cases h
   | cons e es ih=>
    intro i h hes
    obtain ⟨k',v,b⟩:=e
    obtain ⟨c,hc,hr⟩:=h
    obtain ⟨c',h1,_,h3,_⟩:=det k' ⟨c,hc⟩ (hes _ (List.mem_cons_self ..)).1
    have:c' = c:=by have:=(h1 fun x=>decide (x=c)).symm.trans (hc fun x=>decide (x=c));simpa using this
    subst this
    rcases hr with ⟨hct,hr⟩ | ⟨_,r',h4,hr⟩
    ·injection hr with hr;subst hr
     exact ⟨_,rfl,h3 hct⟩
    ·cases r' with
     | none=>cases hr
     | some j=>
      injection hr with hr;subst hr
      obtain ⟨e,q1,q2⟩:=ih j h4 (fun e he=>hes e (List.mem_cons_of_mem _ he))
      exact ⟨e,by simpa using q1,q2⟩
  exact go es i h hes
theorem eqT_det {t:TypeId} {g:Bool} {ks:List Nat} (h:flatT P t=some (g,ks)):Det (eqT g ks):=fun _ _ _ e=>let ⟨c,h1,_⟩:=eqT_ok h e;⟨c,h1⟩
theorem p_eqs {neg g:Bool} {ks:List Nat} {t t2:TypeId} (hx:XOk x X) (hy:XOk y Y) (hf:EqOk P t g ks) (hg:∃ d,P.underlying t=some d∧∀ k,d≠.int k) (hg2:g=true) (ho:o.op = .binOp (if neg then .neq else .eql) t X Y t2):PureOk P o (oEqs neg (eqT g ks) x y):=by
 intro en h nx κ e
 obtain ⟨v,hv,hr⟩:=hx en
 obtain ⟨v2,hv2,hr2⟩:=hy en
 simp only [oEqs,hv,hv2] at e
 obtain ⟨c,h1,h2⟩:=hf e
 subst hg2
 obtain ⟨l,rfl,e1⟩:=asAg_true (show asAg _ v=true from e)
 obtain ⟨l2,rfl,e2⟩:=asAg_true e1
 refine ⟨.b (if neg then !c else c),fun h' nx' κ'=>?_,fun θ ac w hE=>⟨_,vr_b θ _,?_⟩⟩
 ·simp only [oEqs,hv,hv2,h1]
  rw [kB_eq,negc_eq]
 ·obtain ⟨j1,j3⟩:=h2 θ _ _ (hr θ ac hE) (hr2 θ ac hE)
  refine bin_run ho rfl rfl (j3 _ _ _ w) ?_
  have q1:=(hr θ ac hE).ag.1
  have q2:=(hr2 θ ac hE).ag.1
  have j1:=j1 w
  rw [q1,q2] at j1 ⊢
  cases neg<;>simp [binOp,j1]
def ReadOk (P:Program) (o:Oper) (f:OpF):Prop:=∀ en h nx κ,f en h nx κ=true→
 ∃ v,(∀ h',Ext h h'→∀ nx' κ',f en h' nx' κ' = κ' v h' nx')∧∀ θ (a:Act) w w0 pd nx0,ER θ en a.tmps→HR P w0 pd θ h nx0 w→∃ u,VR θ v u∧(execOp a.eval o).run P w = .ok (.value u) w
theorem PureOk.read {f:OpF} (hf:PureOk P o f):ReadOk P o f:=fun en h nx κ e=>
 let ⟨v,h1,h2⟩:=hf en h nx κ e
 ⟨v,fun h' _ nx' κ'=>h1 h' nx' κ',fun θ a w _ _ _ hE _=>h2 θ a w hE⟩
theorem run_loadVar_agg {w:World} {t:TypeId} {k:Nat} (hg:aggT P t=some true) (hk:sizeT P t=some k) {b o:Nat} {vs:List Value} (hl:vs.length=k)
  (hc:∀ j v,vs[j]? = some v→w.cell? ⟨b,o + j,none⟩=some v):(loadVar t ⟨b,o,none⟩).run P w = .ok (.agg vs.toArray) w:=by
 subst hl
 obtain ⟨d,hd,hag⟩:=aggT_some (w:=w) hg
 simp only [loadVar,Sem.run_bind,hag,Result.andThen,if_true,run_size hk]
 rw [run_loadCells_list (P:=P) w ⟨b,o,none⟩ vs (fun j v hj=>by rw [Addr.add_lit];exact hc j v hj)]
 rfl
theorem run_loadVar_one {w:World} {t:TypeId} (hg:aggT P t=some false) {p:Addr} {v:Value} (hc:w.cell? p=some v):(loadVar t p).run P w = .ok v w:=by
 obtain ⟨d,hd,hag⟩:=aggT_some (w:=w) hg
 simp only [loadVar,Sem.run_bind,hag,Result.andThen]
 simp [hc]
noncomputable def is1 (v:AV):K:=fun v' _ _=>@decide (v' = v) (Classical.propDecidable _)
theorem r_ld {t:TypeId} {n:Nat} (hx:XOk x X) (hg:aggT P t=some true) (hn:sizeT P t=some n) (ho:o.op = .load t X):ReadOk P o (oLd x n):=by
 intro en h nx κ e
 obtain ⟨v,hv,hr⟩:=hx en
 simp only [oLd,hv] at e
 obtain ⟨b,off,rfl,e1⟩:=asP_true e
 have hdet:∃ vs,∀ h',Ext h h'→∀ κ',rdK b off n h' κ' = κ' vs:=by
  obtain ⟨a,ha,e2⟩:=get_true e1
  have ext:∀ h',Ext h h'→∀ κ',rdK b off n h' κ' = rdK b off n h κ':=fun h' hx κ'=>by
   unfold rdK
   rw [get_is ha,get_is (hx b a ha)]
  cases a with
  | sm l=>
   simp only [dropL_eq,takeK_eq,List.length_drop] at e2
   split at e2
   ·rename_i hn
    refine ⟨(l.drop off).take n,fun h' hx κ'=>?_⟩
    rw [ext h' hx]
    unfold rdK
    rw [get_is ha]
    simp only [dropL_eq,takeK_eq,List.length_drop]
    rw [if_pos hn]
   ·cases e2
  | st t0 l=>
   simp only [dropL_eq,takeK_eq,List.length_drop] at e2
   split at e2
   ·rename_i hn
    refine ⟨(l.drop off).take n,fun h' hx κ'=>?_⟩
    rw [ext h' hx]
    unfold rdK
    rw [get_is ha]
    simp only [dropL_eq,takeK_eq,List.length_drop]
    rw [if_pos hn]
   ·cases e2
  | bt t0 l=>cases e2
  | ce N es z zl d t top sh=>
   obtain ⟨hle,e3⟩:=br_t e2
   obtain ⟨vs,k1,k2,k3⟩:=cellsT_true e3
   refine ⟨vs,fun h' hx κ'=>?_⟩
   rw [ext h' hx]
   unfold rdK
   rw [get_is ha]
   show br (Nat.ble (off + n) N) _ false=_
   rw [show Nat.ble (off + n) N=true from hle]
   exact k3 κ'
  | mp es c=>cases e2
  | it m s1 s2 s3=>cases e2
  | lp a b c d e f=>cases e2
  | df b=>cases e2
  | dead=>cases e2
 obtain ⟨vs,hdet⟩:=hdet
 refine ⟨.ag vs,fun h' hx nx' κ'=>?_,fun θ ac w w0 pd nx0 hE hR=>?_⟩
 ·simp only [oLd,hv]
  exact hdet h' hx _
 ·obtain ⟨hpx,hhas⟩:=(hr θ ac hE).p
  obtain ⟨vs',k1,k2,_,k4,k5,k6⟩:=rd_ok hR hhas e1
  have hvs:vs' = vs:=by
   have h1:=k2 h (Ext.refl h) (fun l=>@decide (l=vs) (Classical.propDecidable _))
   rw [hdet h (Ext.refl h)] at h1
   simpa using h1.symm
  subst hvs
  refine ⟨.agg (toVs θ vs').toArray,⟨⟨k4,k5⟩,rfl⟩,?_⟩
  have hl:=run_loadVar_agg (w:=w) hg hn (vs:=toVs θ vs') (by simp [k1]) k6
  simp [execOp,ho,hpx,Instr.loadAt,Instr.sureAddr,hl]
theorem rd_det {b off n:Nat} {h:H} {κ:List AV→R} (e1:rdK b off n h κ=true):∃ vs,∀ h',Ext h h'→∀ κ',rdK b off n h' κ' = κ' vs:=by
 obtain ⟨a,ha,e2⟩:=get_true e1
 have ext:∀ h',Ext h h'→∀ κ',rdK b off n h' κ' = rdK b off n h κ':=fun h' hx κ'=>by
  unfold rdK
  rw [get_is ha,get_is (hx b a ha)]
 cases a with
 | sm l=>
  simp only [dropL_eq,takeK_eq,List.length_drop] at e2
  split at e2
  ·rename_i hn
   refine ⟨(l.drop off).take n,fun h' hx κ'=>?_⟩
   rw [ext h' hx]
   unfold rdK
   rw [get_is ha]
   simp only [dropL_eq,takeK_eq,List.length_drop]
   rw [if_pos hn]
  ·cases e2
 | st t0 l=>
  simp only [dropL_eq,takeK_eq,List.length_drop] at e2
  split at e2
  ·rename_i hn
   refine ⟨(l.drop off).take n,fun h' hx κ'=>?_⟩
   rw [ext h' hx]
   unfold rdK
   rw [get_is ha]
   simp only [dropL_eq,takeK_eq,List.length_drop]
   rw [if_pos hn]
  ·cases e2
 | bt t0 l=>cases e2
 | ce N es z zl d t top sh=>
  obtain ⟨hle,e3⟩:=br_t e2
  obtain ⟨vs,k1,k2,k3⟩:=cellsT_true e3
  refine ⟨vs,fun h' hx κ'=>?_⟩
  rw [ext h' hx]
  unfold rdK
  rw [get_is ha]
  show br (Nat.ble (off + n) N) _ false=_
  rw [show Nat.ble (off + n) N=true from hle]
  exact k3 κ'
 | mp es c=>cases e2
 | it m s1 s2 s3=>cases e2
 | lp a b c d e f=>cases e2
 | df b=>cases e2
 | dead=>cases e2
theorem rd_same {w0 w:World} {pd:List (Nat × AO)} {θ:Th} {nx b off n:Nat} {h:H} {κ:List AV→R} {vs:List AV} (hR:HR P w0 pd θ h nx w) (hh:θ.has b) (e:rdK b off n h κ=true) (hdet:∀ h',Ext h h'→∀ κ',rdK b off n h' κ' = κ' vs) :
  vs.length=n∧Oks θ vs∧∀ j v,(toVs θ vs)[j]? = some v→w.cell? ⟨θ.blk b,θ.bas b + off + j,none⟩=some v:=by
 obtain ⟨vs',k1,k2,_,k4,k5,k6⟩:=rd_ok hR hh e
 have hvs:vs' = vs:=by
  have h1:=k2 h (Ext.refl h) (fun l=>@decide (l=vs) (Classical.propDecidable _))
  rw [hdet h (Ext.refl h)] at h1
  simpa using h1.symm
 subst hvs
 exact ⟨k1,k4,k6⟩
theorem natsK_true {k:Nat}:∀ {vs:List AV} {κ:List Nat→R},natsK k vs κ=true→∃ l,(∀ κ',natsK k vs κ' = κ' l)∧κ l=true∧l.length=vs.length∧
  ∀ θ,Oks θ vs→∀ (i:Nat) (v:AV) (N:Nat),vs[i]? = some v→l[i]? = some N→Lim (khi k) N∧toV θ v = .int (kindOf k) (ln θ.lane N:Nat)
 | [],κ,e=>⟨[],fun _=>rfl,e,rfl,fun θ _ i v N hv _=>by simp at hv⟩
 | v :: vs,κ,e=>by
  have step:∀ κ',natsK k (v :: vs) κ' = lnK k v fun n=>natsK k vs fun l=>κ' (n :: l):=fun _=>rfl
  rw [step] at e
  obtain ⟨N,a1,e1,_,_,a4⟩:=lnK_true e
  obtain ⟨l,b1,b2,b3,b4⟩:=natsK_true e1
  refine ⟨N :: l,fun κ'=>by rw [step,a1,b1],b2,by simp [b3],fun θ ho i u M hu hM=>?_⟩
  cases i with
  | zero=>
   simp at hu hM
   subst hu hM
   exact a4 θ _ ⟨ho.1,rfl⟩
  | succ i=>exact b4 θ ho.2 i u M (by simpa using hu) (by simpa using hM)
def foldL (m:Nat):List Nat→List Nat
 | x :: y :: r=>Nat.xor x (Nat.land (Nat.xor x y) m) :: foldL m r
 | _=>[]
theorem foldK_eq (m:Nat):∀ (l:List Nat) (κ:List Nat→R),foldK m l κ=κ (foldL m l)
 | [],_=>rfl
 | [_],_=>rfl
 | x :: y :: r,κ=>by
  show fnat _ (fun z=>foldK m r fun l=>κ (z :: l))=_
  rw [fnat_eq,foldK_eq m r]
  rfl
theorem foldL_get (m:Nat):∀ (l:List Nat) (i:Nat),(foldL m l)[i]? = match l[2 * i]?,l[2 * i + 1]? with | some x,some y=>some (x ^^^ ((x ^^^ y) &&& m)) | _,_=>none
 | [],i=>by simp [foldL]
 | [x],i=>by
  cases i with
  | zero=>simp [foldL]
  | succ i=>simp [foldL]
 | x :: y :: r,0=>rfl
 | x :: y :: r,i + 1=>by
  have h1:2 * (i + 1)=(2 * i + 1) + 1:=by omega
  rw [foldL,List.getElem?_cons_succ,foldL_get m r i,h1]
  rfl
theorem mux_lane {x y m j N b:Nat} (hj:j < 4096) (hb:b < 64) (hx:ln j x < 2 ^ 64) (hy:ln j y < 2 ^ 64) (hm:m=bitM N b) :
  ln j (x ^^^ ((x ^^^ y) &&& m))=if ln j N / 2 ^ b % 2=0 then ln j x else ln j y:=by
 have h1:ln j (Nat.land (Nat.shiftRight N b) LO)=ln j N / 2 ^ b % 2:=by
  have:=ln_cutshr (N:=N) (s:=b) (b:=1) hj (by omega)
  rw [LO_one] at this
  rw [land_is,shr_is,this]
 have hmm:ln j m=(ln j N / 2 ^ b % 2) * 18446744073709551615:=by
  subst hm
  unfold bitM
  rw [← h1]
  refine ln_mul fun i hi=>?_
  have h2:ln i (Nat.land (Nat.shiftRight N b) LO) < 2:=by
   have:=ln_cutshr (N:=N) (s:=b) (b:=1) (j:=i) (by omega) (by omega)
   rw [LO_one] at this
   rw [land_is,shr_is,this];exact Nat.mod_lt _ (by decide)
  exact Nat.lt_of_le_of_lt (Nat.mul_le_mul_right _ (Nat.le_of_lt_succ h2)) (by decide)
 rw [ln_xor,ln_and,ln_xor,hmm]
 rcases Nat.mod_two_eq_zero_or_one (ln j N / 2 ^ b) with h0 | h0
 ·rw [h0,if_pos rfl,Nat.zero_mul,Nat.and_zero,Nat.xor_zero]
 ·rw [h0,if_neg (by decide),Nat.one_mul]
  have h3:ln j x ^^^ ln j y < 2 ^ 64:=Nat.xor_lt_two_pow hx hy
  have h4:(ln j x ^^^ ln j y) &&& 18446744073709551615=(ln j x ^^^ ln j y) % 2 ^ 64:=Nat.and_two_pow_sub_one_eq_mod _ 64
  rw [h4,Nat.mod_eq_of_lt h3,← Nat.xor_assoc,Nat.xor_self,Nat.zero_xor]
theorem fold_step {l:List Nat} {N b j:Nat} (hj:j < 4096) (hb:b < 64) (hl:∀ i x:Nat,l[i]? = some x→ln j x < 2 ^ 64) {i x:Nat} (h:(foldL (bitM N b) l)[i]? = some x) :
  ∃ y,l[2 * i + ln j N / 2 ^ b % 2]? = some y∧ln j x=ln j y∧ln j x < 2 ^ 64:=by
 rw [foldL_get] at h
 split at h
 ·rename_i x0 y0 h1 h2
  injection h with h
  have e:=mux_lane hj hb (hl _ _ h1) (hl _ _ h2) (rfl:bitM N b=bitM N b)
  rw [h] at e
  rcases Nat.mod_two_eq_zero_or_one (ln j N / 2 ^ b) with h0 | h0
  ·rw [h0,if_pos rfl] at e
   exact ⟨x0,by rw [h0];exact h1,e,by rw [e];exact hl _ _ h1⟩
  ·rw [h0,if_neg (by decide)] at e
   exact ⟨y0,by rw [h0];exact h2,e,by rw [e];exact hl _ _ h2⟩
 ·cases h
theorem muxJ_true {N:Nat} {l:List Nat} {κ:Nat→R} (e:muxJ N l κ=true):∃ M,(∀ κ',muxJ N l κ' = κ' M)∧κ M=true∧
  ∀ j,j < 4096→(∀ i x:Nat,l[i]? = some x→ln j x < 2 ^ 64)→∃ y:Nat,l[ln j N % 16]? = some y∧ln j M=ln j y:=by
 have step:∀ κ',muxJ N l κ' = headK κ' (foldL (bitM N 3) (foldL (bitM N 2) (foldL (bitM N 1) (foldL (bitM N 0) l)))):=by
  intro κ'
  unfold muxJ
  simp only [fnat_eq,foldK_eq]
 rw [step] at e
 cases hh:foldL (bitM N 3) (foldL (bitM N 2) (foldL (bitM N 1) (foldL (bitM N 0) l))) with
 | nil=>rw [hh] at e;cases e
 | cons M r=>
  rw [hh] at e
  refine ⟨M,fun κ'=>by rw [step,hh];rfl,e,fun j hj hl=>?_⟩
  have l1:∀ i x:Nat,(foldL (bitM N 0) l)[i]? = some x→ln j x < 2 ^ 64:=fun i x hx=>by obtain ⟨_,_,_,h⟩:=fold_step hj (by decide) hl hx;exact h
  have l2:∀ i x:Nat,(foldL (bitM N 1) (foldL (bitM N 0) l))[i]? = some x→ln j x < 2 ^ 64:=fun i x hx=>by obtain ⟨_,_,_,h⟩:=fold_step hj (by decide) l1 hx;exact h
  have l3:∀ i x:Nat,(foldL (bitM N 2) (foldL (bitM N 1) (foldL (bitM N 0) l)))[i]? = some x→ln j x < 2 ^ 64:=fun i x hx=>by obtain ⟨_,_,_,h⟩:=fold_step hj (by decide) l2 hx;exact h
  obtain ⟨y3,g3,q3,_⟩:=fold_step (b:=3) (i:=0) (x:=M) hj (by decide) l3 (by rw [hh];rfl)
  obtain ⟨y2,g2,q2,_⟩:=fold_step (b:=2) hj (by decide) l2 g3
  obtain ⟨y1,g1,q1,_⟩:=fold_step (b:=1) hj (by decide) l1 g2
  obtain ⟨y0,g0,q0,_⟩:=fold_step (b:=0) hj (by decide) hl g1
  refine ⟨y0,?_,by rw [q3,q2,q1,q0]⟩
  rw [← g0]
  congr 1
  omega
theorem bitM_lane {N b j:Nat} (hj:j < 4096) (hb:b < 64):ln j (bitM N b)=(ln j N / 2 ^ b % 2) * 18446744073709551615:=by
 have h1:∀ i,i < 4096→ln i (Nat.land (Nat.shiftRight N b) LO)=ln i N / 2 ^ b % 2:=fun i hi=>by
  have:=ln_cutshr (N:=N) (s:=b) (b:=1) hi (by omega)
  rw [LO_one] at this
  rw [land_is,shr_is,this]
 unfold bitM
 rw [← h1 j hj]
 refine ln_mul fun i hi=>?_
 rw [h1 i (by omega)]
 exact Nat.lt_of_le_of_lt (Nat.mul_le_mul_right _ (Nat.le_of_lt_succ (Nat.mod_lt _ (by decide)))) (by decide)
theorem land_lane {a N b j:Nat} (hj:j < 4096) (hb:b < 64) (ha:ln j a < 2 ^ 64):ln j (Nat.land a (bitM N b))=if ln j N / 2 ^ b % 2=0 then 0 else ln j a:=by
 rw [land_is,ln_and,bitM_lane hj hb]
 rcases Nat.mod_two_eq_zero_or_one (ln j N / 2 ^ b) with h0 | h0
 ·rw [h0,if_pos rfl,Nat.zero_mul,Nat.and_zero]
 ·rw [h0,if_neg (by decide),Nat.one_mul]
  have h4:ln j a &&& 18446744073709551615=ln j a % 2 ^ 64:=Nat.and_two_pow_sub_one_eq_mod _ 64
  rw [h4,Nat.mod_eq_of_lt ha]
theorem linB_true {l:List Nat} (h:linB l=true):∃ a0 a1 a2 a3 a4 a5 a6 a7 a8 a9 a10 a11 a12 a13 a14 a15,l=[a0,a1,a2,a3,a4,a5,a6,a7,a8,a9,a10,a11,a12,a13,a14,a15]∧a0=0∧a3=a1 ^^^ a2∧a5=a1 ^^^ a4∧a6=a2 ^^^ a4∧a7=a3 ^^^ a4∧a9=a1 ^^^ a8∧a10=a2 ^^^ a8∧a11=a3 ^^^ a8∧a12=a4 ^^^ a8∧a13=a5 ^^^ a8∧a14=a6 ^^^ a8∧a15=a7 ^^^ a8:=by
 unfold linB at h
 split at h
 ·obtain ⟨h0,h⟩:=br_t h
  obtain ⟨h3,h⟩:=br_t h
  obtain ⟨h5,h⟩:=br_t h
  obtain ⟨h6,h⟩:=br_t h
  obtain ⟨h7,h⟩:=br_t h
  obtain ⟨h9,h⟩:=br_t h
  obtain ⟨h10,h⟩:=br_t h
  obtain ⟨h11,h⟩:=br_t h
  obtain ⟨h12,h⟩:=br_t h
  obtain ⟨h13,h⟩:=br_t h
  obtain ⟨h14,h⟩:=br_t h
  obtain ⟨h15,h⟩:=br_t h
  exact ⟨_,_,_,_,_,_,_,_,_,_,_,_,_,_,_,_,rfl,Nat.eq_of_beq_eq_true h0,Nat.eq_of_beq_eq_true h3,Nat.eq_of_beq_eq_true h5,Nat.eq_of_beq_eq_true h6,Nat.eq_of_beq_eq_true h7,Nat.eq_of_beq_eq_true h9,Nat.eq_of_beq_eq_true h10,Nat.eq_of_beq_eq_true h11,Nat.eq_of_beq_eq_true h12,Nat.eq_of_beq_eq_true h13,Nat.eq_of_beq_eq_true h14,Nat.eq_of_beq_eq_true h15⟩
 ·cases h
theorem lin_val {n m c1 c2 c4 c8:Nat} (h:n % 16=m):(((if n / 2 ^ 0 % 2=0 then 0 else c1) ^^^ (if n / 2 ^ 1 % 2=0 then 0 else c2)) ^^^ (if n / 2 ^ 2 % 2=0 then 0 else c4)) ^^^ (if n / 2 ^ 3 % 2=0 then 0 else c8) =
  (((if m % 2=0 then 0 else c1) ^^^ (if m / 2 % 2=0 then 0 else c2)) ^^^ (if m / 4 % 2=0 then 0 else c4)) ^^^ (if m / 8 % 2=0 then 0 else c8):=by
 have b0:n / 2 ^ 0 % 2=m % 2:=by simp only [Nat.reducePow];omega
 have b1:n / 2 ^ 1 % 2=m / 2 % 2:=by simp only [Nat.reducePow];omega
 have b2:n / 2 ^ 2 % 2=m / 4 % 2:=by simp only [Nat.reducePow];omega
 have b3:n / 2 ^ 3 % 2=m / 8 % 2:=by simp only [Nat.reducePow];omega
 rw [b0,b1,b2,b3]
theorem muxL_true {N:Nat} {l:List Nat} {κ:Nat→R} (hb:linB l=true) (e:muxL N l κ=true):∃ M,(∀ κ',muxL N l κ' = κ' M)∧κ M=true∧
  ∀ j,j < 4096→(∀ i x:Nat,l[i]? = some x→ln j x < 2 ^ 64)→∃ y:Nat,l[ln j N % 16]? = some y∧ln j M=ln j y:=by
 obtain ⟨a0,a1,a2,a3,a4,a5,a6,a7,a8,a9,a10,a11,a12,a13,a14,a15,rfl,q0,q3,q5,q6,q7,q9,q10,q11,q12,q13,q14,q15⟩:=linB_true hb
 have step:∀ κ':Nat→R,muxL N [a0,a1,a2,a3,a4,a5,a6,a7,a8,a9,a10,a11,a12,a13,a14,a15] κ' =
   κ' (Nat.xor (Nat.xor (Nat.xor (Nat.land a1 (bitM N 0)) (Nat.land a2 (bitM N 1))) (Nat.land a4 (bitM N 2))) (Nat.land a8 (bitM N 3))):=by
  intro κ'
  unfold muxL
  simp only [fnat_eq]
 rw [step] at e
 refine ⟨_,step,e,fun j hj hl=>?_⟩
 have g1:=hl 1 a1 rfl
 have g2:=hl 2 a2 rfl
 have g4:=hl 4 a4 rfl
 have g8:=hl 8 a8 rfl
 have z:ln j 0=0:=by simp [ln]
 have key:ln j (Nat.xor (Nat.xor (Nat.xor (Nat.land a1 (bitM N 0)) (Nat.land a2 (bitM N 1))) (Nat.land a4 (bitM N 2))) (Nat.land a8 (bitM N 3))) =
   (((if ln j N / 2 ^ 0 % 2=0 then 0 else ln j a1) ^^^ (if ln j N / 2 ^ 1 % 2=0 then 0 else ln j a2)) ^^^ (if ln j N / 2 ^ 2 % 2=0 then 0 else ln j a4)) ^^^ (if ln j N / 2 ^ 3 % 2=0 then 0 else ln j a8):=by
  rw [xor_is,ln_xor,xor_is,ln_xor,xor_is,ln_xor,land_lane hj (by decide) g1,land_lane hj (by decide) g2,land_lane hj (by decide) g4,land_lane hj (by decide) g8]
 rw [key,lin_val rfl]
 clear key
 have hm:=Nat.mod_lt (ln j N) (show 16 > 0 by decide)
 generalize ln j N % 16=m at hm
 match m,hm with
 | 0,_=>exact ⟨a0,rfl,by rw [q0];simp [z]⟩
 | 1,_=>exact ⟨a1,rfl,by simp⟩
 | 2,_=>exact ⟨a2,rfl,by simp⟩
 | 3,_=>exact ⟨a3,rfl,by rw [q3,ln_xor];simp⟩
 | 4,_=>exact ⟨a4,rfl,by simp⟩
 | 5,_=>exact ⟨a5,rfl,by rw [q5,ln_xor];simp⟩
 | 6,_=>exact ⟨a6,rfl,by rw [q6,ln_xor];simp⟩
 | 7,_=>exact ⟨a7,rfl,by rw [q7,ln_xor,q3,ln_xor];simp⟩
 | 8,_=>exact ⟨a8,rfl,by simp⟩
 | 9,_=>exact ⟨a9,rfl,by rw [q9,ln_xor];simp⟩
 | 10,_=>exact ⟨a10,rfl,by rw [q10,ln_xor];simp⟩
 | 11,_=>exact ⟨a11,rfl,by rw [q11,ln_xor,q3,ln_xor];simp⟩
 | 12,_=>exact ⟨a12,rfl,by rw [q12,ln_xor];simp⟩
 | 13,_=>exact ⟨a13,rfl,by rw [q13,ln_xor,q5,ln_xor];simp⟩
 | 14,_=>exact ⟨a14,rfl,by rw [q14,ln_xor,q6,ln_xor];simp⟩
 | 15,_=>exact ⟨a15,rfl,by rw [q15,ln_xor,q7,ln_xor,q3,ln_xor];simp⟩
 | m + 16,hm=>exact absurd hm (by omega)
theorem br_ff' (a b:R):br false a b=b:=rfl
theorem muxK_true {N:Nat} {l:List Nat} {κ:Nat→R} (e:muxK N l κ=true):∃ M,(∀ κ',muxK N l κ' = κ' M)∧κ M=true∧
  ∀ j,j < 4096→(∀ i x:Nat,l[i]? = some x→ln j x < 2 ^ 64)→∃ y:Nat,l[ln j N % 16]? = some y∧ln j M=ln j y:=by
 have hd:∀ κ:Nat→R,muxK N l κ=br (linB l) (muxL N l κ) (muxJ N l κ):=fun _=>rfl
 rw [hd] at e
 rcases br_true e with ⟨b,e⟩ | ⟨b,e⟩
 ·obtain ⟨M,h1,h2,h3⟩:=muxL_true b e
  exact ⟨M,fun κ'=>by rw [hd,b,br_tt];exact h1 κ',h2,h3⟩
 ·obtain ⟨M,h1,h2,h3⟩:=muxJ_true e
  exact ⟨M,fun κ'=>by rw [hd,b,br_ff'];exact h1 κ',h2,h3⟩
theorem r_ld1 {t:TypeId} (hx:XOk x X) (hg:aggT P t=some false) (ho:o.op = .load t X):ReadOk P o (oLd1 x):=by
 intro en h nx κ e
 obtain ⟨v,hv,hr⟩:=hx en
 by_cases hq:∃ b off N,v = .q b off N
 ·obtain ⟨b,off,N,rfl⟩:=hq
  simp only [oLd1,hv] at e
  have e:rdK b off 16 h (fun vs=>muxV N vs fun v=>κ v h nx)=true:=e
  obtain ⟨vs,hdet⟩:=rd_det e
  have e2:=e
  rw [hdet h (Ext.refl h)] at e2
  cases vs with
  | nil=>cases e2
  | cons v0 r=>
   cases v0<;>first | (cases e2;done) | skip
   rename_i k n
   obtain ⟨b1,e3⟩:=br_t e2
   have b1':k < 8:=by simpa [Nat.blt_eq] using b1
   obtain ⟨l,n1,e4,n3,n4⟩:=natsK_true e3
   obtain ⟨M,m1,_,m3⟩:=muxK_true e4
   refine ⟨.l k M,fun h' hx nx' κ'=>?_,fun θ ac w w0 pd nx0 hE hR=>?_⟩
   ·simp only [oLd1,hv]
    refine (hdet h' hx _).trans ?_
    show br (Nat.blt k 8) (natsK k (.i k n :: r) fun l=>muxK N l fun M=>κ' (.l k M) h' nx') false=_
    rw [b1,br_tt,n1,m1]
   ·obtain ⟨⟨hhas,h16⟩,hpx⟩:=hr θ ac hE
    obtain ⟨k1,k4,k6⟩:=rd_same hR hhas e hdet
    have hall:∀ j,j < 4096→∀ i x:Nat,l[i]? = some x→ln j x < 2 ^ 64:=by
     intro j hj i x hx
     have hi:i < (AV.i k n :: r).length:=by rw [← n3];exact (List.getElem?_eq_some_iff.1 hx).1
     exact (n4 θ k4 i _ x (List.getElem?_eq_getElem hi) hx).1.all64 j hj
    have hlim:Lim (khi k) M:=by
     intro j hj
     obtain ⟨y,y1,y2⟩:=m3 j hj (hall j hj)
     have hi:ln j N % 16 < (AV.i k n :: r).length:=by rw [← n3];exact (List.getElem?_eq_some_iff.1 y1).1
     rw [y2]
     exact (n4 θ k4 _ _ y (List.getElem?_eq_getElem hi) y1).1 j hj
    obtain ⟨y,y1,y2⟩:=m3 θ.lane θ.lane_lt (hall _ θ.lane_lt)
    rw [Nat.mod_eq_of_lt (h16 _ θ.lane_lt)] at y1
    have hi:ln θ.lane N < (AV.i k n :: r).length:=by rw [← n3];exact (List.getElem?_eq_some_iff.1 y1).1
    have hy:=(n4 θ k4 _ _ y (List.getElem?_eq_getElem hi) y1).2
    have hcell:=k6 (ln θ.lane N) (toV θ (AV.i k n :: r)[ln θ.lane N]) (by rw [toVs_get,List.getElem?_eq_getElem hi];rfl)
    rw [hy,← y2] at hcell
    refine ⟨_,vr_l θ b1' hlim,?_⟩
    have hl:=run_loadVar_one (w:=w) hg hcell
    rw [Nat.add_assoc] at hl
    have hpx:ac.eval X = .pointer (some ⟨θ.blk b,θ.bas b + (off + ln θ.lane N),none⟩):=hpx
    simp [execOp,ho,hpx,Instr.loadAt,Instr.sureAddr,hl]
 have hsame:∀ h nx κ,oLd1 x en h nx κ=asP (fun o off=>rd1 o off h fun v=>κ v h nx) v:=by
  intro h nx κ
  simp only [oLd1,hv]
  cases v<;>first | rfl | exact absurd ⟨_,_,_,rfl⟩ hq
 rw [hsame] at e
 obtain ⟨b,off,rfl,e1⟩:=asP_true e
 have hdet:∃ v,∀ h',Ext h h'→∀ κ',rd1 b off h' κ' = κ' v:=by
  obtain ⟨a,ha,e2⟩:=get_true e1
  have ext:∀ h',Ext h h'→∀ κ',rd1 b off h' κ' = rd1 b off h κ':=fun h' hx κ'=>by
   unfold rd1
   rw [get_is ha,get_is (hx b a ha)]
  cases a with
  | sm l=>
   simp only [nthK_eq] at e2
   cases hl:l[off]? with
   | none=>rw [hl] at e2;cases e2
   | some v=>
    refine ⟨v,fun h' hx κ'=>?_⟩
    rw [ext h' hx]
    unfold rd1
    rw [get_is ha]
    simp only [nthK_eq,hl]
  | st t0 l=>
   simp only [nthK_eq] at e2
   cases hl:l[off]? with
   | none=>rw [hl] at e2;cases e2
   | some v=>
    refine ⟨v,fun h' hx κ'=>?_⟩
    rw [ext h' hx]
    unfold rd1
    rw [get_is ha]
    simp only [nthK_eq,hl]
  | bt t0 l=>cases e2
  | ce N es z zl d t top sh=>
   obtain ⟨hlt,e3⟩:=br_t e2
   rw [cellK_eq] at e3
   cases hc:cellO z zl d t off with
   | none=>rw [hc] at e3;cases e3
   | some v=>
    refine ⟨v,fun h' hx κ'=>?_⟩
    rw [ext h' hx]
    unfold rd1
    rw [get_is ha]
    show br (Nat.blt off N) (cellK z zl d t κ' off) false=_
    rw [hlt,cellK_eq,hc]
    rfl
  | mp es c=>cases e2
  | it m s1 s2 s3=>cases e2
  | lp a b c d e f=>cases e2
  | df b=>cases e2
  | dead=>cases e2
 obtain ⟨c,hdet⟩:=hdet
 refine ⟨c,fun h' hx nx' κ'=>?_,fun θ ac w w0 pd nx0 hE hR=>?_⟩
 ·rw [hsame]
  exact hdet h' hx _
 ·obtain ⟨hpx,hhas⟩:=(hr θ ac hE).p
  obtain ⟨c',k1,_,k3,_,k5⟩:=rd1_ok hR hhas e1
  have hc:c' = c:=by
   have h1:=k1 h (Ext.refl h) (fun l=>@decide (l=c) (Classical.propDecidable _))
   rw [hdet h (Ext.refl h)] at h1
   simpa using h1.symm
  subst hc
  refine ⟨toV θ c',⟨k3,rfl⟩,?_⟩
  have hl:=run_loadVar_one (w:=w) hg k5
  simp [execOp,ho,hpx,Instr.loadAt,Instr.sureAddr,hl]
theorem asMp_true {κ:List ME→Nat→R} {a:AO} (e:asMp κ a=true):∃ es c,a = .mp es c∧κ es c=true:=by
 cases a<;>first | exact ⟨_,_,rfl,e⟩ | cases e
theorem run_getMap {w:World} {r:Nat} {es:Array MapEntry} {clock:Nat} (hb:w.heap[r]? = some (.map es clock)):(getObj r).run P w = .ok (.map es clock) w:=by
 simp [getObj,Sem.run,hb]
theorem r_lens {t:TypeId} {c:Call} (hx:XOk x X) (hu:P.underlying t=some .string) (hc:c.callee = .builtin .len) (ha:c.args.toList=[X]) (ht:c.argTypes.toList=[t]) (ho:o.op = .call c):ReadOk P o (oLens x):=by
 refine PureOk.read fun en h nx κ e=>?_
 obtain ⟨v,hv,hr⟩:=hx en
 by_cases hxi:∃ n k' r m,v = .xi n k' r m
 ·obtain ⟨n,k',r,m,rfl⟩:=hxi
  simp only [oLens,hv] at e
  obtain ⟨b1,e⟩:=br_t e
  have b1':=Nat.eq_of_beq_eq_true b1
  subst b1'
  refine ⟨.xi n 9 r m,fun h' nx' κ'=>by simp only [oLens,hv];rfl,fun θ ac w hE=>?_⟩
  obtain ⟨hok,hX⟩:=hr θ ac hE
  obtain ⟨_,s,k1,k2,k3,_,_⟩:=xi_str hok
  refine ⟨.int .i64 s.size,⟨k3,k2.symm⟩,?_⟩
  rw [k1] at hX
  obtain ⟨ca,cargs,ct⟩:=c
  have ha':cargs = #[X]:=by cases cargs;simp_all
  have ht':ct = #[t]:=by cases ct;simp_all
  simp only at hc
  subst ha' ht' hc
  simp [execOp,ho,resolve,invoke,builtin,Builtin.len_,run_underlying hu,hX,goInt]
 by_cases htx:∃ l,v = .t l
 ·obtain ⟨l,rfl⟩:=htx
  simp only [oLens,hv] at e
  refine ⟨.i 3 (.ofNat l.length),fun h' nx' κ'=>by simp only [oLens,hv];rw [fnat_eq,lenN_eq],fun θ ac w hE=>⟨_,vr_i θ _ _,?_⟩⟩
  obtain ⟨ca,cargs,ct⟩:=c
  have ha':cargs = #[X]:=by cases cargs;simp_all
  have ht':ct = #[t]:=by cases ct;simp_all
  simp only at hc
  subst ha' ht' hc
  have hX:ac.eval X = .string (txV θ l):=(hr θ ac hE).2
  simp [execOp,ho,resolve,invoke,builtin,Builtin.len_,run_underlying hu,hX,goInt,tx_size,kindOf]
 have hsame:∀ h nx κ,oLens x en h nx κ=asS (fun l=>fnat (lenN Nat l) fun n=>κ (.i 3 (.ofNat n)) h nx) v:=by
  intro h nx κ
  simp only [oLens,hv]
  cases v<;>first | rfl | exact absurd ⟨_,_,_,_,rfl⟩ hxi | exact absurd ⟨_,rfl⟩ htx
 rw [hsame] at e
 obtain ⟨l,rfl,e1⟩:=asS_true e
 refine ⟨.i 3 (.ofNat l.length),fun h' nx' κ'=>?_,fun θ ac w hE=>⟨_,vr_i θ _ _,?_⟩⟩
 ·rw [hsame]
  show fnat (lenN Nat l) (fun n=>κ' (.i 3 (.ofNat n)) h' nx')=_
  rw [fnat_eq,lenN_eq]
 ·obtain ⟨ca,cargs,ct⟩:=c
  have ha':cargs = #[X]:=by cases cargs;simp_all
  have ht':ct = #[t]:=by cases ct;simp_all
  simp only at hc
  subst ha' ht' hc
  simp [execOp,ho,resolve,invoke,builtin,Builtin.len_,run_underlying hu,(hr θ ac hE).s.1,goInt,bytes_size,kindOf]
theorem r_lenl {t el:TypeId} {c:Call} (hx:XOk x X) (hu:P.underlying t=some (.slice el)) (hc:c.callee = .builtin .len) (ha:c.args.toList=[X]) (ht:c.argTypes.toList=[t]) (ho:o.op = .call c):ReadOk P o (oLenl x):=by
 refine PureOk.read fun en h nx κ e=>?_
 obtain ⟨v,hv,hr⟩:=hx en
 simp only [oLenl,hv] at e
 obtain ⟨ca,cargs,ct⟩:=c
 have ha':cargs = #[X]:=by cases cargs;simp_all
 have ht':ct = #[t]:=by cases ct;simp_all
 simp only at hc
 subst ha' ht' hc
 cases v<;>first | (cases e;done) | skip
 ·rename_i b off len cap
  refine ⟨.i 3 (.ofNat len),fun h' nx' κ'=>by simp only [oLenl,hv],fun θ ac w hE=>⟨_,vr_i θ _ _,?_⟩⟩
  obtain ⟨_,cc,hx'⟩:=(hr θ ac hE).sl
  simp [execOp,ho,resolve,invoke,builtin,Builtin.len_,run_underlying hu,hx',goInt,kindOf]
 ·refine ⟨.i 3 (.ofNat 0),fun h' nx' κ'=>by simp only [oLenl,hv],fun θ ac w hE=>⟨_,vr_i θ _ _,?_⟩⟩
  have hx':ac.eval X = .slice none 0 0:=(hr θ ac hE).2
  simp [execOp,ho,resolve,invoke,builtin,Builtin.len_,run_underlying hu,hx',goInt,kindOf]
 ·rename_i n k r m
  obtain ⟨b1,e1⟩:=br_t (show br (Nat.beq k 12) _ false=true from e)
  have b1':=Nat.eq_of_beq_eq_true b1
  subst b1'
  refine ⟨.i 3 (.ofNat 0),fun h' nx' κ'=>by simp only [oLenl,hv];rfl,fun θ ac w hE=>⟨_,vr_i θ _ _,?_⟩⟩
  have hx':ac.eval X=tailV θ n r m:=(hr θ ac hE).2
  simp [execOp,ho,resolve,invoke,builtin,Builtin.len_,run_underlying hu,hx',tailV,goInt,kindOf]
theorem r_lenm {t kt el:TypeId} {c:Call} (hx:XOk x X) (hu:P.underlying t=some (.map kt el)) (hc:c.callee = .builtin .len) (ha:c.args.toList=[X]) (ht:c.argTypes.toList=[t]) (ho:o.op = .call c):ReadOk P o (oLenm x):=by
 intro en h nx κ e
 obtain ⟨v,hv,hr⟩:=hx en
 simp only [oLenm,hv] at e
 obtain ⟨ca,cargs,ct⟩:=c
 have ha':cargs = #[X]:=by cases cargs;simp_all
 have ht':ct = #[t]:=by cases ct;simp_all
 simp only at hc
 subst ha' ht' hc
 cases v<;>first | (cases e;done) | skip
 ·rename_i b
  obtain ⟨a,hb,e1⟩:=get_true e
  obtain ⟨es,cl,rfl,e2⟩:=asMp_true e1
  refine ⟨.i 3 (.ofNat es.length),fun h' hx nx' κ'=>?_,fun θ ac w w0 pd nx0 hE hR=>⟨_,vr_i θ _ _,?_⟩⟩
  ·simp only [oLenm,hv,get_is (hx b _ hb)]
   show fnat (lenN ME es) (fun n=>κ' (.i 3 (.ofNat n)) h' nx')=_
   rw [fnat_eq,lenN_eq]
  ·obtain ⟨hx',hh⟩:=(hr θ ac hE).m
   have hm:=(hR.obj_ hh hb).1
   simp [execOp,ho,resolve,invoke,builtin,Builtin.len_,run_underlying hu,hx',goInt,kindOf,run_getMap hm]
 ·refine ⟨.i 3 (.ofNat 0),fun h' hx nx' κ'=>by simp only [oLenm,hv],fun θ ac w w0 pd nx0 hE hR=>⟨_,vr_i θ _ _,?_⟩⟩
  have hx':ac.eval X = .map none:=(hr θ ac hE).2
  simp [execOp,ho,resolve,invoke,builtin,Builtin.len_,run_underlying hu,hx',goInt,kindOf]
theorem vat_ok {θ:Th} {es:List ME} {i:Nat} (hi:i < es.length) (h:∀ e ∈ es,meOk θ e):Ok θ (vat es i):=by
 unfold vat
 rw [List.getElem?_eq_getElem hi]
 have:=h _ (List.getElem_mem hi)
 cases he:es[i] with
 | mk k v b=>rw [he] at this;exact this.2
theorem r_lkp {t kt el:TypeId} {g ok:Bool} {ks:List Nat} {z:AV} (hx:XOk x X) (hy:XOk y Y) (hu:P.underlying t=some (.map kt el)) (hf:flatT P kt=some (g,ks)) (hz:zeroV P el=some z)
  (ho:o.op = .lookup t X Y ok):ReadOk P o (oLkp g ks x y ok z):=by
 intro en h nx κ e
 obtain ⟨v,hv,hr⟩:=hx en
 obtain ⟨v2,hv2,hr2⟩:=hy en
 simp only [oLkp,hv,hv2] at e
 obtain ⟨e1,hky,hck⟩:=kyT_ok hf e
 obtain ⟨zi,zv,z1,z2,z3⟩:=zeroV_some hz
 cases v<;>first | (cases e1;done) | skip
 ·rename_i b
  obtain ⟨a,hb,e2⟩:=get_true e1
  obtain ⟨es,cl,rfl,e3⟩:=asMp_true e2
  obtain ⟨r,h1,h2⟩:=fndK_true (eqT_det hf) e3
  refine ⟨(match r with | none=>if ok then .tu [z,.b false] else z | some i=>if ok then .tu [vat es i,.b true] else vat es i:AV),fun h' hx nx' κ'=>?_,fun θ ac w w0 pd nx0 hE hR=>?_⟩
  ·simp only [oLkp,hv,hv2,hky,get_is (hx b _ hb)]
   show fndK (eqT g ks) v2 es (br ok (κ' (.tu [z,.b false]) h' nx') (κ' z h' nx')) (fun v=>br ok (κ' (.tu [v,.b true]) h' nx') (κ' v h' nx'))=_
   rw [h2]
   cases r<;>cases ok<;>rfl
  ·obtain ⟨hx',hh⟩:=(hr θ ac hE).m
   obtain ⟨hm,hes⟩:=hR.obj_ hh hb
   have hfk:=(find_hit hf h1 (hr2 θ ac hE) hes w).1
   have hck:=hck θ _ (hr2 θ ac hE)
   have hz':(zeroValue el).run P w = .ok zv w:=by simp [zeroValue,typeInfo,z1,z2]
   cases r with
   | none=>
    refine ⟨if ok then .tuple #[zv,.bool false] else zv,?_,?_⟩
    ·cases ok
     ·exact z3 θ
     ·exact ⟨⟨(z3 θ).1,trivial,trivial⟩,by rw [(z3 θ).2];rfl⟩
    ·simp only [execOp,ho,Instr.lookup,Sem.run_bind,run_underlying hu,Result.andThen,hx',run_getMap hm,Sem.run_pure,hck,List.toList_toArray,hfk,Option.map_none,hz']
   | some i=>
    have hi:=h1.lt i rfl
    refine ⟨if ok then .tuple #[toV θ (vat es i),.bool true] else toV θ (vat es i),?_,?_⟩
    ·cases ok
     ·exact ⟨vat_ok hi hes,rfl⟩
     ·exact ⟨⟨vat_ok hi hes,trivial,trivial⟩,rfl⟩
    ·simp only [execOp,ho,Instr.lookup,Sem.run_bind,run_underlying hu,Result.andThen,hx',run_getMap hm,Sem.run_pure,hck,List.toList_toArray,hfk,Option.map_some]
 ·refine ⟨if ok then .tu [z,.b false] else z,fun h' hx nx' κ'=>?_,fun θ ac w w0 pd nx0 hE hR=>?_⟩
  ·simp only [oLkp,hv,hv2,hky]
   cases ok<;>rfl
  ·have hx':ac.eval X = .map none:=(hr θ ac hE).2
   have hck:=hck θ _ (hr2 θ ac hE)
   have hz':(zeroValue el).run P w = .ok zv w:=by simp [zeroValue,typeInfo,z1,z2]
   have hfk:(Instr.findKey kt (ac.eval Y) []).run P w = .ok none w:=by
    have:=(find_hit (es:=[]) hf (r:=none) rfl (hr2 θ ac hE) (by simp) w).1
    simpa using this
   refine ⟨if ok then .tuple #[zv,.bool false] else zv,?_,?_⟩
   ·cases ok
    ·exact z3 θ
    ·exact ⟨⟨(z3 θ).1,trivial,trivial⟩,by rw [(z3 θ).2];rfl⟩
   ·simp only [execOp,ho,Instr.lookup,Sem.run_bind,run_underlying hu,Result.andThen,hx',Sem.run_pure,hck,hfk,hz']
theorem bytesK_true:∀ {vs:List AV} {κ:List Nat→R},bytesK vs κ=true→∃ l,(∀ κ',bytesK vs κ' = κ' l)∧κ l=true∧vs=l.map (fun m=>.i 4 (.ofNat m))∧∀ x ∈ l,x < 256
 | [],κ,e=>⟨[],fun _=>rfl,e,rfl,by simp⟩
 | v :: vs,κ,e=>by
  have e:asK 4 (fun n=>@Int.rec (fun _=>R) (fun m=>br (Nat.blt m 256) (bytesK vs fun l=>κ (m :: l)) false) (fun _=>false) n) v=true:=e
  obtain ⟨n,rfl,e1⟩:=asK_true e
  cases n with
  | negSucc m=>cases e1
  | ofNat m=>
   obtain ⟨hm,e2⟩:=br_t (show br (Nat.blt m 256) _ false=true from e1)
   obtain ⟨l,h1,h2,h3,h4⟩:=bytesK_true e2
   refine ⟨m :: l,fun κ'=>?_,h2,by rw [h3];rfl,fun x hx=>?_⟩
   ·show asK 4 (fun n=>@Int.rec (fun _=>R) (fun m=>br (Nat.blt m 256) (bytesK vs fun l=>κ' (m :: l)) false) (fun _=>false) n) (.i 4 (.ofNat m))=_
    rw [asK_i]
    show br (Nat.blt m 256) (bytesK vs fun l=>κ' (m :: l)) false=_
    rw [hm]
    exact h1 _
   ·rcases List.mem_cons.1 hx with rfl | hx
    ·simpa [Nat.blt_eq] using hm
    ·exact h4 x hx
theorem foldl_push (l:List UInt8):∀ r:ByteArray,(l.foldl (fun r x=>r.push x) r)=⟨r.data ++ l.toArray⟩:=by
 induction l with
 | nil=>intro r;simp
 | cons x l ih=>intro r;rw [List.foldl_cons,ih];simp [ByteArray.push]
def byN (θ:Th):AV→Int
 | .i _ n=>n
 | .l _ N=>(ln θ.lane N:Nat)
 | .xi n _ r _=>((48 + (xnat (θ.ext n)).toNat / 2 ^ r % 2:Nat):Int)
 | _=>0
theorem allBy_ok {θ:Th}:∀ {vs:List AV},allBy vs=true→Oks θ vs→(∀ v ∈ vs,byOk v)∧toVs θ vs=(vs.map (byN θ)).map (Value.int .u8)∧(vs.map (byN θ)).map (fun n=>UInt8.ofNat n.toNat)=vs.map (byV θ)
 | [],_,_=>⟨by simp,rfl,rfl⟩
 | v :: vs,e,ho=>by
  have e:(@Bool.rec (fun _=>Bool) false (allBy vs) (isBy v))=true:=e
  cases hb:isBy v with
  | false=>rw [hb] at e;cases e
  | true=>
   rw [hb] at e
   obtain ⟨k1,k2,k3⟩:=allBy_ok (θ:=θ) e ho.2
   have hv:byOk v∧toV θ v = .int .u8 (byN θ v)∧UInt8.ofNat (byN θ v).toNat=byV θ v:=by
    cases v<;>first | (cases hb;done) | skip
    ·rename_i k n
     have hb:(@Bool.rec (fun _=>Bool) false (@Int.rec (fun _=>Bool) (fun n=>Nat.blt n 256) (fun _=>false) n) (Nat.beq k 4))=true:=hb
     cases hk:Nat.beq k 4 with
     | false=>rw [hk] at hb;cases hb
     | true=>
      rw [hk] at hb
      have hk:=Nat.eq_of_beq_eq_true hk
      subst hk
      cases n with
      | negSucc n=>cases hb
      | ofNat n=>
       have hb:Nat.blt n 256=true:=hb
       exact ⟨.inl ⟨n,rfl,by simpa [Nat.blt_eq] using hb⟩,rfl,rfl⟩
    ·rename_i n k r m
     have hk:=Nat.eq_of_beq_eq_true (show Nat.beq k 22=true from hb)
     subst hk
     exact ⟨.inr (.inr ⟨_,_,_,rfl⟩),by rw [xb_val (by decide)];rfl,rfl⟩
    ·rename_i k N
     have hk:=Nat.eq_of_beq_eq_true (show Nat.beq k 4=true from hb)
     subst hk
     have h1:VR θ (.l 4 N) (toV θ (.l 4 N)):=⟨ho.1,rfl⟩
     obtain ⟨q1,q2⟩:=h1.l (by decide)
     exact ⟨.inr (.inl ⟨N,rfl,q1⟩),rfl,rfl⟩
   refine ⟨fun u hu=>?_,by simp only [toVs,List.map_cons,hv.2.1,k2],by simp only [List.map_cons,hv.2.2,k3]⟩
   rcases List.mem_cons.1 hu with rfl | hu
   ·exact hv.1
   ·exact k1 u hu
theorem mkTx_true {vs:List AV} {κ:AV→R} (e:mkTx vs κ=true):∃ v,(∀ κ',mkTx vs κ' = κ' v)∧κ v=true∧∀ θ,(∀ x ∈ vs,byOk x)→VR θ v (.string (txV θ vs)):=by
 rcases br_true (show br (anyU vs) (br (allBy vs) (κ (.t vs)) false) (bytesK vs fun l=>κ (.s l))=true from e) with ⟨g1,e1⟩ | ⟨g1,e1⟩
 ·obtain ⟨g2,e2⟩:=br_t e1
  exact ⟨.t vs,fun κ'=>by unfold mkTx;rw [g1,g2];rfl,e2,fun θ h=>⟨h,rfl⟩⟩
 ·obtain ⟨l,h1,h2,h3,h4⟩:=bytesK_true e1
  refine ⟨.s l,fun κ'=>by unfold mkTx;rw [g1];exact h1 _,h2,fun θ h=>⟨h4,?_⟩⟩
  show Value.string _ = .string (bytesOf l)
  rw [h3,tx_bytes]
theorem p_ixs {t:TypeId} (hx:XOk x X) (hy:XOk y Y) (hu:P.underlying t=some .string) (ho:o.op = .index t X Y):PureOk P o (oIxs x y):=by
 intro en h nx κ e
 obtain ⟨v,hv,hr⟩:=hx en
 obtain ⟨v2,hv2,hr2⟩:=hy en
 have run:∀ (ac:Act) (w:World) (s:ByteArray) (k:IntKind) (i:Nat) (c:UInt8),ac.eval X = .string s→ac.eval Y = .int k (i:Int)→s.data[i]? = some c→(execOp ac.eval o).run P w = .ok (.value (.int .u8 (c.toNat:Int))) w:=by
  intro ac w s k i c hx' hy' hdat
  have hlt:i < s.data.size:=(Array.getElem?_eq_some_iff.1 hdat).1
  have hget:s[i]? = some c:=by
   have hs:i < s.size:=hlt
   rw [ByteArray.getElem?_lt' _ _ hs]
   have:s[i]=s.data[i]:=rfl
   rw [this]
   exact congrArg some (Array.getElem?_eq_some_iff.1 hdat).2
  simp [execOp,ho,hx',hy',Instr.index,asIntOf,run_underlying hu,hget,hdat]
 by_cases ht:∃ l,v = .t l
 ·obtain ⟨l,rfl⟩:=ht
  simp only [oIxs,hv,hv2] at e
  obtain ⟨j,i,rfl,e2⟩:=asN_true e
  rw [nthK_eq] at e2
  cases hl:l[i]? with
  | none=>rw [hl] at e2;cases e2
  | some c=>
   refine ⟨c,fun h' nx' κ'=>?_,fun θ ac w hE=>?_⟩
   ·simp only [oIxs,hv,hv2]
    show nthK AV _ l i=_
    rw [nthK_eq,hl]
   ·obtain ⟨o1,n,hn,hc,hb⟩:=by_ok (θ:=θ) ((hr θ ac hE).1 c (List.mem_of_getElem? hl))
    refine ⟨.int .u8 n,⟨o1,hc.symm⟩,?_⟩
    have h1:=run ac w (txV θ l) _ i (byV θ c) (hr θ ac hE).2 (hr2 θ ac hE).i (by simp [txV,hl])
    rw [hb,UInt8.toNat_ofNat',Nat.mod_eq_of_lt hn] at h1
    exact h1
 have hsame:∀ h nx κ,oIxs x y en h nx κ=asS (fun l=>ixsW l v2 fun v=>κ v h nx) v:=by
  intro h nx κ
  simp only [oIxs,hv,hv2]
  cases v<;>first | rfl | exact absurd ⟨_,rfl⟩ ht
 rw [hsame] at e
 obtain ⟨l,rfl,e1⟩:=asS_true e
 by_cases hL:∃ k N,v2 = .l k N
 ·obtain ⟨k,N,rfl⟩:=hL
  obtain ⟨b1,e2⟩:=br_t (show br (Nat.blt k 8) (br (Nat.beq (ltm N (Nat.mul LO 16)) LO) (takeK Nat 16 l fun l=>ofBytes l fun vs=>muxV N vs fun u=>κ u h nx) false) false=true from e1)
  obtain ⟨b2,e3⟩:=br_t e2
  have b1':k < 8:=by simpa [Nat.blt_eq] using b1
  rw [takeK_eq] at e3
  by_cases h16:16≤l.length
  ·rw [if_pos h16,ofBytes_eq] at e3
   cases hl16:l.take 16 with
   | nil=>rw [hl16] at e3;cases e3
   | cons c0 r=>
    rw [hl16] at e3
    have step:∀ κ',muxV N ((c0 :: r).map fun m=>AV.i 4 (.ofNat m)) κ' = br (Nat.blt 4 8) (natsK 4 ((c0 :: r).map fun m=>AV.i 4 (.ofNat m)) fun l=>muxK N l fun M=>κ' (.l 4 M)) false:=fun _=>rfl
    rw [step] at e3
    obtain ⟨_,e4⟩:=br_t e3
    obtain ⟨l',n1,e5,n3,n4⟩:=natsK_true e4
    obtain ⟨M,m1,_,m3⟩:=muxK_true e5
    refine ⟨.l 4 M,fun h' nx' κ'=>?_,fun θ ac w hE=>?_⟩
    ·rw [hsame]
     show br (Nat.blt k 8) (br (Nat.beq (ltm N (Nat.mul LO 16)) LO) (takeK Nat 16 l fun l=>ofBytes l fun vs=>muxV N vs fun u=>κ' u h' nx') false) false=_
     rw [b1,b2,br_tt,br_tt,takeK_eq,if_pos h16,ofBytes_eq,hl16,step]
     show br true _ false=_
     rw [br_tt,n1,m1]
    ·obtain ⟨hx',hb⟩:=(hr θ ac hE).s
     obtain ⟨la,hy'⟩:=(hr2 θ ac hE).l b1'
     have lim16:=lt16 la.all64 b2
     have hok:Oks θ ((c0 :: r).map fun m=>AV.i 4 (.ofNat m)):=Oks_iff.2 fun v hv=>by
      obtain ⟨m,_,rfl⟩:=List.mem_map.1 hv
      trivial
     have hall:∀ j,j < 4096→∀ i x:Nat,l'[i]? = some x→ln j x < 2 ^ 64:=by
      intro j hj i x hx
      have hi:i < ((c0 :: r).map fun m=>AV.i 4 (.ofNat m)).length:=by rw [← n3];exact (List.getElem?_eq_some_iff.1 hx).1
      exact (n4 θ hok i _ x (List.getElem?_eq_getElem hi) hx).1.all64 j hj
     have hlim:Lim (khi 4) M:=by
      intro j hj
      obtain ⟨y,y1,y2⟩:=m3 j hj (hall j hj)
      have hi:ln j N % 16 < ((c0 :: r).map fun m=>AV.i 4 (.ofNat m)).length:=by rw [← n3];exact (List.getElem?_eq_some_iff.1 y1).1
      rw [y2]
      exact (n4 θ hok _ _ y (List.getElem?_eq_getElem hi) y1).1 j hj
     obtain ⟨y,y1,y2⟩:=m3 θ.lane θ.lane_lt (hall _ θ.lane_lt)
     have hlt:=lim16 _ θ.lane_lt
     rw [Nat.mod_eq_of_lt hlt] at y1
     have hi:ln θ.lane N < ((c0 :: r).map fun m=>AV.i 4 (.ofNat m)).length:=by rw [← n3];exact (List.getElem?_eq_some_iff.1 y1).1
     have hy:=(n4 θ hok _ _ y (List.getElem?_eq_getElem hi) y1).2
     have hi':ln θ.lane N < (c0 :: r).length:=by simpa using hi
     have hgl:l[ln θ.lane N]? = some (c0 :: r)[ln θ.lane N]:=by
      have:(l.take 16)[ln θ.lane N]? = l[ln θ.lane N]?:=by rw [List.getElem?_take,if_pos hlt]
      rw [← this,hl16,List.getElem?_eq_getElem hi']
     have hcb:=hb _ (List.mem_of_getElem? hgl)
     refine ⟨_,vr_l θ (by decide) hlim,?_⟩
     have h1:=run ac w (bytesOf l) _ (ln θ.lane N) (UInt8.ofNat (c0 :: r)[ln θ.lane N]) hx' hy' (by simp [bytesOf,hgl])
     rw [UInt8.toNat_ofNat',Nat.mod_eq_of_lt hcb] at h1
     rw [List.getElem_map] at hy
     have hy2:((c0 :: r)[ln θ.lane N]:Int)=((ln θ.lane y:Nat):Int):=by
      have:Value.int (kindOf 4) (((c0 :: r)[ln θ.lane N]:Nat):Int) = .int (kindOf 4) ((ln θ.lane y:Nat):Int):=hy
      injection this
     rw [h1,hy2,← y2]
     rfl
  ·rw [if_neg h16] at e3;cases e3
 have hsame2:∀ h nx κ,oIxs x y en h nx κ=ixsV l v2 fun v=>κ v h nx:=by
  intro h nx κ
  rw [hsame]
  show ixsW l v2 _=_
  cases v2<;>first | rfl | exact absurd ⟨_,_,rfl⟩ hL
 have e1:ixsV l v2 (fun v=>κ v h nx)=true:=by rw [← hsame2,hsame];exact e
 obtain ⟨j,i,rfl,e2⟩:=asN_true e1
 rw [nthK_eq] at e2
 cases hl:l[i]? with
 | none=>rw [hl] at e2;cases e2
 | some c=>
  refine ⟨.i 4 (.ofNat c),fun h' nx' κ'=>?_,fun θ ac w hE=>⟨_,vr_i θ _ _,?_⟩⟩
  ·rw [hsame2]
   show nthK Nat _ l i=_
   rw [nthK_eq,hl]
  ·obtain ⟨hx',hb⟩:=(hr θ ac hE).s
   have hc:c < 256:=hb c (List.mem_of_getElem? hl)
   have h1:=run ac w (bytesOf l) _ i (UInt8.ofNat c) hx' (hr2 θ ac hE).i (by simp [bytesOf,hl])
   rw [UInt8.toNat_ofNat',Nat.mod_eq_of_lt hc] at h1
   exact h1
theorem r_b2s {s d el:TypeId} (hx:XOk x X) (hs:P.underlying s=some (.slice el)) (he:P.underlying el=some (.int .u8)) (hd:P.underlying d=some .string) (ho:o.op = .convert s d X):ReadOk P o (oB2s x):=by
 intro en h nx κ e
 obtain ⟨v,hv,hr⟩:=hx en
 simp only [oB2s,hv] at e
 have conv:∀ (u:Value) (w:World),(∃ A l c,u = .slice A l c)→(convert s d u).run P w=(Conv.bytesToString u).run P w:=by
  rintro u w ⟨A,l,c,rfl⟩
  simp only [convert,Sem.run_bind,run_underlying hs,run_underlying hd,run_underlying he,Result.andThen]
 cases v<;>first | (cases e;done) | skip
 ·rename_i b off len cap
  have e:rdK b off len h (fun vs=>br (anyU vs) (br (allBy vs) (κ (.t vs) h nx) false) (bytesK vs fun l=>κ (.s l) h nx))=true:=e
  obtain ⟨vs,hvs⟩:=rd_det e
  have e2:=e
  rw [hvs h (Ext.refl h)] at e2
  have fold:∀ (l:List Int) (r:ByteArray),(l.foldl (fun r x=>r.push (UInt8.ofNat x.toNat)) r)=⟨r.data ++ (l.map fun x=>UInt8.ofNat x.toNat).toArray⟩:=by
   intro l r
   have:=foldl_push (l.map fun x=>UInt8.ofNat x.toNat) r
   rw [List.foldl_map] at this
   exact this
  have run:∀ (θ:Th) (ac:Act) w (l:List Int),ER θ en ac.tmps→toVs θ vs=l.map (Value.int .u8)→vs.length=len→(∀ j v,(toVs θ vs)[j]? = some v→w.cell? ⟨θ.blk b,θ.bas b + off + j,none⟩=some v)→
    (execOp ac.eval o).run P w = .ok (.value (.string ⟨(l.map fun x=>UInt8.ofNat x.toNat).toArray⟩)) w:=by
   intro θ ac w l hE hcells k1 k6
   obtain ⟨hh,c,hx'⟩:=(hr θ ac hE).sl
   have hl:=run_loadCells_list (P:=P) w ⟨θ.blk b,θ.bas b + off,none⟩ (toVs θ vs) (fun j v hj=>by rw [Addr.add_lit];exact k6 j v hj)
   rw [toVs_length,k1,hcells] at hl
   have hrun:(Conv.bytesToString (.slice (some ⟨θ.blk b,θ.bas b + off,none⟩) len c)).run P w = .ok (.string ⟨(l.map fun x=>UInt8.ofNat x.toNat).toArray⟩) w:=by
    rw [run_bytesToString w ⟨θ.blk b,θ.bas b + off,none⟩ len c l hl]
    congr 2
    rw [fold]
    simp
   simp [execOp,ho,hx',conv _ _ ⟨_,_,_,rfl⟩,hrun]
  rcases br_true e2 with ⟨g1,e3⟩ | ⟨g1,e3⟩
  ·obtain ⟨g2,e4⟩:=br_t e3
   refine ⟨.t vs,fun h' hx nx' κ'=>?_,fun θ ac w w0 pd nx0 hE hR=>?_⟩
   ·simp only [oB2s,hv]
    rw [hvs h' hx,g1,g2]
    rfl
   ·obtain ⟨k1,k4,k6⟩:=rd_same hR (hr θ ac hE).sl.1 e hvs
    obtain ⟨q1,q2,q3⟩:=allBy_ok (θ:=θ) g2 k4
    refine ⟨.string (txV θ vs),⟨q1,rfl⟩,?_⟩
    have:=run θ ac w (vs.map (byN θ)) hE q2 k1 k6
    rw [q3] at this
    exact this
  ·obtain ⟨l,h1,_,h3,h4⟩:=bytesK_true e3
   refine ⟨.s l,fun h' hx nx' κ'=>?_,fun θ ac w w0 pd nx0 hE hR=>?_⟩
   ·simp only [oB2s,hv]
    rw [hvs h' hx,g1]
    exact h1 _
   ·obtain ⟨k1,k4,k6⟩:=rd_same hR (hr θ ac hE).sl.1 e hvs
    refine ⟨.string (bytesOf l),⟨h4,rfl⟩,?_⟩
    have hcells:toVs θ vs=(l.map Int.ofNat).map (Value.int .u8):=by
     rw [toVs_map,h3,List.map_map,List.map_map];rfl
    have:=run θ ac w (l.map Int.ofNat) hE hcells k1 k6
    rw [List.map_map] at this
    exact this
 ·refine ⟨.s [],fun h' hx nx' κ'=>by simp only [oB2s,hv],fun θ ac w w0 pd nx0 hE hR=>⟨.string .empty,⟨(fun x hx=>nomatch hx),rfl⟩,?_⟩⟩
  have hx':ac.eval X = .slice none 0 0:=(hr θ ac hE).2
  simp [execOp,ho,hx',conv _ _ ⟨_,_,_,rfl⟩,Conv.bytesToString]
end
end Go.AM

namespace Go.AM
open Go
theorem HR.pended {P:Program} {w0 w:World} {pd:List (Nat × AO)} {θ:Th} {h:H} {nx:Nat} (hr:HR P w0 pd θ h nx w) (hn:nx < 2097152) (a:AO):HR P w0 ((nx,a) :: pd) θ (setO h nx a) (nx + 1) w:=by
 have hnx:¬ θ.has nx:=fun hx=>Nat.lt_irrefl _ (hr.own nx hx).1
 have hob:∀ o,θ.has o→obj (setO h nx a) o=obj h o:=fun o ho=>obj_set_ne h a hn (hr.lt32 ho) (fun e=>hnx (e ▸ ho))
 have hpd:∀ o b,(o,b) ∈ pd→o≠nx:=fun o b hb e=>by have:=(hr.pend o b hb).2.1;omega
 refine ⟨by omega,fun o ho=>?_,fun o o' b b' hne ho ho' hb hb'=>?_,hr.size,hr.kept,hr.plain,fun o b hb=>?_,?_,hr.fresh.set (by omega) (by omega) hn,hr.glo⟩
 ·obtain ⟨a1,a2,a3,b,a4,a5,a6⟩:=hr.own o ho
  exact ⟨by omega,a2,a3,b,by rw [hob o ho];exact a4,a5,a6⟩
 ·rw [hob o ho] at hb
  rw [hob o' ho'] at hb'
  exact hr.apart o o' b b' hne ho ho' hb hb'
 ·rcases List.mem_cons.1 hb with hb | hb
  ·injection hb with h1 h2;subst h1 h2
   exact ⟨hnx,by omega,obj_set _ _ _⟩
  ·obtain ⟨p1,p2,p3⟩:=hr.pend o b hb
   exact ⟨p1,by omega,by rw [obj_set_ne h a hn (Nat.lt_of_lt_of_le p2 hr.lim) (hpd o b hb)];exact p3⟩
 ·simp only [List.map_cons,List.nodup_cons]
  refine ⟨fun hm=>?_,hr.nodup⟩
  obtain ⟨⟨o,b⟩,hb,he⟩:=List.mem_map.1 hm
  exact hpd o b hb he
def clip (o:Nat):Nat:=if o < 2097152 then o else 1835008 + o % 262144
theorem clip_lt (o:Nat):clip o < 2097152:=by unfold clip;split<;>omega
theorem obj_clip (h:H) (o:Nat):obj h o=obj h (clip o):=by
 unfold clip
 split
 ·rfl
 ·rename_i ho
  show getL (Option AO) 6 (o % 8 ^ 6) (ch (o / 8 ^ 6) (h:N8 (L (Option AO) 6)))=getL (Option AO) 6 ((1835008 + o % 262144) % 8 ^ 6) (ch ((1835008 + o % 262144) / 8 ^ 6) (h:N8 (L (Option AO) 6)))
  have e1:(1835008 + o % 262144) % 8 ^ 6=o % 8 ^ 6:=by omega
  have e2:(1835008 + o % 262144) / 8 ^ 6=7:=by omega
  obtain ⟨k,e3⟩:∃ k,o / 8 ^ 6=k + 7:=⟨o / 8 ^ 6 - 7,by omega⟩
  rw [e1,e2,e3]
  have:∀ t:N8 (L (Option AO) 6),ch (k + 7) t=ch 7 t:=by intro t;cases t;rfl
  exact congrArg _ (this _)
theorem HR.ext_new {P:Program} {w0 w:World} {pd:List (Nat × AO)} {θ:Th} {h:H} {nx:Nat} (hr:HR P w0 pd θ h nx w) (hn:nx < 2097152) (a:AO):Ext h (setO h nx a):=by
 intro o b hb
 rw [obj_clip] at hb ⊢
 have hlt:=hr.fresh _ _ (clip_lt o) hb
 rw [obj_set_ne h a hn (clip_lt o) (by omega)]
 exact hb
theorem HR.real {P:Program} {w0 w w':World} {pd:List (Nat × AO)} {θ:Th} {h:H} {nx:Nat} (hr:HR P w0 pd θ h nx w) {o:Nat} {a:AO} (hp:(o,a) ∈ pd) {ob:Obj} (hh:w'.heap=w.heap.push ob)
  (hpl:w'.os=w.os∧w'.tape=w.tape∧w'.output=w.output) {bs sz es:Nat} (ha:OR P (θ.put o w.heap.size bs sz es) w' o a) (hsh:a.sh=[]) :
  HR P w0 (pd.filter fun q=>q.1 != o) (θ.put o w.heap.size bs sz es) h nx w'∧θ.le (θ.put o w.heap.size bs sz es):=by
 obtain ⟨hno,holt,hobj⟩:=hr.pend o a hp
 have hle:=Th.le_put hno w.heap.size bs sz es
 have hold:∀ b,b < w.heap.size→w'.heap[b]? = w.heap[b]?:=fun b hb=>by rw [hh,Array.getElem?_push_lt hb,Array.getElem?_eq_getElem hb]
 refine ⟨⟨hr.lim,?_,?_,?_,?_,?_,?_,?_,hr.fresh,hr.glo⟩,hle⟩
 ·intro p hpp
  by_cases e:p=o
  ·subst e
   exact ⟨holt,.inl (by rw [Th.put_blk];exact hr.size),by rw [Th.put_blk,hh];simp,a,hobj,ha,fun x hx=>by rw [hsh] at hx;cases hx⟩
  ·have ho':θ.has p:=hpp.resolve_left e
   obtain ⟨a1,a2,a3,b,a4,a5,a6⟩:=hr.own p ho'
   exact ⟨a1,by rw [hle.blk p ho'];exact a2,by rw [hle.blk p ho',hh];simp;omega,b,a4,a5.mono hle ho' (hold _ a3),fun x hx=>hle.has x (a6 x hx)⟩
 ·intro p p' b b' hne h1 h2 hb hb' hw hl heq
  by_cases e:p=o
  ·subst e
   have h':θ.has p':=h2.resolve_left (fun e=>hne e.symm)
   rw [Th.put_blk,hle.blk p' h'] at heq
   have:=(hr.own p' h').2.2.1
   omega
  ·have q1:θ.has p:=h1.resolve_left e
   by_cases e':p' = o
   ·subst e'
    rw [Th.put_blk,hle.blk p q1] at heq
    have:=(hr.own p q1).2.2.1
    omega
   ·have q2:θ.has p':=h2.resolve_left e'
    rw [hle.blk p q1,hle.blk p' q2] at heq
    have:=hr.apart p p' b b' hne q1 q2 hb hb' hw hl heq
    refine ⟨this.1,?_⟩
    have hx:∀ (c:AO) (p:Nat),θ.has p→c.ext (θ.put o w.heap.size bs sz es) p=c.ext θ p:=fun c p hp=>by cases c<;>simp only [AO.ext,hle.bas p hp]
    rw [hx b' p' q2,hx b p q1];exact this.2
 ·rw [hh];simp;have:=hr.size;omega
 ·intro b hb hi;rw [hold b (Nat.lt_of_lt_of_le hb hr.size)];exact hr.kept b hb hi
 ·exact ⟨hpl.1.trans hr.plain.1,hpl.2.1.trans hr.plain.2.1,hpl.2.2.trans hr.plain.2.2⟩
 ·intro p b hb
  obtain ⟨hb1,hb2⟩:=List.mem_filter.1 hb
  obtain ⟨p1,p2,p3⟩:=hr.pend p b hb1
  refine ⟨fun hx=>hx.elim (fun e=>?_) p1,p2,p3⟩
  simp [e] at hb2
 ·exact (List.Sublist.map _ List.filter_sublist).nodup hr.nodup
def NewOk (P:Program) (o:Oper) (f:OpF):Prop:=∀ en h nx κ,f en h nx κ=true→
 ∃ (a0:AO) (v:Nat→AV),a0.sh=[]∧nx < 2097152∧κ (v nx) (setO h nx a0) (nx + 1)=true∧(∀ h' nx' κ',nx' < 2097152→f en h' nx' κ' = κ' (v nx') (setO h' nx' a0) (nx' + 1))∧
  ∀ w0 pd θ (a:Act) w h1 nx1 o',ER θ en a.tmps→HR P w0 pd θ h1 nx1 w→(o',a0) ∈ pd→
   ∃ u θ' w',θ.le θ'∧VR θ' (v o') u∧HR P w0 (pd.filter fun q=>q.1 != o') θ' h1 nx1 w'∧(execOp a.eval o).run P w = .ok (.value u) w'
theorem newK_true {a:AO} {h:H} {nx:Nat} {κ:Nat→H→Nat→R} (e:newK a h nx κ=true):nx < 2097152∧κ nx (setO h nx a) (nx + 1)=true:=by
 obtain ⟨h1,h2⟩:=br_t e
 refine ⟨by simpa [Nat.blt_eq] using h1,?_⟩
 rw [put_eq,fnat_eq] at h2
 exact h2
theorem newK_eq {a:AO} {h:H} {nx:Nat} (hn:nx < 2097152) (κ:Nat→H→Nat→R):newK a h nx κ=κ nx (setO h nx a) (nx + 1):=by
 unfold newK
 rw [show Nat.blt nx 2097152=true by simpa [Nat.blt_eq] using hn]
 show put nx a h _=_
 rw [put_eq,fnat_eq]
theorem deep_ge (n:Nat):n≤8 ^ deep n:=by
 unfold deep
 cases h1:Nat.ble n 8 with
 | true=>have:=Nat.le_of_ble_eq_true h1;show n≤8 ^ 1;omega
 | false=>
  cases h2:Nat.ble n 64 with
  | true=>have:=Nat.le_of_ble_eq_true h2;show n≤8 ^ 2;omega
  | false=>
   cases h3:Nat.ble n 512 with
   | true=>have:=Nat.le_of_ble_eq_true h3;show n≤8 ^ 3;omega
   | false=>
    cases h4:Nat.ble n 4096 with
    | true=>have:=Nat.le_of_ble_eq_true h4;show n≤8 ^ 4;omega
    | false=>
     cases h5:Nat.ble n 32768 with
     | true=>have:=Nat.le_of_ble_eq_true h5;show n≤8 ^ 5;omega
     | false=>
      cases h6:Nat.ble n 2097152 with
      | true=>have:=Nat.le_of_ble_eq_true h6;show n≤8 ^ 7;omega
      | false=>
       show n≤8 ^ n
       exact Nat.le_of_lt (Nat.lt_pow_self (by omega))
noncomputable def newO (l:List AV) (n:Nat):AO:=@Bool.rec (fun _=>AO) (.ce n 0 l n (deep n) (E (deep n)) true []) (.sm l) (Nat.ble n 16)
theorem newL_eq (l:List AV) (n:Nat) (h:H) (nx:Nat) (κ:Nat→H→Nat→R):newL l n h nx κ=newK (newO l n) h nx κ:=by
 unfold newL newO
 cases Nat.ble n 16<;>rfl
theorem newO_sh (l:List AV) (n:Nat):(newO l n).sh=[]:=by unfold newO;cases Nat.ble n 16<;>rfl
theorem cellO_E {z:List AV} {zl d i:Nat}:cellO z zl d (E d) i=z[i % zl]?:=by
 unfold cellO E
 rw [getL_repL]
theorem OR_newO {P:Program} {θ:Th} {w:World} {o:Nat} {l:List AV} {ty:TypeId} (hb:w.heap[θ.blk o]? = some (.cells (toVs θ l).toArray ty (0,0))) (hbas:θ.bas o=0) (hl:Oks θ l) (h1:l.all one=true):OR P θ w o (newO l l.length):=by
 unfold newO
 cases hn:Nat.ble l.length 16 with
 | true=>exact ⟨ty,hb,hbas,hl,h1⟩
 | false=>
  refine ⟨_,ty,(0,0),hb,deep_ge _,fun i hi=>⟨l[i],?_,Oks_iff.1 hl _ (List.getElem_mem hi),List.all_eq_true.1 h1 _ (List.getElem_mem hi),?_⟩,.inl rfl,fun _=>⟨hbas,by simp,fun _=>rfl⟩,fun h=>absurd rfl h⟩
  ·rw [cellO_E,Nat.mod_eq_of_lt hi];exact List.getElem?_eq_getElem hi
  ·rw [hbas,Nat.zero_add,List.getElem?_toArray,toVs_get,List.getElem?_eq_getElem hi];rfl
section
variable {P:Program} {o:Oper} {x y:XF} {X Y:Operand}
theorem toVs_mono {θ θ':Th} (h:θ.le θ') {l:List AV} (hl:Oks θ l):toVs θ' l=toVs θ l∧Oks θ' l:=monos h l hl
theorem lay_cells {w0 w w':World} {pd:List (Nat × AO)} {θ:Th} {h:H} {nx:Nat} (hr:HR P w0 pd θ h nx w) {o':Nat} {l:List AV} {ty:TypeId} (hp:(o',newO l l.length) ∈ pd) (hw:w' = w.alloc (.cells (toVs θ l).toArray ty)) (hl:Oks θ l) (h1:l.all one=true) :
  HR P w0 (pd.filter fun q=>q.1 != o') (θ.put o' w.heap.size 0 0 0) h nx w'∧θ.le (θ.put o' w.heap.size 0 0 0):=by
 subst hw
 have hno:=(hr.pend o' _ hp).1
 have hle:=Th.le_put hno w.heap.size 0 0 0
 refine hr.real hp (w':=w.alloc (.cells (toVs θ l).toArray ty)) (ob:=.cells (toVs θ l).toArray ty) rfl ⟨rfl,rfl,rfl⟩ ?_ (newO_sh _ _)
 refine OR_newO (ty:=ty) ?_ (by simp) (toVs_mono hle hl).2 h1
 rw [Th.put_blk,(toVs_mono hle hl).1]
 show (w.heap.push _)[w.heap.size]? = _
 simp
theorem n_al {el:TypeId} {z:List AV} (hz:zeroT P el=some z) (ho:o.op = .alloc el):NewOk P o (oAl z z.length):=by
 intro en h nx κ e
 obtain ⟨ti,zv,i1,i2,i3,i4⟩:=zeroT_some hz
 have e:newL z z.length h nx (fun o h nx=>κ (.p o 0) h nx)=true:=e
 rw [newL_eq] at e
 obtain ⟨hn,e1⟩:=newK_true e
 refine ⟨newO z z.length,fun o=>.p o 0,newO_sh _ _,hn,e1,fun h' nx' κ' hn'=>?_,fun w0 pd θ a w h1 nx1 o' hE hR hp=>?_⟩
 ·show newL z z.length h' nx' _=_
  rw [newL_eq,newK_eq hn']
 ·obtain ⟨k1,k2⟩:=lay_cells hR hp (ty:=el) rfl (i4 θ).1 i3
  refine ⟨.pointer (some ⟨w.heap.size,0,none⟩),_,_,k2,⟨Th.put_has ..,by simp [toV]⟩,k1,?_⟩
  simp [execOp,ho,Instr.alloc,zeroValue,typeInfo,i1,i2,newVar,newRow,(i4 θ).2]
theorem n_bx {el:TypeId} (hx:XOk x X) (ho:o.op = .box el X):NewOk P o (oBx x):=by
 intro en h nx κ e
 obtain ⟨v,hv,hr⟩:=hx en
 simp only [oBx,hv] at e
 obtain ⟨hc,e1,hcr⟩:=cellsK_true e
 simp only [fnat_eq,lenN_eq,newL_eq] at e1
 obtain ⟨hn,e2⟩:=newK_true e1
 refine ⟨newO (cellsV v) (cellsV v).length,fun o=>.p o 0,newO_sh _ _,hn,e2,fun h' nx' κ' hn'=>?_,fun w0 pd θ a w h1 nx1 o' hE hR hp=>?_⟩
 ·simp only [oBx,hv,hc,fnat_eq,lenN_eq,newL_eq,newK_eq hn']
 ·obtain ⟨q1,q2,q3⟩:=hcr (hr θ a hE)
  obtain ⟨k1,k2⟩:=lay_cells hR hp (ty:=el) rfl q1 q2
  refine ⟨.pointer (some ⟨w.heap.size,0,none⟩),_,_,k2,⟨Th.put_has ..,by simp [toV]⟩,k1,?_⟩
  have hcs:(a.eval X).cells=(toVs θ (cellsV v)).toArray:=by rw [← q3]
  simp [execOp,ho,Instr.box,newVar,newRow,hcs]
theorem rep_get {α:Type} {l:List α}:∀ (n i:Nat),i < n * l.length→(rep n l)[i]? = l[i % l.length]?
 | 0,i,h=>by simp at h
 | n + 1,i,h=>by
  rw [rep]
  by_cases hi:i < l.length
  ·rw [List.getElem?_append_left hi,Nat.mod_eq_of_lt hi]
  ·rw [List.getElem?_append_right (by omega),rep_get n _ (by rw [Nat.succ_mul] at h;omega)]
   congr 1
   rw [← Nat.mod_eq_sub_mod (by omega)]
theorem rep_length {α:Type} (l:List α):∀ n,(rep n l).length=n * l.length
 | 0=>by simp [rep]
 | n + 1=>by rw [rep,List.length_append,rep_length l n,Nat.succ_mul];omega
theorem rep_all {p:AV→Bool} {l:List AV} (h:l.all p=true):∀ n,(rep n l).all p=true
 | 0=>rfl
 | n + 1=>by rw [rep,List.all_append,h,rep_all h n];rfl
theorem rep_oks {θ:Th} {l:List AV} (h:Oks θ l):∀ n,Oks θ (rep n l)
 | 0=>trivial
 | n + 1=>Oks_append.2 ⟨h,rep_oks h n⟩
theorem zeros_eq {θ:Th} {z:List AV} {zc:Array Value} (hz:zc=(toVs θ z).toArray) (n:Nat):(Array.range (n * z.length)).map (fun i=>zc[i % zc.size]!)=(toVs θ (rep n z)).toArray:=by
 have hsz:zc.size=z.length:=by rw [hz];simp
 apply Array.ext_getElem?
 intro i
 by_cases hi:i < n * z.length
 ·have hz0:0 < z.length:=by rcases Nat.eq_zero_or_pos z.length with h | h;· rw [h] at hi;omega
                            ·exact h
  have hlt:i % z.length < z.length:=Nat.mod_lt _ hz0
  rw [Array.getElem?_map,Array.getElem?_range,if_pos hi]
  simp only [Option.map_some,List.getElem?_toArray,toVs_get,rep_get n i hi,hsz]
  rw [List.getElem?_eq_getElem hlt]
  subst hz
  simp only [Option.map_some,Option.some.injEq]
  rw [getElem!_pos _ _ (by simpa using hlt)]
  simp [toVs_map]
 ·rw [Array.getElem?_eq_none (by simp;omega),Array.getElem?_eq_none (by simp [rep_length];omega)]
theorem n_bsl {t el:TypeId} {len s:Nat} {ps:Array (Nat × Operand)} {pts:List Pt} {z:List AV} (hu:P.underlying t=some (.slice el)) (hz:zeroT P el=some z) (hs:sizeT P el=some s) (hzs:z.length=s) (hb:len * s≤2 ^ 24)
  (hp:parts (fun i=>some (i * s,s)) ps.toList=some pts) (ho:o.op = .buildSlice t len ps):NewOk P o (oBsl (rep len z) (len * s) len (dP pts)):=by
 intro en h nx κ e
 subst hzs
 obtain ⟨ti,zv,i1,i2,i3,i4⟩:=zeroT_some hz
 obtain ⟨l,k1,k2,k3⟩:=fill_ok (place':=fun i=>some (i * z.length,z.length)) (fun i r hr=>hr) hp e
 have hll:l.length=len * z.length:=by rw [k2,rep_length]
 have e:newL l (len * z.length) h nx (fun o h nx=>κ (.sl o 0 len (some len)) h nx)=true:=by
  have:=k1 fun l=>newL l (len * z.length) h nx (fun o h nx=>κ (.sl o 0 len (some len)) h nx)
  rw [← this];exact e
 rw [newL_eq,← hll] at e
 obtain ⟨hn,e1⟩:=newK_true e
 refine ⟨newO l l.length,fun o=>.sl o 0 len (some len),newO_sh _ _,hn,e1,fun h' nx' κ' hn'=>?_,fun w0 pd θ a w h1 nx1 o' hE hR hp'=>?_⟩
 ·refine (k1 _).trans ?_
  rw [newL_eq,← hll,newK_eq hn']
 ·obtain ⟨j1,j2,j3⟩:=k3 θ a hE (rep_oks (i4 θ).1 _) (rep_all i3 _)
  obtain ⟨q1,q2⟩:=lay_cells hR hp' (ty:=el) rfl j1 j2
  refine ⟨.slice (some ⟨w.heap.size,0,none⟩) len len,_,_,q2,⟨Th.put_has ..,by simp [toV]⟩,q1,?_⟩
  have hps:(ps.map fun (i,x)=>(i,a.eval x)).toList=ps.toList.map fun q=>(q.1,a.eval q.2):=by simp
  have hn24:¬ (len * z.length > 2 ^ 24):=by omega
  have hz':(zeroValue el).run P w = .ok zv w:=by simp [zeroValue,typeInfo,i1,i2]
  by_cases h0:len * z.length=0
  ·have hrow:(Array.range (len * z.length)).map (fun i=>(#[]:Array Value)[i % (#[]:Array Value).size]!)=(toVs θ (rep len z)).toArray:=by
    have:rep len z=[]:=List.eq_nil_of_length_eq_zero (by rw [rep_length];exact h0)
    rw [this,h0];simp [toVs]
   simp only [execOp,ho,Instr.buildSlice,Sem.run_bind,run_underlying hu,Result.andThen,run_size hs,if_neg hn24,if_pos h0,Sem.run_pure,hps,hrow,j3,newRow,newObj]
   rfl
  ·have hrow:=zeros_eq (i4 θ).2 len
   simp only [execOp,ho,Instr.buildSlice,Sem.run_bind,run_underlying hu,Result.andThen,run_size hs,if_neg hn24,if_neg h0,Sem.run_pure,hz',hps,hrow,j3,newRow,newObj]
   rfl
theorem n_mks {t el:TypeId} {s b:Nat} {z:List AV} (hx:XOk x X) (hy:XOk y Y) (hu:P.underlying t=some (.slice el)) (hz:zeroT P el=some z) (hs:sizeT P el=some s) (hzs:z.length=s) (hs0:0 < s) (hb:bytesT P el=some b)
  (ho:o.op = .makeSlice t X Y):NewOk P o (oMks x y s z b):=by
 intro en h nx κ e
 subst hzs
 obtain ⟨v,hv,hr⟩:=hx en
 obtain ⟨v2,hv2,hr2⟩:=hy en
 simp only [oMks,hv,hv2] at e
 obtain ⟨kl,l,rfl,e1⟩:=asN_true e
 obtain ⟨kc,c,rfl,e2⟩:=asN_true e1
 obtain ⟨h1,e3⟩:=br_t e2
 obtain ⟨h2,e4⟩:=br_t e3
 obtain ⟨h3,e5⟩:=br_t e4
 rw [fnat_eq] at e5
 obtain ⟨hn,e6⟩:=newK_true e5
 have h1':l≤c:=Nat.le_of_ble_eq_true h1
 have h2':c≤9223372036854775807:=Nat.le_of_ble_eq_true h2
 have h3':b * c≤281474976710656:=Nat.le_of_ble_eq_true h3
 obtain ⟨ti,zv,i1,i2,i3,i4⟩:=zeroT_some hz
 have hdo:∀ h' nx' κ',nx' < 2097152→oMks x y z.length z b en h' nx' κ' = κ' (.sl nx' 0 l (some c)) (setO h' nx' (.ce (c * z.length) 0 z z.length (deep (c * z.length)) (E (deep (c * z.length))) true [])) (nx' + 1):=by
  intro h' nx' κ' hn'
  simp only [oMks,hv,hv2]
  show br (Nat.ble l c) (br _ (br _ (fnat (Nat.mul c z.length) fun n=>newK _ h' nx' fun o h nx=>κ' (.sl o 0 l (some c)) h nx) false) false) false=_
  rw [h1,h2,h3,fnat_eq]
  show newK _ h' nx' (fun o h nx=>κ' (.sl o 0 l (some c)) h nx)=_
  rw [newK_eq hn']
  rfl
 refine ⟨.ce (c * z.length) 0 z z.length (deep (c * z.length)) (E (deep (c * z.length))) true [],fun o=>.sl o 0 l (some c),rfl,hn,e6,hdo,fun w0 pd θ a w hh nx1 o' hE hR hp=>?_⟩
 have hno:=(hR.pend o' _ hp).1
 have hle:=Th.le_put hno w.heap.size 0 0 0
 have hwr:∀ n:Nat,n≤c→IntKind.i64.wrap (n:Int)=n:=fun n hn=>by
  have:=wrap_nat (k:=3) (m:=n) (by show n < 9223372036854775808;omega)
  exact this
 have hkd:kindOf kl=kindOf kl:=rfl
 obtain ⟨q1,q2⟩:=hR.real hp (ob:=.cells (toVs θ (rep c z)).toArray el) (w':=w.alloc (.cells (toVs θ (rep c z)).toArray el)) rfl ⟨rfl,rfl,rfl⟩ (bs:=0) (sz:=0) (es:=0) (by
  refine ⟨(toVs θ (rep c z)).toArray,el,(0,0),?_,deep_ge _,fun i hi=>?_,.inl rfl,fun _=>⟨by simp,by simp [rep_length],fun _=>rfl⟩,fun h=>absurd rfl h⟩
  ·rw [Th.put_blk]
   show (w.heap.push _)[w.heap.size]? = _
   simp
  ·have hm:i % z.length < z.length:=Nat.mod_lt _ hs0
   refine ⟨z[i % z.length],?_,(toVs_mono hle (i4 θ).1).2 |> fun h=>Oks_iff.1 h _ (List.getElem_mem hm),List.all_eq_true.1 i3 _ (List.getElem_mem hm),?_⟩
   ·rw [cellO_E];exact List.getElem?_eq_getElem hm
   ·rw [Th.put_bas,Nat.zero_add,List.getElem?_toArray,toVs_get,rep_get c i hi,List.getElem?_eq_getElem hm]
    simp only [Option.map_some,Option.some.injEq]
    exact (mono hle _ (Oks_iff.1 (i4 θ).1 _ (List.getElem_mem hm))).1.symm) rfl
 refine ⟨.slice (some ⟨w.heap.size,0,none⟩) l c,_,_,q2,⟨Th.put_has ..,by simp [toV]⟩,q1,?_⟩
 have hX:=(hr θ a hE).i
 have hY:=(hr2 θ a hE).i
 obtain ⟨bi,hb1,hb2⟩:∃ i,P.info? el=some i∧i.bytes=b:=by
  unfold bytesT at hb
  exact Option.map_eq_some_iff.1 hb
 have hti:bi=ti:=by rw [i1] at hb1;injection hb1 with hb1;exact hb1.symm
 subst hti
 have hw1:=hwr l h1'
 have hw2:=hwr c (Nat.le_refl _)
 have t1:¬ ((c:Int) < 0):=by omega
 have t2:¬ ((bi.bytes:Int) * (c:Int) > 2 ^ 48):=by
  rw [hb2]
  rw [← Int.natCast_mul]
  have:(2:Int) ^ 48=281474976710656:=by decide
  omega
 have t3:¬ ((l:Int) < 0):=by omega
 have t4:¬ ((l:Int) > (c:Int)):=by omega
 have hz':(zeroValue el).run P w = .ok zv w:=by simp [zeroValue,typeInfo,i1,i2]
 by_cases h0:c * z.length=0
 ·have hrow:(Array.range (c * z.length)).map (fun i=>(#[]:Array Value)[i % (#[]:Array Value).size]!)=(toVs θ (rep c z)).toArray:=by
   have:rep c z=[]:=List.eq_nil_of_length_eq_zero (by rw [rep_length];exact h0)
   rw [this,h0];simp [toVs]
  simp only [execOp,ho,Instr.makeSlice,Sem.run_bind,run_underlying hu,Result.andThen,hX,hY,asInt,asIntOf,Sem.run_pure,typeInfo,run_program,i1,Int.ofNat_eq_natCast,hw1,hw2,t1,t2,t3,t4,decide_false,Bool.or_false,Bool.false_or,Bool.false_eq_true,if_false,run_askRoom,Int.toNat_natCast,run_size hs,if_pos h0,hrow,newRow,newObj]
  rfl
 ·have hrow:=zeros_eq (i4 θ).2 c
  simp only [execOp,ho,Instr.makeSlice,Sem.run_bind,run_underlying hu,Result.andThen,hX,hY,asInt,asIntOf,Sem.run_pure,typeInfo,run_program,i1,Int.ofNat_eq_natCast,hw1,hw2,t1,t2,t3,t4,decide_false,Bool.or_false,Bool.false_or,Bool.false_eq_true,if_false,run_askRoom,Int.toNat_natCast,run_size hs,if_neg h0,hz',hrow,newRow,newObj]
  rfl
end
end Go.AM

namespace Go.AM
open Go
def fin:Next→Option Value
 | .value v=>some v
 | .skip=>some Go.undef
 | _=>none
def OpOk (P:Program) (o:Oper) (f:OpF):Prop:=∀ en h nx κ w0 pd θ (a:Act) w,ER θ en a.tmps→HR P w0 pd θ h nx w→f en h nx κ=true→
 ∃ v u θ' h' nx' w' n,θ.le θ'∧VR θ' v u∧HR P w0 pd θ' h' nx' w'∧κ v h' nx' = true∧(execOp a.eval o).run P w = .ok n w'∧fin n=some u
section
variable {P:Program} {o:Oper} {x y z:XF} {X Y Z:Operand}
theorem ReadOk.op {f:OpF} (hf:ReadOk P o f):OpOk P o f:=fun en h nx κ w0 pd θ a w hE hR e=>
 let ⟨v,h1,h2⟩:=hf en h nx κ e
 let ⟨u,h3,h4⟩:=h2 θ a w w0 pd nx hE hR
 ⟨v,u,θ,h,nx,w,_,.refl θ,h3,hR,by have h5:=h1 h (Ext.refl h) nx κ;rw [h5] at e;exact e,h4,rfl⟩
theorem NewOk.op {f:OpF} (hf:NewOk P o f):OpOk P o f:=by
 intro en h nx κ w0 pd θ a w hE hR e
 obtain ⟨a0,v,h1,h2,h3,_,h5⟩:=hf en h nx κ e
 obtain ⟨u,θ',w',k1,k2,k3,k4⟩:=h5 w0 _ θ a w _ _ nx hE (hR.pended h2 a0) (List.mem_cons_self ..)
 refine ⟨v nx,u,θ',_,_,w',_,k1,k2,?_,h3,k4,rfl⟩
 have:((nx,a0) :: pd).filter (fun q=>q.1 != nx)=pd:=by
  rw [List.filter_cons]
  simp only [bne_self_eq_false,Bool.false_eq_true,if_false]
  apply List.filter_eq_self.2
  intro q hq
  have:=(hR.pend q.1 q.2 hq).2.1
  simp;omega
 rw [this] at k3
 exact k3
theorem vr_undef (θ:Th):VR θ undef Go.undef:=⟨trivial,rfl⟩
theorem a_st {t:TypeId} {n:Nat} (hx:XOk x X) (hy:XOk y Y) (hn:sizeT P t=some n) (ho:o.op = .store t X Y):OpOk P o (oSt x y n):=by
 intro en h nx κ w0 pd θ a w hE hR e
 obtain ⟨v,hv,hr⟩:=hx en
 obtain ⟨v2,hv2,hr2⟩:=hy en
 simp only [oSt,hv,hv2] at e
 obtain ⟨b,off,rfl,e1⟩:=asP_true e
 obtain ⟨_,e2,hcr⟩:=cellsK_true e1
 obtain ⟨hs,e3⟩:=br_t e2
 have hs':(cellsV v2).length=n:=by rw [← lenN_eq];exact Nat.eq_of_beq_eq_true hs
 obtain ⟨q1,q2,q3⟩:=hcr (hr2 θ a hE)
 obtain ⟨hp,hh⟩:=(hr θ a hE).p
 obtain ⟨h',k1,k2,k3⟩:=wr_ok hR hh q1 q2 e3
 refine ⟨undef,Go.undef,θ,h',nx,_,.skip,.refl θ,vr_undef θ,k2,k1,?_,rfl⟩
 have hsz:(a.eval Y).cells.size=n:=by rw [← Array.length_toList,q3,toVs_length];exact hs'
 have hst:=k3.store (toVs_one q2) P
 simp only [execOp,ho,Instr.storeAt,hp,Instr.sureAddr,storeVar,Sem.run_bind,Sem.run_pure,Result.andThen,run_size hn,hsz,q3,hst,ne_eq,not_true,if_false]
theorem run_setMap {w:World} {r:Nat} {es:Array MapEntry} {clock:Nat} (ob:Obj) (hb:w.heap[r]? = some (.map es clock)):(setObj r ob).run P w = .ok () { w with heap:=w.heap.setIfInBounds r ob }:=by
 simp [setObj,Sem.run,hb]
theorem heap_set {w:World} {r:Nat} {ob ob':Obj} (h:w.heap[r]? = some ob'):(({ w with heap:=w.heap.setIfInBounds r ob }:World)).heap[r]? = some ob:=by
 have:r < w.heap.size:=(Array.getElem?_eq_some_iff.1 h).1
 simp [this]
theorem map_upd {w0 w:World} {pd:List (Nat × AO)} {θ:Th} {h:H} {nx:Nat} (hR:HR P w0 pd θ h nx w) {b:Nat} {a a':AO} {ob ob':Obj} (hh:θ.has b) (hb:obj h b=some a) (hw:a.wr=true) (hsh:a.sh=[]) (hsh':a'.sh=[])
  (hob:w.heap[θ.blk b]? = some ob') (hor:OR P θ { w with heap:=w.heap.setIfInBounds (θ.blk b) ob } b a'):HR P w0 pd θ (setO h b a') nx { w with heap:=w.heap.setIfInBounds (θ.blk b) ob }:=by
 have:=hR.upd hh hb hw (w':={ w with heap:=w.heap.setIfInBounds (θ.blk b) ob }) (a':=a') (by simp) (fun c hc=>by simp [Array.getElem?_setIfInBounds_ne (Ne.symm hc)]) ⟨rfl,rfl,rfl⟩ hor (by rw [hsh'];simp)
 rw [hsh] at this
 exact this
theorem setE_get {k v:AV}:∀ {es:List ME} {i:Nat},∀ j,(setE k v es i)[j]? = if j=i then (es[i]?).map (fun | .mk _ _ b=>.mk k v b) else es[j]?
 | [],i,j=>by simp [setE]
 | .mk k' v' b :: es,0,j=>by
  cases j with
  | zero=>simp [setE]
  | succ j=>simp [setE]
 | e :: es,i + 1,j=>by
  cases j with
  | zero=>simp [setE]
  | succ j=>simp [setE,setE_get (es:=es) (i:=i) j]
theorem setKy_get {k:AV}:∀ {es:List ME} {i:Nat},∀ j,(setKy k es i)[j]? = if j=i then (es[i]?).map (fun | .mk _ v b=>.mk k v b) else es[j]?
 | [],i,j=>by simp [setKy]
 | .mk k' v' b :: es,0,j=>by
  cases j with
  | zero=>simp [setKy]
  | succ j=>simp [setKy]
 | e :: es,i + 1,j=>by
  cases j with
  | zero=>simp [setKy]
  | succ j=>simp [setKy,setKy_get (es:=es) (i:=i) j]
theorem mem_of_get {es es':List ME} {θ:Th} (h:∀ e ∈ es,meOk θ e) {i:Nat} {f:ME→ME} (hf:∀ e,es[i]? = some e→meOk θ (f e)) (hg:∀ j,es'[j]? = if j=i then (es[i]?).map f else es[j]?):∀ e ∈ es',meOk θ e:=by
 intro e he
 obtain ⟨j,hj⟩:=List.getElem?_of_mem he
 rw [hg j] at hj
 split at hj
 ·obtain ⟨e',h1,rfl⟩:=Option.map_eq_some_iff.1 hj
  exact hf e' h1
 ·exact h e (List.mem_of_getElem? hj)
theorem map_modify {es es':List ME} {θ:Th} {i:Nat} {f:ME→ME} {g:MapEntry→MapEntry} (hg:∀ j,es'[j]? = if j=i then (es[i]?).map f else es[j]?) (hfg:∀ e,es[i]? = some e→meV θ (f e)=g (meV θ e)) :
  (es.map (meV θ)).toArray.modify i g=(es'.map (meV θ)).toArray:=by
 apply Array.ext_getElem?
 intro j
 rw [Array.getElem?_modify]
 simp only [List.getElem?_toArray,List.getElem?_map,hg j]
 by_cases hj:i=j
 ·subst hj
  rw [if_pos rfl,if_pos rfl]
  cases he:es[i]? with
  | none=>rfl
  | some e=>simp [hfg e he]
 ·rw [if_neg hj,if_neg (Ne.symm hj)]
theorem keyStays {w:World} {old new:Value} (h:Instr.sameBits 10000 old new=true):(Instr.keyThatStays old new).run P w = .ok new w:=by
 simp [Instr.keyThatStays,h]
theorem a_mpu {t kt el:TypeId} {g:Bool} {ks:List Nat} (hx:XOk x X) (hy:XOk y Y) (hz:XOk z Z) (hu:P.underlying t=some (.map kt el)) (hf:flatT P kt=some (g,ks)) (ho:o.op = .mapUpdate t X Y Z∨o.op = .insert t X Y Z):OpOk P o (oMpu g ks x y z):=by
 intro en h nx κ w0 pd θ a w hE hR e
 obtain ⟨v,hv,hr⟩:=hx en
 obtain ⟨k,hk,hrk⟩:=hy en
 obtain ⟨q,hq,hrq⟩:=hz en
 simp only [oMpu,hv,hk,hq] at e
 obtain ⟨b,rfl,e1⟩:=asM_true e
 obtain ⟨e2,_,hck⟩:=kyT_ok hf e1
 obtain ⟨ob,hb,e3⟩:=get_true e2
 obtain ⟨es,cl,rfl,e4⟩:=asMp_true e3
 obtain ⟨r,h1,h2⟩:=updK_true (eqT_det hf) e4
 rw [h2] at e4
 obtain ⟨hp,hh⟩:=(hr θ a hE).m
 obtain ⟨hm,hes⟩:=hR.obj_ hh hb
 obtain ⟨hfk,hsame⟩:=find_hit hf h1 (hrk θ a hE) hes w
 have hck:=hck θ _ (hrk θ a hE) false w
 have run:(Instr.mapUpdate t (.map (some (θ.blk b))) (a.eval Y) (a.eval Z)).run P w=(do
   match r.map fun i=>(i,toV θ (vat es i)) with
   | some (i,_)=>do
    let key ← Instr.keyThatStays ((((es.map (meV θ)).toArray[i]?).map (·.key)).getD (a.eval Y)) (a.eval Y)
    setObj (θ.blk b) (.map ((es.map (meV θ)).toArray.modify i fun e=>{ e with key,val:=a.eval Z }) cl)
   | none=>setObj (θ.blk b) (.map ((es.map (meV θ)).toArray.push { key:=a.eval Y,val:=a.eval Z,born:=cl }) (cl + 1)):Sem Unit).run P w:=by
  simp only [Instr.mapUpdate,Sem.run_bind,run_underlying hu,Result.andThen,run_getMap hm,hck,List.toList_toArray,hfk]
  cases r<;>rfl
 have fin':∀ {w'},(Instr.mapUpdate t (.map (some (θ.blk b))) (a.eval Y) (a.eval Z)).run P w = .ok () w'→(execOp a.eval o).run P w = .ok .skip w':=by
  intro w' hw
  rcases ho with ho | ho<;>simp only [execOp,ho,hp,Sem.run_bind,hw,Result.andThen,Sem.run_pure]
 cases r with
 | none=>
  simp only [appK_eq,fnat_eq,put_eq] at e4
  refine ⟨undef,Go.undef,θ,_,nx,_,.skip,.refl θ,vr_undef θ,?_,e4,fin' (run.trans (run_setMap _ hm)),rfl⟩
  refine map_upd hR hh hb rfl rfl rfl hm ⟨?_,?_⟩
  ·rw [heap_set hm]
   simp [meV,(hrk θ a hE).2,(hrq θ a hE).2]
  ·intro e he
   rcases List.mem_append.1 he with he | he
   ·exact hes e he
   ·rw [List.mem_singleton.1 he];exact ⟨(hrk θ a hE).1,(hrq θ a hE).1⟩
 | some i=>
  simp only [put_eq] at e4
  obtain ⟨e0,hi,hsb⟩:=hsame i rfl
  have hkey:(((es.map (meV θ)).toArray[i]?).map (·.key)).getD (a.eval Y)=(meV θ e0).key:=by simp [hi]
  refine ⟨undef,Go.undef,θ,_,nx,{ w with heap:=w.heap.setIfInBounds (θ.blk b) (.map ((es.map (meV θ)).toArray.modify i fun e=>{ e with key:=a.eval Y,val:=a.eval Z }) cl) },.skip,.refl θ,vr_undef θ,?_,e4,fin' (run.trans ?_),rfl⟩
  rotate_left
  ·simp only [Option.map_some,hkey,Sem.run_bind,keyStays hsb,Result.andThen]
   exact run_setMap _ hm
  ·refine map_upd hR hh hb rfl rfl rfl hm ⟨?_,?_⟩
   ·rw [heap_set hm,map_modify setE_get]
    intro e _
    obtain ⟨k',v',b'⟩:=e
    simp [meV,(hrk θ a hE).2,(hrq θ a hE).2]
   ·refine mem_of_get hes ?_ setE_get
    intro e _
    obtain ⟨k',v',b'⟩:=e
    exact ⟨(hrk θ a hE).1,(hrq θ a hE).1⟩
theorem a_mpe {t kt el:TypeId} {g:Bool} {ks:List Nat} {zz:AV} (hx:XOk x X) (hy:XOk y Y) (hu:P.underlying t=some (.map kt el)) (hf:flatT P kt=some (g,ks)) (hz:zeroV P el=some zz) (ho:o.op = .mapEntry t X Y):OpOk P o (oMpe g ks x y zz):=by
 intro en h nx κ w0 pd θ a w hE hR e
 obtain ⟨v,hv,hr⟩:=hx en
 obtain ⟨k,hk,hrk⟩:=hy en
 simp only [oMpe,hv,hk] at e
 obtain ⟨b,rfl,e1⟩:=asM_true e
 obtain ⟨e2,_,hck⟩:=kyT_ok hf e1
 obtain ⟨ob,hb,e3⟩:=get_true e2
 obtain ⟨es,cl,rfl,e4⟩:=asMp_true e3
 obtain ⟨r,h1,h2⟩:=entK_true (eqT_det hf) e4
 rw [h2] at e4
 obtain ⟨zi,zv,z1,z2,z3⟩:=zeroV_some hz
 obtain ⟨hp,hh⟩:=(hr θ a hE).m
 obtain ⟨hm,hes⟩:=hR.obj_ hh hb
 obtain ⟨hfk,hsame⟩:=find_hit hf h1 (hrk θ a hE) hes w
 have hck:=hck θ _ (hrk θ a hE) false w
 have hz':(zeroValue el).run P w = .ok zv w:=by simp [zeroValue,typeInfo,z1,z2]
 have fin':∀ {w' u},(Instr.mapEntry t (.map (some (θ.blk b))) (a.eval Y)).run P w = .ok u w'→(execOp a.eval o).run P w = .ok (.value u) w':=by
  intro w' u hw
  simp only [execOp,ho,hp,Sem.run_bind,hw,Result.andThen,Sem.run_pure]
 cases r with
 | none=>
  simp only [appK_eq,fnat_eq,put_eq] at e4
  refine ⟨.tu [zz,.i 3 (.ofNat cl)],.tuple #[zv,goInt cl],θ,_,nx,_,.value _,.refl θ,⟨⟨(z3 θ).1,trivial,trivial⟩,by rw [(z3 θ).2];rfl⟩,?_,e4,fin' (w':={ w with heap:=w.heap.setIfInBounds (θ.blk b) (.map ((es.map (meV θ)).toArray.push { key:=a.eval Y,val:=zv,born:=cl }) (cl + 1)) }) ?_,rfl⟩
  ·refine map_upd hR hh hb rfl rfl rfl hm ⟨?_,?_⟩
   ·rw [heap_set hm]
    simp [meV,(hrk θ a hE).2,(z3 θ).2]
   ·intro e he
    rcases List.mem_append.1 he with he | he
    ·exact hes e he
    ·rw [List.mem_singleton.1 he];exact ⟨(hrk θ a hE).1,(z3 θ).1⟩
  ·simp only [Instr.mapEntry,Sem.run_bind,run_underlying hu,Result.andThen,run_getMap hm,hck,List.toList_toArray,hfk,Option.map_none,hz',run_setMap _ hm,Sem.run_pure]
 | some i=>
  simp only [put_eq] at e4
  obtain ⟨e0,hi,hsb⟩:=hsame i rfl
  have hlt:=h1.lt i rfl
  have hkey:(((es.map (meV θ)).toArray[i]?).map (·.key)).getD (a.eval Y)=(meV θ e0).key:=by simp [hi]
  have hborn:(((es.map (meV θ)).toArray[i]?).map (fun e:MapEntry=>(e.born:Int))).getD 0=(bat es i:Int):=by
   unfold bat
   simp only [List.getElem?_toArray,List.getElem?_map,hi]
   obtain ⟨k',v',b'⟩:=e0
   rfl
  refine ⟨.tu [vat es i,.i 3 (.ofNat (bat es i))],.tuple #[toV θ (vat es i),goInt (bat es i)],θ,_,nx,_,.value _,.refl θ,⟨⟨vat_ok hlt hes,trivial,trivial⟩,rfl⟩,?_,e4,fin' (w':={ w with heap:=w.heap.setIfInBounds (θ.blk b) (.map ((es.map (meV θ)).toArray.modify i fun e=>{ e with key:=a.eval Y }) cl) }) ?_,rfl⟩
  ·refine map_upd hR hh hb rfl rfl rfl hm ⟨?_,?_⟩
   ·rw [heap_set hm,map_modify setKy_get]
    intro e _
    obtain ⟨k',v',b'⟩:=e
    simp [meV,(hrk θ a hE).2]
   ·refine mem_of_get hes ?_ setKy_get
    intro e he
    have:=hes e (List.mem_of_getElem? he)
    obtain ⟨k',v',b'⟩:=e
    exact ⟨(hrk θ a hE).1,this.2⟩
  ·simp only [Instr.mapEntry,Sem.run_bind,run_underlying hu,Result.andThen,run_getMap hm,hck,List.toList_toArray,hfk,Option.map_some,hkey,keyStays hsb,run_setMap _ hm,Sem.run_pure,hborn]
def ME.born:ME→Nat
 | .mk _ _ b=>b
def ME.setV (v:AV):ME→ME
 | .mk k _ b=>.mk k v b
theorem ensK_true {s:Nat} {v:AV}:∀ {es:List ME} {κ:List ME→R},ensK s v es κ=true→∃ (i:Nat) (e0:ME),es[i]? = some e0∧e0.born=s∧(∀ (j:Nat) (e:ME),j < i→es[j]? = some e→e.born≠s)∧
  ∃ es':List ME,κ es' = true∧∀ j:Nat,es'[j]? = if j=i then (es[i]?).map (ME.setV v) else es[j]?
 | [],κ,e=>by cases e
 | .mk k' v' b :: es,κ,e=>by
  rcases br_true (show br (Nat.beq b s) (κ (.mk k' v b :: es)) (ensK s v es fun r=>κ (.mk k' v' b :: r))=true from e) with ⟨h1,h2⟩ | ⟨h1,h2⟩
  ·refine ⟨0,_,rfl,Nat.eq_of_beq_eq_true h1,fun j _ hj=>by omega,_,h2,fun j=>?_⟩
   cases j<;>simp [ME.setV]
  ·obtain ⟨i,e0,k1,k2,k3,es',k4,k5⟩:=ensK_true h2
   refine ⟨i + 1,e0,by simpa using k1,k2,fun j e hj he=>?_,_,k4,fun j=>?_⟩
   ·cases j with
    | zero=>
     simp at he;subst he
     intro hb
     have hb:b=s:=hb
     subst hb
     simp at h1
    | succ j=>exact k3 j e (by omega) (by simpa using he)
   ·cases j with
    | zero=>simp
    | succ j=>simp [k5 j]
theorem a_ens {t:TypeId} (hx:XOk x X) (hy:XOk y Y) (hz:XOk z Z) (ho:o.op = .entryStore t X Y Z):OpOk P o (oEns x y z):=by
 intro en h nx κ w0 pd θ a w hE hR e
 obtain ⟨v,hv,hr⟩:=hx en
 obtain ⟨k,hk,hrk⟩:=hy en
 obtain ⟨q,hq,hrq⟩:=hz en
 simp only [oEns,hv,hk,hq] at e
 obtain ⟨b,rfl,e1⟩:=asM_true e
 obtain ⟨kd,s,rfl,e2⟩:=asN_true e1
 obtain ⟨ob,hb,e3⟩:=get_true e2
 obtain ⟨es,cl,rfl,e4⟩:=asMp_true e3
 obtain ⟨i,e0,k1,k2,k3,es',k4,k5⟩:=ensK_true e4
 simp only [put_eq] at k4
 obtain ⟨hp,hh⟩:=(hr θ a hE).m
 obtain ⟨hm,hes⟩:=hR.obj_ hh hb
 have hfi:(es.map (meV θ)).toArray.findIdx? (fun e=>(e.born:Int) == (Int.ofNat s))=some i:=by
  rw [List.findIdx?_toArray,List.findIdx?_eq_some_iff_getElem]
  have hlt:i < es.length:=(List.getElem?_eq_some_iff.1 k1).1
  refine ⟨by simpa using hlt,?_,fun j hj=>?_⟩
  ·have:es[i]=e0:=(List.getElem?_eq_some_iff.1 k1).2
   obtain ⟨k',v',b'⟩:=e0
   have k2:b' = s:=k2
   simp only [List.getElem_map,this,meV]
   subst k2
   simp
  ·have:=k3 j _ hj (List.getElem?_eq_getElem (by omega))
   simp only [List.getElem_map]
   cases hej:es[j]'(by omega) with
   | mk k' v' b'=>
    rw [hej] at this
    have this:b'≠s:=this
    simp only [meV]
    simp only [Int.ofNat_eq_natCast,beq_iff_eq,Int.natCast_inj]
    exact this
 refine ⟨undef,Go.undef,θ,_,nx,{ w with heap:=w.heap.setIfInBounds (θ.blk b) (.map ((es.map (meV θ)).toArray.modify i fun e=>{ e with val:=a.eval Z }) cl) },.skip,.refl θ,vr_undef θ,?_,k4,?_,rfl⟩
 ·refine map_upd hR hh hb rfl rfl rfl hm ⟨?_,?_⟩
  ·rw [heap_set hm,map_modify k5]
   intro e _
   obtain ⟨k',v',b'⟩:=e
   simp [meV,ME.setV,(hrq θ a hE).2]
  ·refine mem_of_get hes ?_ k5
   intro e he
   have:=hes e (List.mem_of_getElem? he)
   obtain ⟨k',v',b'⟩:=e
   exact ⟨this.1,(hrq θ a hE).1⟩
 ·have hY:=(hrk θ a hE).i
  simp only [execOp,ho,hp,hY,Instr.entryStore,Sem.run_bind,run_getMap hm,Result.andThen,asInt,asIntOf,Sem.run_pure,hfi,run_setMap _ hm]
theorem erase_map {α β:Type} (f:α→β):∀ (l:List α) (i:Nat),(l.map f).eraseIdx i=(l.eraseIdx i).map f
 | [],i=>by simp
 | x :: l,0=>by simp
 | x :: l,i + 1=>by simp [erase_map f l i]
theorem a_dlt {t kt el:TypeId} {g:Bool} {ks:List Nat} {c:Call} {t2:TypeId} (hx:XOk x X) (hy:XOk y Y) (hu:P.underlying t=some (.map kt el)) (hf:flatT P kt=some (g,ks)) (hc:c.callee = .builtin .delete) (ha:c.args.toList=[X,Y]) (ht:∃ r,c.argTypes.toList=t :: r)
  (ho:o.op = .call c):OpOk P o (oDlt g ks x y):=by
 intro en h nx κ w0 pd θ a w hE hR e
 obtain ⟨v,hv,hr⟩:=hx en
 obtain ⟨k,hk,hrk⟩:=hy en
 simp only [oDlt,hv,hk] at e
 obtain ⟨e2,_,hck⟩:=kyT_ok hf e
 obtain ⟨ca,cargs,ct⟩:=c
 have ha':cargs = #[X,Y]:=by cases cargs;simp_all
 obtain ⟨r,ht⟩:=ht
 have ht':ct[0]? = some t:=by rw [← Array.getElem?_toList,ht];rfl
 simp only at hc
 subst ha' hc
 cases v<;>first | (cases e2;done) | skip
 ·rename_i b
  obtain ⟨ob,hb,e3⟩:=get_true e2
  obtain ⟨es,cl,rfl,e4⟩:=asMp_true e3
  obtain ⟨r,h1,h2⟩:=delK_true (eqT_det hf) e4
  rw [h2] at e4
  obtain ⟨hp,hh⟩:=(hr θ a hE).m
  obtain ⟨hm,hes⟩:=hR.obj_ hh hb
  obtain ⟨hfk,_⟩:=find_hit hf h1 (hrk θ a hE) hes w
  have hck:=hck θ _ (hrk θ a hE) (es.map (meV θ)).toArray.isEmpty w
  cases r with
  | none=>
   simp only [put_eq] at e4
   refine ⟨undef,.tuple #[],θ,_,nx,{ w with heap:=w.heap.setIfInBounds (θ.blk b) (.map (es.map (meV θ)).toArray cl) },.value _,.refl θ,vr_undef θ,?_,e4,?_,rfl⟩
   ·exact map_upd hR hh hb rfl rfl rfl hm ⟨heap_set hm,hes⟩
   ·simp only [execOp,ho,resolve,invoke,builtin,Builtin.delete_,Sem.run_bind,Sem.run_pure,Result.andThen,ht',List.map_toArray,List.map_cons,List.map_nil,List.getElem?_toArray,List.getElem?_cons_zero,List.getElem?_cons_succ,run_underlying hu,hp,run_getMap hm,hck,List.toList_toArray,hfk,Option.map_none,run_setMap _ hm]
  | some i=>
   simp only [put_eq] at e4
   have hlt:=h1.lt i rfl
   refine ⟨undef,.tuple #[],θ,_,nx,{ w with heap:=w.heap.setIfInBounds (θ.blk b) (.map ((es.map (meV θ)).toArray.eraseIdxIfInBounds i) cl) },.value _,.refl θ,vr_undef θ,?_,e4,?_,rfl⟩
   ·refine map_upd hR hh hb rfl rfl rfl hm ⟨?_,fun e he=>hes e (List.mem_of_mem_eraseIdx he)⟩
    rw [heap_set hm]
    simp [Array.eraseIdxIfInBounds,hlt,erase_map]
   ·simp only [execOp,ho,resolve,invoke,builtin,Builtin.delete_,Sem.run_bind,Sem.run_pure,Result.andThen,ht',List.map_toArray,List.map_cons,List.map_nil,List.getElem?_toArray,List.getElem?_cons_zero,List.getElem?_cons_succ,run_underlying hu,hp,run_getMap hm,hck,List.toList_toArray,hfk,Option.map_some,run_setMap _ hm]
 ·have hck:=hck θ _ (hrk θ a hE) true w
  have hp:a.eval X = .map none:=(hr θ a hE).2
  refine ⟨undef,.tuple #[],θ,h,nx,w,.value _,.refl θ,vr_undef θ,hR,e2,?_,rfl⟩
  simp only [execOp,ho,resolve,invoke,builtin,Builtin.delete_,Sem.run_bind,Sem.run_pure,Result.andThen,ht',List.map_toArray,List.map_cons,List.map_nil,List.getElem?_toArray,List.getElem?_cons_zero,List.getElem?_cons_succ,run_underlying hu,hp,hck]
theorem a_mkm {t:TypeId} (ho:o.op = .makeMap t none):OpOk P o oMkm:=by
 intro en h nx κ w0 pd θ a w hE hR e
 obtain ⟨hn,e1⟩:=newK_true e
 have hnx:¬ θ.has nx:=fun hx=>Nat.lt_irrefl _ (hR.own nx hx).1
 obtain ⟨k1,k2⟩:=hR.new (w':=w.alloc (.map #[] 0)) (ob:=.map #[] 0) rfl ⟨rfl,rfl,rfl⟩ hn (a:=.mp [] 0) (bs:=0) (sz:=0) (es:=0) ⟨by
  rw [Th.put_blk]
  show (w.heap.push _)[w.heap.size]? = _
  simp,by simp⟩ (by intro x hx;cases hx)
 refine ⟨.m nx,.map (some w.heap.size),_,_,_,_,.value _,k2,⟨Th.put_has ..,by simp [toV]⟩,k1,e1,?_,rfl⟩
 simp only [execOp,ho,Option.map_none,Instr.makeMap,Sem.run_bind,Sem.run_pure,Result.andThen,newObj]
 rfl
theorem a_rng {t kt el:TypeId} (hx:XOk x X) (hu:P.underlying t=some (.map kt el)) (ho:o.op = .range t X):OpOk P o (oRng x):=by
 intro en h nx κ w0 pd θ a w hE hR e
 obtain ⟨v,hv,hr⟩:=hx en
 simp only [oRng,hv] at e
 cases v<;>first | (cases e;done) | skip
 ·rename_i b
  obtain ⟨ob,hb,e1⟩:=get_true e
  obtain ⟨es,cl,rfl,e2⟩:=asMp_true e1
  obtain ⟨hn,e3⟩:=newK_true e2
  obtain ⟨hp,hh⟩:=(hr θ a hE).m
  obtain ⟨hm,hes⟩:=hR.obj_ hh hb
  have hnx:¬ θ.has nx:=fun hx=>Nat.lt_irrefl _ (hR.own nx hx).1
  have hbn:b≠nx:=fun e=>hnx (e ▸ hh)
  obtain ⟨k1,k2⟩:=hR.new (w':=w.alloc (.mapIter (some (θ.blk b)) cl #[] cl)) (ob:=.mapIter (some (θ.blk b)) cl #[] cl) rfl ⟨rfl,rfl,rfl⟩ hn (a:=.it (some b) cl [] cl) (bs:=0) (sz:=0) (es:=0) ⟨by
   rw [Th.put_blk]
   show (w.heap.push _)[w.heap.size]? = _
   simp [Th.put,hbn],fun k hk=>by injection hk with hk;subst hk;exact .inr hh,by simp⟩ (by intro x hx;cases hx)
  refine ⟨.p nx 0,.pointer (some ⟨w.heap.size,0,none⟩),_,_,_,_,.value _,k2,⟨Th.put_has ..,by simp [toV]⟩,k1,e3,?_,rfl⟩
  simp only [execOp,ho,hp,Instr.range,run_underlying hu,run_getMap hm,Sem.run_bind,Sem.run_pure,Result.andThen,newObj]
  rfl
 ·obtain ⟨hn,e3⟩:=newK_true e
  have hp:a.eval X = .map none:=(hr θ a hE).2
  obtain ⟨k1,k2⟩:=hR.new (w':=w.alloc (.mapIter none 0 #[] 0)) (ob:=.mapIter none 0 #[] 0) rfl ⟨rfl,rfl,rfl⟩ hn (a:=.it none 0 [] 0) (bs:=0) (sz:=0) (es:=0) ⟨by
   rw [Th.put_blk]
   show (w.heap.push _)[w.heap.size]? = _
   simp,(fun k hk=>nomatch hk),by simp⟩ (by intro x hx;cases hx)
  refine ⟨.p nx 0,.pointer (some ⟨w.heap.size,0,none⟩),_,_,_,_,.value _,k2,⟨Th.put_has ..,by simp [toV]⟩,k1,e3,?_,rfl⟩
  simp only [execOp,ho,hp,Instr.range,run_underlying hu,Sem.run_bind,Sem.run_pure,Result.andThen,newObj]
  rfl
theorem memN_eq (n:Nat):∀ l:List Nat,memN n l=l.contains n
 | []=>rfl
 | x :: l=>by
  show (@Bool.rec (fun _=>Bool) (memN n l) true (Nat.beq x n))=_
  rw [memN_eq n l,List.contains_cons]
  by_cases h:n=x
  ·subst h;simp
  ·have:Nat.beq x n=false:=by cases hb:Nat.beq x n with
    | false=>rfl
    | true=>exact absurd (Nat.eq_of_beq_eq_true hb).symm h
   rw [this];simp [h]
theorem leftL_eq {θ:Th} (seen:List Nat):∀ es:List ME,(es.map (meV θ)).filter (fun e=>!seen.contains e.born)=(leftL seen es).map (meV θ)
 | []=>rfl
 | .mk k v b :: es=>by
  have:leftL seen (.mk k v b :: es) = @Bool.rec (fun _=>List ME) (.mk k v b :: leftL seen es) (leftL seen es) (memN b seen):=rfl
  rw [this,memN_eq,List.map_cons,List.filter_cons,leftL_eq seen es]
  show (if (!seen.contains b)=true then _ else _)=_
  cases seen.contains b<;>rfl
theorem leftL_sub {seen:List Nat}:∀ {es:List ME} {e:ME},e ∈ leftL seen es→e ∈ es
 | .mk k v b :: es,e,h=>by
  have:leftL seen (.mk k v b :: es) = @Bool.rec (fun _=>List ME) (.mk k v b :: leftL seen es) (leftL seen es) (memN b seen):=rfl
  rw [this] at h
  cases hm:memN b seen with
  | true=>rw [hm] at h;exact List.mem_cons_of_mem _ (leftL_sub h)
  | false=>
   rw [hm] at h
   rcases List.mem_cons.1 h with h | h
   ·rw [h];exact List.mem_cons_self ..
   ·exact List.mem_cons_of_mem _ (leftL_sub h)
theorem anyBelow_eq {θ:Th} (c:Nat):∀ es:List ME,anyBelow c es=(es.map (meV θ)).any (fun e=>decide (e.born < c))
 | []=>rfl
 | .mk k v b :: es=>by
  show (@Bool.rec (fun _=>Bool) (anyBelow c es) true (Nat.blt b c))=_
  rw [anyBelow_eq c es,List.map_cons,List.any_cons]
  show _=(decide (b < c) || _)
  have:Nat.blt b c=decide (b < c):=by rw [Bool.eq_iff_iff];simp [Nat.blt_eq]
  rw [this]
  cases decide (b < c)<;>rfl
theorem run_choose_one {w:World}:(choose (.mapNext 1)).run P w = .ok 0 w:=by simp [choose,Sem.run,Question.forced]
theorem run_choose_any {w:World} {n:Nat} (hn:0 < n):∃ i w2,i < n∧(choose (.mapNext n)).run P w = .ok i w2∧w2.heap=w.heap∧w2.os=w.os∧w2.tape=w.tape∧w2.output=w.output:=by
 by_cases h:n≤1
 ·exact ⟨0,w,hn,by simp [choose,Sem.run,Question.forced,h],rfl,rfl,rfl,rfl⟩
 ·exact ⟨w.tape w.drawn (.mapNext n) % n,{ w with drawn:=w.drawn + 1 },Nat.mod_lt _ hn,by simp [choose,Sem.run,Question.forced,h,Question.cut],rfl,rfl,rfl,rfl⟩
theorem forkN_true {r m since:Nat} {seen:List Nat} {h:H} {nx:Nat} {κ:K} {clock:Nat}:∀ {l:List ME},forkN r m since seen h nx κ clock l=true→∀ k v b,ME.mk k v b ∈ l→b < since∧κ (.tu [.b true,k,v]) (setO h r (.it (some m) since (seen ++ [b]) clock)) nx=true
 | .mk k' v' b' :: l,e,k,v,b,hm=>by
  have e:br (Nat.blt b' since) (br (appK Nat seen [b'] fun seen=>put r (.it (some m) since seen clock) h fun h=>κ (.tu [.b true,k',v']) h nx) (forkN r m since seen h nx κ clock l) false) false=true:=e
  obtain ⟨h1,e1⟩:=br_t e
  obtain ⟨h2,e2⟩:=br_t e1
  rcases List.mem_cons.1 hm with hm | hm
  ·injection hm with i1 i2 i3
   subst i1 i2 i3
   rw [appK_eq,put_eq] at h2
   exact ⟨by simpa [Nat.blt_eq] using h1,h2⟩
  ·exact forkN_true e2 k v b hm
theorem a_nxt (hx:XOk x X) (ho:o.op = .next X false):OpOk P o (oNxt x):=by
 intro en h nx κ w0 pd θ a w hE hR e
 obtain ⟨v,hv,hr⟩:=hx en
 simp only [oNxt,hv] at e
 obtain ⟨r,off,rfl,e1⟩:=asP_true e
 obtain ⟨hoff,e2⟩:=br_t e1
 have hoff:=Nat.eq_of_beq_eq_true hoff
 subst hoff
 obtain ⟨hp,hh⟩:=(hr θ a hE).p
 obtain ⟨ob,hb,e3⟩:=get_true e2
 have hor:=hR.obj_ hh hb
 have fin':∀ {w' u},(Instr.next (.pointer (some ⟨θ.blk r,0,none⟩)) false o.type).run P w = .ok u w'→θ.bas r=0→(execOp a.eval o).run P w = .ok (.value u) w':=by
  intro w' u hw hbas
  simp only [execOp,ho,hp,hbas,Nat.add_zero,Sem.run_bind,hw,Result.andThen,Sem.run_pure]
 have getIt:∀ {m s sn st},w.heap[θ.blk r]? = some (.mapIter m s sn st)→(getObj (θ.blk r)).run P w = .ok (.mapIter m s sn st) w:=by
  intro m s sn st hm
  simp [getObj,Sem.run,hm]
 cases ob<;>first | (cases e3;done) | skip
 rename_i m since seen last
 obtain ⟨hm,hk,hbas⟩:=hor
 cases m with
 | none=>
  refine ⟨.tu [.b false],.tuple #[.bool false],θ,h,nx,w,.value _,.refl θ,⟨⟨trivial,trivial⟩,rfl⟩,hR,e3,fin' ?_ hbas,rfl⟩
  simp only [Instr.next,Sem.run_bind,getIt hm,Option.map_none,Result.andThen,Sem.run_pure]
 | some m=>
  have hmh:=hk m rfl
  obtain ⟨ob2,hb2,e4⟩:=get_true e3
  obtain ⟨es,cl,rfl,e5⟩:=asMp_true e4
  obtain ⟨hmm,hes⟩:=hR.obj_ hmh hb2
  have hfull:(!seen.toArray.isEmpty && !(es.map (meV θ)).toArray.isEmpty && (es.map (meV θ)).toArray.all (·.born ≥ last))=false∧nxtK r m since seen h nx κ es cl=true:=by
   cases seen with
   | nil=>exact ⟨rfl,e5⟩
   | cons s seen=>
    cases es with
    | nil=>exact ⟨by simp,e5⟩
    | cons ee es=>
     obtain ⟨h1,h2⟩:=br_t e5
     refine ⟨?_,h2⟩
     rw [anyBelow_eq (θ:=θ)] at h1
     rw [Bool.and_eq_false_iff]
     right
     obtain ⟨q,q1,q2⟩:=List.any_eq_true.1 h1
     rw [List.all_toArray]
     rw [← Bool.not_eq_true,List.all_eq_true]
     intro hall
     have:=hall q q1
     simp at this q2
     omega
  obtain ⟨hnot,e6⟩:=hfull
  have run:∀ {R:Result Value},(do
    let left:=(es.map (meV θ)).toArray.filter fun e=>!seen.toArray.contains e.born
    let old:=left.filter (·.born < since)
    let new:=left.filter (·.born ≥ since)
    let candidates:=(if old.isEmpty then #[none] else #[]) ++ (old ++ new).map some
    match candidates[← choose (.mapNext candidates.size)]? with
    | some (some e)=>
     setObj (θ.blk r) (.mapIter (some (θ.blk m)) since (seen.toArray.push e.born) cl)
     pure (.tuple #[.bool true,e.key,e.val])
    | some none=>pure (.tuple #[.bool false])
    | none=>stuck "Next: no such candidate" : Sem Value).run P w=R→(Instr.next (.pointer (some ⟨θ.blk r,0,none⟩)) false o.type).run P w=R:=by
   intro R hR'
   rw [← hR']
   simp only [Instr.next,Sem.run_bind,getIt hm,Option.map_some,Result.andThen,run_getMap hmm,hnot,Bool.false_eq_true,if_false]
   rfl
  have hleft:(es.map (meV θ)).toArray.filter (fun e=>!seen.toArray.contains e.born)=((leftL seen es).map (meV θ)).toArray:=by
   rw [List.filter_toArray']
   ·rw [← leftL_eq];simp
   ·rfl
  unfold nxtK at e6
  split at e6
  ·rename_i hl
   rw [put_eq] at e6
   have hkill:HR P w0 pd θ (setO h r .dead) nx w:=hR.upd (a':=.dead) hh hb rfl rfl (fun _ _=>rfl) ⟨rfl,rfl,rfl⟩ trivial (by intro x hx;cases hx)
   refine ⟨.tu [.b false],.tuple #[.bool false],θ,_,nx,w,.value _,.refl θ,⟨⟨trivial,trivial⟩,rfl⟩,hkill,e6,fin' (run ?_) hbas,rfl⟩
   have hc:(if (Array.filter (fun e:MapEntry=>decide (e.born < since)) #[]).isEmpty=true then (#[none]:Array (Option MapEntry)) else #[]) ++
     Array.map some (Array.filter (fun e:MapEntry=>decide (e.born < since)) #[] ++ Array.filter (fun e:MapEntry=>decide (e.born ≥ since)) #[]) = #[none]:=by simp
   simp only [hleft,hl,List.map_nil,hc]
   simp only [List.size_toArray,List.length_cons,List.length_nil,Nat.zero_add,Sem.run_bind,run_choose_one,Result.andThen]
   rfl
  ·rename_i k v b hl
   obtain ⟨hlt,e7⟩:=br_t e6
   have hlt:b < since:=by simpa [Nat.blt_eq] using hlt
   rw [appK_eq,put_eq] at e7
   have hme:ME.mk k v b ∈ es:=leftL_sub (seen:=seen) (by rw [hl];exact List.mem_cons_self ..)
   refine ⟨.tu [.b true,k,v],.tuple #[.bool true,toV θ k,toV θ v],θ,_,nx,{ w with heap:=w.heap.setIfInBounds (θ.blk r) (.mapIter (some (θ.blk m)) since (seen.toArray.push b) cl) },.value _,.refl θ,⟨⟨trivial,(hes _ hme).1,(hes _ hme).2,trivial⟩,rfl⟩,?_,e7,fin' (run ?_) hbas,rfl⟩
   ·refine map_upd hR hh hb rfl rfl rfl hm ⟨?_,hk,hbas⟩
    rw [heap_set hm];simp
   ·have hset:(setObj (θ.blk r) (.mapIter (some (θ.blk m)) since (seen.toArray.push b) cl)).run P w = .ok () { w with heap:=w.heap.setIfInBounds (θ.blk r) (.mapIter (some (θ.blk m)) since (seen.toArray.push b) cl) }:=by
     simp [setObj,Sem.run,hm]
    have hc:(if (Array.filter (fun e:MapEntry=>decide (e.born < since)) #[{ key:=toV θ k,val:=toV θ v,born:=b }]).isEmpty=true then (#[none]:Array (Option MapEntry)) else #[]) ++
      Array.map some (Array.filter (fun e:MapEntry=>decide (e.born < since)) #[{ key:=toV θ k,val:=toV θ v,born:=b }] ++ Array.filter (fun e:MapEntry=>decide (e.born ≥ since)) #[{ key:=toV θ k,val:=toV θ v,born:=b }]) = #[some { key:=toV θ k,val:=toV θ v,born:=b }]:=by
     simp [hlt,show ¬ (since≤b) by omega]
    simp only [hleft,hl,List.map_cons,List.map_nil,meV,hc]
    simp only [List.size_toArray,List.length_cons,List.length_nil,Nat.zero_add,Sem.run_bind,run_choose_one,Result.andThen,List.getElem?_toArray,List.getElem?_cons_zero,hset]
    rfl
  ·obtain ⟨l,hl⟩:∃ l,l=leftL seen es:=⟨_,rfl⟩
   rw [← hl] at e6 hleft
   have hne:l≠[]:=by
    rintro rfl
    rename_i hn0 _
    exact hn0 hl.symm
   have hfk:=forkN_true e6
   have hold:∀ e ∈ l.map (meV θ),e.born < since:=by
    intro e he
    obtain ⟨x,hx,rfl⟩:=List.mem_map.1 he
    obtain ⟨k,v,b⟩:=x
    exact (hfk _ _ _ hx).1
   have hc:(if (Array.filter (fun e:MapEntry=>decide (e.born < since)) (l.map (meV θ)).toArray).isEmpty=true then (#[none]:Array (Option MapEntry)) else #[]) ++
     Array.map some (Array.filter (fun e:MapEntry=>decide (e.born < since)) (l.map (meV θ)).toArray ++ Array.filter (fun e:MapEntry=>decide (e.born ≥ since)) (l.map (meV θ)).toArray)=((l.map (meV θ)).map some).toArray:=by
    have h1:Array.filter (fun e:MapEntry=>decide (e.born < since)) (l.map (meV θ)).toArray=(l.map (meV θ)).toArray:=by
     rw [List.filter_toArray,List.filter_eq_self.2 (fun e he=>by simpa using hold e he)]
    have h2:Array.filter (fun e:MapEntry=>decide (e.born ≥ since)) (l.map (meV θ)).toArray = #[]:=by
     rw [List.filter_toArray,List.filter_eq_nil_iff.2 (fun e he=>by have:=hold e he;simp;omega)]
    rw [h1,h2]
    cases l with
    | nil=>exact absurd rfl hne
    | cons x l=>simp
   obtain ⟨i,w2,hi,hch,hw2,hp2⟩:=run_choose_any (P:=P) (w:=w) (n:=l.length) (List.length_pos_iff.2 hne)
   obtain ⟨x,hx⟩:∃ x,l[i]? = some x:=⟨_,List.getElem?_eq_getElem hi⟩
   obtain ⟨k,v,b⟩:=x
   have hmem:ME.mk k v b ∈ l:=List.mem_of_getElem? hx
   obtain ⟨hlt,e7⟩:=hfk _ _ _ hmem
   have hme:ME.mk k v b ∈ es:=leftL_sub (seen:=seen) (by rw [← hl];exact hmem)
   have hm2:w2.heap[θ.blk r]? = some (.mapIter (some (θ.blk m)) since seen.toArray last):=by rw [hw2];exact hm
   have hR2:HR P w0 pd θ h nx w2:=hR.same hw2 hp2
   refine ⟨.tu [.b true,k,v],.tuple #[.bool true,toV θ k,toV θ v],θ,_,nx,{ w2 with heap:=w2.heap.setIfInBounds (θ.blk r) (.mapIter (some (θ.blk m)) since (seen.toArray.push b) cl) },.value _,.refl θ,⟨⟨trivial,(hes _ hme).1,(hes _ hme).2,trivial⟩,rfl⟩,?_,e7,fin' (run ?_) hbas,rfl⟩
   ·refine map_upd hR2 hh hb rfl rfl rfl hm2 ⟨?_,hk,hbas⟩
    rw [heap_set hm2];simp
   ·have hset:(setObj (θ.blk r) (.mapIter (some (θ.blk m)) since (seen.toArray.push b) cl)).run P w2 = .ok () { w2 with heap:=w2.heap.setIfInBounds (θ.blk r) (.mapIter (some (θ.blk m)) since (seen.toArray.push b) cl) }:=by
     simp [setObj,Sem.run,hm2]
    simp only [hleft,hc]
    simp only [List.size_toArray,List.length_map,Sem.run_bind,hch,Result.andThen,List.getElem?_toArray,List.getElem?_map,hx,Option.map_some,meV,hset]
    rfl
end
end Go.AM

namespace Go.AM
open Go
section
variable {P:Program} {w0 w w':World} {pd:List (Nat × AO)} {θ:Th} {h:H} {nx:Nat}
theorem HR.mark (hr:HR P w0 pd θ h nx w) {o N es zl d:Nat} {z:List AV} {t:L (Option AV) d} {top:Bool} {sh:List Nat} (ho:θ.has o) (ha:obj h o=some (.ce N es z zl d t top sh)) :
  HR P w0 pd θ (setO h o (.ce N es z zl d t false sh)) nx w:=by
 refine ⟨hr.lim,fun p hp=>?_,fun p q b b' hne hp hq hb hb' hw hl he=>?_,hr.size,hr.kept,hr.plain,fun p b hb=>?_,hr.nodup,hr.fresh.set (Nat.le_refl _) (hr.own o ho).1 (hr.lt32 ho),hr.glo⟩
 ·obtain ⟨a1,a2,a3,b,a4,a5,a6⟩:=hr.own p hp
  by_cases e:p=o
  ·subst e
   rw [ha] at a4;injection a4 with a4;subst a4
   exact ⟨a1,a2,a3,_,obj_set _ _ _,a5,a6⟩
  ·exact ⟨a1,a2,a3,b,by rw [obj_set_ne _ _ (hr.lt32 ho) (hr.lt32 hp) e];exact a4,a5,a6⟩
 ·by_cases e:p=o
  ·subst e
   rw [obj_set] at hb;injection hb with hb;subst hb;cases hw
  ·rw [obj_set_ne _ _ (hr.lt32 ho) (hr.lt32 hp) e] at hb
   by_cases e':q=o
   ·subst e'
    rw [obj_set] at hb';injection hb' with hb';subst hb'
    obtain ⟨h1,h2,_⟩:=hr.apart p q b _ hne hp hq hb ha hw rfl he
    exact ⟨h1,h2,rfl⟩
   ·rw [obj_set_ne _ _ (hr.lt32 ho) (hr.lt32 hq) e'] at hb'
    exact hr.apart p q b b' hne hp hq hb hb' hw hl he
 ·obtain ⟨p1,p2,p3⟩:=hr.pend p b hb
  exact ⟨p1,p2,by rw [obj_set_ne _ _ (hr.lt32 ho) (Nat.lt_of_lt_of_le p2 hr.lim) (fun e=>p1 (e ▸ ho))];exact p3⟩
theorem HR.keep (hr:HR P w0 pd θ h nx w) {o N es zl d:Nat} {z:List AV} {t:L (Option AV) d} {sh:List Nat} (ho:θ.has o) (ha:obj h o=some (.ce N es z zl d t true sh))
  (hoth:∀ b,b≠θ.blk o→w'.heap[b]? = w.heap[b]?) (hblk:∀ c ty fz,w.heap[θ.blk o]? = some (.cells c ty fz)→∃ c',w'.heap[θ.blk o]? = some (.cells c' ty fz)∧c'.size=c.size∧∀ i,i < θ.bas o + N→c'[i]? = c[i]?) :
  ∀ p b,θ.has p→obj h p=some b→OR P θ w' p b:=by
 intro p b hp hb
 have hor:=hr.obj_ hp hb
 by_cases e:θ.blk p=θ.blk o
 ·have key:∀ {n es' zl' d':Nat} {z':List AV} {t':L (Option AV) d'} {top:Bool} {sh':List Nat},θ.bas p + n≤θ.bas o + N→OR P θ w p (.ce n es' z' zl' d' t' top sh')→OR P θ w' p (.ce n es' z' zl' d' t' top sh'):=by
   intro n es' zl' d' z' t' top sh' hle ⟨c,ty,fz,h1,h2,h3,h4,h5,h6⟩
   rw [e] at h1
   obtain ⟨c',k1,k2,k3⟩:=hblk c ty fz h1
   refine ⟨c',ty,fz,by rw [e];exact k1,h2,fun i hi=>?_,by rw [k2];exact h4,by rw [k2];exact h5,by rw [k2];exact h6⟩
   obtain ⟨v,q1,q2,q3,q4⟩:=h3 i hi
   exact ⟨v,q1,q2,q3,by rw [k3 _ (by omega)];exact q4⟩
  by_cases e':p=o
  ·subst e'
   rw [ha] at hb;injection hb with hb;subst hb
   exact key (Nat.le_refl _) hor
  ·cases b with
   | dead=>trivial
   | ce n es' z' zl' d' t' top sh'=>
    obtain ⟨_,h2,_⟩:=hr.apart o p _ _ (Ne.symm e') ho hp ha hb rfl rfl e.symm
    exact key h2 hor
   | sm l=>exact absurd (hr.apart o p _ _ (Ne.symm e') ho hp ha hb rfl rfl e.symm).2.2 (by simp [AO.wr])
   | st t0 l=>exact absurd (hr.apart o p _ _ (Ne.symm e') ho hp ha hb rfl rfl e.symm).2.2 (by simp [AO.wr])
   | bt t0 l=>exact absurd (hr.apart o p _ _ (Ne.symm e') ho hp ha hb rfl rfl e.symm).2.2 (by simp [AO.wr])
   | mp a b=>exact absurd (hr.apart o p _ _ (Ne.symm e') ho hp ha hb rfl rfl e.symm).2.2 (by simp [AO.wr])
   | it a1 b1 c1 d1=>exact absurd (hr.apart o p _ _ (Ne.symm e') ho hp ha hb rfl rfl e.symm).2.2 (by simp [AO.wr])
   | lp a1 b1 c1 d1 e1 f1=>exact absurd (hr.apart o p _ _ (Ne.symm e') ho hp ha hb rfl rfl e.symm).2.2 (by simp [AO.wr])
   | df a=>exact absurd (hr.apart o p _ _ (Ne.symm e') ho hp ha hb rfl rfl e.symm).2.2 (by simp [AO.wr])
 ·exact hor.mono (.refl θ) hp (hoth _ e)
theorem HR.grow (hr:HR P w0 pd θ h nx w) {o N es zl d:Nat} {z:List AV} {t:L (Option AV) d} {sh:List Nat} (ho:θ.has o) (ha:obj h o=some (.ce N es z zl d t true sh)) (hn:nx < 2097152)
  (hsz:w'.heap.size=w.heap.size) (hp':w'.os=w.os∧w'.tape=w.tape∧w'.output=w.output)
  (hoth:∀ b,b≠θ.blk o→w'.heap[b]? = w.heap[b]?) (hblk:∀ c ty fz,w.heap[θ.blk o]? = some (.cells c ty fz)→∃ c',w'.heap[θ.blk o]? = some (.cells c' ty fz)∧c'.size=c.size∧∀ i,i < θ.bas o + N→c'[i]? = c[i]?)
  {n' es' zl' d' bs sz:Nat} {z':List AV} {t':L (Option AV) d'} (hle:θ.bas o + N≤bs + n') (hnew:OR P (θ.put nx (θ.blk o) bs sz es') w' nx (.ce n' es' z' zl' d' t' true (o :: sh))) :
  HR P w0 pd (θ.put nx (θ.blk o) bs sz es') (setO (setO h o (.ce N es z zl d t false sh)) nx (.ce n' es' z' zl' d' t' true (o :: sh))) (nx + 1) w'∧θ.le (θ.put nx (θ.blk o) bs sz es'):=by
 have hnx:¬ θ.has nx:=fun hx=>Nat.lt_irrefl _ (hr.own nx hx).1
 have hle':=Th.le_put hnx (θ.blk o) bs sz es'
 have hon:o≠nx:=fun e=>hnx (e ▸ ho)
 have hko:=HR.keep (w':=w') hr ho ha hoth hblk
 have ob:∀ p,θ.has p→p≠o→obj (setO (setO h o (.ce N es z zl d t false sh)) nx (.ce n' es' z' zl' d' t' true (o :: sh))) p=obj h p:=fun p hp e=>by
  rw [obj_set_ne _ _ hn (hr.lt32 hp) (fun e=>hnx (e ▸ hp)),obj_set_ne _ _ (hr.lt32 ho) (hr.lt32 hp) e]
 have obo:obj (setO (setO h o (.ce N es z zl d t false sh)) nx (.ce n' es' z' zl' d' t' true (o :: sh))) o=some (.ce N es z zl d t false sh):=by
  rw [obj_set_ne _ _ hn (hr.lt32 ho) hon,obj_set]
 have hsh:∀ x ∈ sh,θ.has x:=by
  obtain ⟨_,_,_,b,h1,_,h2⟩:=hr.own o ho
  rw [ha] at h1;injection h1 with h1;subst h1;exact h2
 have ext:∀ (c:AO) (p:Nat),θ.has p→c.ext (θ.put nx (θ.blk o) bs sz es') p=c.ext θ p:=fun c p hp=>by cases c<;>simp only [AO.ext,hle'.bas p hp]
 refine ⟨⟨by omega,fun p hp=>?_,fun p q b b' hne hp hq hb hb' hw hl he=>?_,by rw [hsz];exact hr.size,fun b hb hi=>?_,⟨hp'.1.trans hr.plain.1,hp'.2.1.trans hr.plain.2.1,hp'.2.2.trans hr.plain.2.2⟩,fun p b hb=>?_,hr.nodup,(hr.fresh.set (Nat.le_refl _) (hr.own o ho).1 (hr.lt32 ho)).set (by omega) (by omega) hn,hr.glo⟩,hle'⟩
 ·by_cases e:p=nx
  ·subst e
   obtain ⟨a1,a2,a3,_⟩:=hr.own o ho
   refine ⟨by omega,by rw [Th.put_blk];exact a2,by rw [Th.put_blk,hsz];exact a3,_,obj_set _ _ _,hnew,fun x hx=>?_⟩
   rcases List.mem_cons.1 hx with rfl | hx
   ·exact hle'.has _ ho
   ·exact hle'.has _ (hsh x hx)
  ·have hp1:θ.has p:=hp.resolve_left e
   obtain ⟨a1,a2,a3,b,a4,_,a6⟩:=hr.own p hp1
   have hor:=hko p b hp1 a4
   by_cases e':p=o
   ·subst e'
    rw [ha] at a4;injection a4 with a4;subst a4
    refine ⟨by omega,by rw [hle'.blk p hp1];exact a2,by rw [hle'.blk p hp1,hsz];exact a3,_,obo,?_,fun x hx=>hle'.has x (hsh x hx)⟩
    exact OR.mono (a:=.ce N es z zl d t true sh) hle' hp1 rfl hor
   ·exact ⟨by omega,by rw [hle'.blk p hp1];exact a2,by rw [hle'.blk p hp1,hsz];exact a3,b,by rw [ob p hp1 e'];exact a4,hor.mono hle' hp1 rfl,fun x hx=>hle'.has x (a6 x hx)⟩
 ·by_cases e:p=nx
  ·subst e
   rw [obj_set] at hb;injection hb with hb;subst hb
   have hq1:θ.has q:=hq.resolve_left (Ne.symm hne)
   rw [Th.put_blk,hle'.blk q hq1] at he
   have hx:(AO.ce n' es' z' zl' d' t' true (o :: sh)).ext (θ.put p (θ.blk o) bs sz es') p=bs + n':=by simp [AO.ext]
   rw [hx,ext b' q hq1]
   by_cases e':q=o
   ·subst e'
    rw [obo] at hb';injection hb' with hb';subst hb'
    exact ⟨List.mem_cons_self ..,hle,rfl⟩
   ·rw [ob q hq1 e'] at hb'
    obtain ⟨h1,h2,h3⟩:=hr.apart o q _ b' (Ne.symm e') ho hq1 ha hb' rfl hl he
    exact ⟨List.mem_cons_of_mem _ h1,Nat.le_trans h2 hle,h3⟩
  ·have hp1:θ.has p:=hp.resolve_left e
   by_cases ep:p=o
   ·subst ep
    rw [obo] at hb;injection hb with hb;subst hb;cases hw
   ·rw [ob p hp1 ep] at hb
    have hpo:θ.blk p≠θ.blk o:=fun heq=>by
     have:=(hr.apart p o b _ ep hp1 ho hb ha hw rfl heq).2.2
     cases this
    by_cases eq:q=nx
    ·subst eq
     rw [Th.put_blk,hle'.blk p hp1] at he
     exact absurd he hpo
    ·have hq1:θ.has q:=hq.resolve_left eq
     rw [hle'.blk p hp1,hle'.blk q hq1] at he
     by_cases eqo:q=o
     ·subst eqo;exact absurd he hpo
     ·rw [ob q hq1 eqo] at hb'
      rw [ext b' q hq1,ext b p hp1]
      exact hr.apart p q b b' hne hp1 hq1 hb hb' hw hl he
 ·have:=(hr.own o ho).2.1
  rw [hoth b (fun e=>by subst e;exact this.elim (fun h=>by omega) hi)];exact hr.kept b hb hi
 ·obtain ⟨p1,p2,p3⟩:=hr.pend p b hb
  refine ⟨fun hx=>hx.elim (fun e=>by omega) p1,by omega,?_⟩
  rw [obj_set_ne _ _ hn (Nat.lt_of_lt_of_le p2 hr.lim) (by omega),obj_set_ne _ _ (hr.lt32 ho) (Nat.lt_of_lt_of_le p2 hr.lim) (fun e=>p1 (e ▸ ho))]
  exact p3
theorem HR.tail (hr:HR P w0 pd θ h nx w) {o N es zl d:Nat} {z:List AV} {t:L (Option AV) d} {sh:List Nat} (ho:θ.has o) (ha:obj h o=some (.ce N es z zl d t true sh)) (hn:nx < 2097152)
  {es' bs sz:Nat} (hle:bs≤θ.bas o + N) (hnew:OR P (θ.put nx (θ.blk o) bs sz es') w nx (.ce 0 es' [] 0 0 none false [])) :
  HR P w0 pd (θ.put nx (θ.blk o) bs sz es') (setO (setO h o (.ce N es z zl d t true (nx :: sh))) nx (.ce 0 es' [] 0 0 none false [])) (nx + 1) w∧θ.le (θ.put nx (θ.blk o) bs sz es'):=by
 have hnx:¬ θ.has nx:=fun hx=>Nat.lt_irrefl _ (hr.own nx hx).1
 have hle':=Th.le_put hnx (θ.blk o) bs sz es'
 have hon:o≠nx:=fun e=>hnx (e ▸ ho)
 have ob:∀ p,θ.has p→p≠o→obj (setO (setO h o (.ce N es z zl d t true (nx :: sh))) nx (.ce 0 es' [] 0 0 none false [])) p=obj h p:=fun p hp e=>by
  rw [obj_set_ne _ _ hn (hr.lt32 hp) (fun e=>hnx (e ▸ hp)),obj_set_ne _ _ (hr.lt32 ho) (hr.lt32 hp) e]
 have obo:obj (setO (setO h o (.ce N es z zl d t true (nx :: sh))) nx (.ce 0 es' [] 0 0 none false [])) o=some (.ce N es z zl d t true (nx :: sh)):=by
  rw [obj_set_ne _ _ hn (hr.lt32 ho) hon,obj_set]
 have hsh:∀ x ∈ sh,θ.has x:=by
  obtain ⟨_,_,_,b,h1,_,h2⟩:=hr.own o ho
  rw [ha] at h1;injection h1 with h1;subst h1;exact h2
 have ext:∀ (c:AO) (p:Nat),θ.has p→c.ext (θ.put nx (θ.blk o) bs sz es') p=c.ext θ p:=fun c p hp=>by cases c<;>simp only [AO.ext,hle'.bas p hp]
 refine ⟨⟨by omega,fun p hp=>?_,fun p q b b' hne hp hq hb hb' hw hl he=>?_,hr.size,hr.kept,hr.plain,fun p b hb=>?_,hr.nodup,(hr.fresh.set (Nat.le_refl _) (hr.own o ho).1 (hr.lt32 ho)).set (by omega) (by omega) hn,hr.glo⟩,hle'⟩
 ·by_cases e:p=nx
  ·subst e
   obtain ⟨a1,a2,a3,_⟩:=hr.own o ho
   exact ⟨by omega,by rw [Th.put_blk];exact a2,by rw [Th.put_blk];exact a3,_,obj_set _ _ _,hnew,fun x hx=>by cases hx⟩
  ·have hp1:θ.has p:=hp.resolve_left e
   obtain ⟨a1,a2,a3,b,a4,hor,a6⟩:=hr.own p hp1
   by_cases e':p=o
   ·subst e'
    rw [ha] at a4;injection a4 with a4;subst a4
    refine ⟨by omega,by rw [hle'.blk p hp1];exact a2,by rw [hle'.blk p hp1];exact a3,_,obo,?_,fun x hx=>?_⟩
    ·exact OR.mono (a:=.ce N es z zl d t true sh) hle' hp1 rfl hor
    ·rcases List.mem_cons.1 hx with rfl | hx
     ·exact Th.put_has ..
     ·exact hle'.has x (hsh x hx)
   ·exact ⟨by omega,by rw [hle'.blk p hp1];exact a2,by rw [hle'.blk p hp1];exact a3,b,by rw [ob p hp1 e'];exact a4,hor.mono hle' hp1 rfl,fun x hx=>hle'.has x (a6 x hx)⟩
 ·by_cases e:p=nx
  ·subst e
   rw [obj_set] at hb;injection hb with hb;subst hb;cases hw
  ·have hp1:θ.has p:=hp.resolve_left e
   by_cases ep:p=o
   ·subst ep
    rw [obo] at hb;injection hb with hb;subst hb
    by_cases eq:q=nx
    ·subst eq
     rw [obj_set] at hb';injection hb' with hb';subst hb'
     refine ⟨List.mem_cons_self ..,?_,rfl⟩
     have hx:(AO.ce 0 es' [] 0 0 none false []).ext (θ.put q (θ.blk p) bs sz es') q=bs:=by simp [AO.ext]
     rw [hx,ext _ p hp1]
     exact hle
    ·have hq1:θ.has q:=hq.resolve_left eq
     rw [ob q hq1 (Ne.symm hne)] at hb'
     rw [hle'.blk p hp1,hle'.blk q hq1] at he
     rw [ext b' q hq1,ext _ p hp1]
     obtain ⟨h1,h2,h3⟩:=hr.apart p q _ b' hne hp1 hq1 ha hb' rfl hl he
     exact ⟨List.mem_cons_of_mem _ h1,h2,h3⟩
   ·rw [ob p hp1 ep] at hb
    have hpo:θ.blk p≠θ.blk o:=fun heq=>by
     have:=(hr.apart p o b _ ep hp1 ho hb ha hw rfl heq).2.2
     cases this
    by_cases eq:q=nx
    ·subst eq
     rw [Th.put_blk,hle'.blk p hp1] at he
     exact absurd he hpo
    ·have hq1:θ.has q:=hq.resolve_left eq
     rw [hle'.blk p hp1,hle'.blk q hq1] at he
     by_cases eqo:q=o
     ·subst eqo;exact absurd he hpo
     ·rw [ob q hq1 eqo] at hb'
      rw [ext b' q hq1,ext b p hp1]
      exact hr.apart p q b b' hne hp1 hq1 hb hb' hw hl he
 ·obtain ⟨p1,p2,p3⟩:=hr.pend p b hb
  refine ⟨fun hx=>hx.elim (fun e=>by omega) p1,by omega,?_⟩
  rw [obj_set_ne _ _ hn (Nat.lt_of_lt_of_le p2 hr.lim) (by omega),obj_set_ne _ _ (hr.lt32 ho) (Nat.lt_of_lt_of_le p2 hr.lim) (fun e=>p1 (e ▸ ho))]
  exact p3
end
section
variable {P:Program} {o:Oper} {x y z:XF} {X Y Z:Operand}
theorem a_s2b {s d el:TypeId} (hx:XOk x X) (hs:P.underlying s=some .string) (hd:P.underlying d=some (.slice el)) (he:P.underlying el=some (.int .u8)) (ho:o.op = .convert s d X):OpOk P o (oS2b x):=by
 intro en h nx κ w0 pd θ a w hE hR e
 obtain ⟨v,hv,hr⟩:=hx en
 simp only [oS2b,hv] at e
 obtain ⟨l,rfl,e1⟩:=asS_true e
 have ofb:∀ (l:List Nat) (κ:List AV→R),ofBytes l κ=κ (l.map fun m=>.i 4 (.ofNat m)):=by
  intro l
  induction l with
  | nil=>intro κ;rfl
  | cons m l ih=>intro κ;exact ih _
 simp only [ofb,fnat_eq,lenN_eq] at e1
 obtain ⟨hn,e2⟩:=newK_true e1
 obtain ⟨hp,hb⟩:=(hr θ a hE).s
 have hnx:¬ θ.has nx:=fun hx=>Nat.lt_irrefl _ (hR.own nx hx).1
 have hok:∀ θ,Oks θ (l.map fun m=>AV.i 4 (.ofNat m)):=fun θ=>Oks_iff.2 fun v hv=>by obtain ⟨m,_,rfl⟩:=List.mem_map.1 hv;trivial
 have hone:(l.map fun m=>AV.i 4 (.ofNat m)).all one=true:=List.all_eq_true.2 fun v hv=>by obtain ⟨m,_,rfl⟩:=List.mem_map.1 hv;rfl
 obtain ⟨cap,hcap0⟩:∃ n,n=(Question.appendCap (bytesOf l).size 0 el).cut (w.tape w.drawn (Question.appendCap (bytesOf l).size 0 el)):=⟨_,rfl⟩
 obtain ⟨c,hc0⟩:∃ c:Array Value,c=(bytesOf l).data.map (fun b=>Value.int .u8 b.toNat) ++ Array.replicate (cap - (bytesOf l).size) (.int .u8 0):=⟨_,rfl⟩
 have hcap:l.length≤cap:=by
  rw [hcap0]
  show l.length≤(bytesOf l).size + _
  rw [bytes_size];omega
 have hcs:c.size=cap:=by
  rw [hc0,Array.size_append,Array.size_map,Array.size_replicate]
  have:(bytesOf l).data.size=l.length:=by rw [← bytes_size l];rfl
  rw [this,bytes_size];omega
 have hci:∀ i,i < l.length→∀ θ,c[i]? = ((l.map fun m=>AV.i 4 (.ofNat m))[i]?).map (toV θ):=by
  intro i hi θ
  rw [hc0]
  have hsz:(bytesOf l).data.size=l.length:=by rw [← bytes_size l];rfl
  rw [Array.getElem?_append_left (by rw [Array.size_map,hsz];exact hi)]
  have hm:l[i] < 256:=hb _ (List.getElem_mem hi)
  simp [bytesOf,hi,toV,kindOf,Nat.mod_eq_of_lt hm]
 obtain ⟨w1,hw1⟩:∃ w1:World,w1 = { w with drawn:=w.drawn + 1,heap:=w.heap.push (.cells c el (c.size,c.size + 1)) }:=⟨_,rfl⟩
 obtain ⟨k1,k2⟩:=hR.new (w':=w1) (ob:=.cells c el (c.size,c.size + 1)) (by rw [hw1]) (by rw [hw1];exact ⟨rfl,rfl,rfl⟩) hn (a:=.ce l.length 1 (l.map fun m=>.i 4 (.ofNat m)) l.length (deep l.length) (E (deep l.length)) true []) (bs:=0) (sz:=cap) (es:=1) (by
  refine ⟨c,el,(c.size,c.size + 1),?_,deep_ge _,fun i hi=>?_,.inr (Nat.le_refl _),fun h=>by omega,fun _=>⟨by simp,by rw [Th.put_siz];exact hcap,by rw [Th.put_bas,Th.put_siz,hcs];omega⟩⟩
  ·rw [Th.put_blk,hw1]
   show (w.heap.push _)[w.heap.size]? = _
   simp
  ·refine ⟨.i 4 (.ofNat l[i]),?_,trivial,rfl,?_⟩
   ·rw [cellO_E,Nat.mod_eq_of_lt hi];simp [hi]
   ·rw [Th.put_bas,Nat.zero_add,hci i hi θ];simp [hi,toV]) (by intro x hx;cases hx)
 refine ⟨.sl nx 0 l.length none,.slice (some ⟨w.heap.size,0,none⟩) l.length cap,_,_,_,w1,.value _,k2,⟨Th.put_has ..,by simp [toV]⟩,k1,e2,?_,rfl⟩
 have hlen:(bytesOf l).size=l.length:=bytes_size l
 have hf:(Question.appendCap (bytesOf l).size 0 el).forced=false:=rfl
 simp only [execOp,ho,hp,convert,Sem.run_bind,run_underlying hs,run_underlying hd,run_underlying he,Result.andThen,Conv.stringToBytes,choose,Sem.run,hf,Bool.false_eq_true,if_false,newRow,newObj,markStringish,shape,Sem.run_pure]
 have hsh:World.shape? { w with drawn:=w.drawn + 1,heap:=w.heap.push (.cells c el) } w.heap.size=some (el,c.size):=by simp [World.shape?]
 have hfz:World.freeze { w with drawn:=w.drawn + 1,heap:=w.heap.push (.cells c el) } { block:=w.heap.size,off:=c.size } 1=w1:=by
  have:(w.heap.push (Obj.cells c el)).modify w.heap.size (fun
    | .cells c' elem (lo,hi)=>.cells c' elem (if lo == hi then (c.size,c.size + 1) else (min lo c.size,max hi (c.size + 1)))
    | o=>o)=w.heap.push (.cells c el (c.size,c.size + 1)):=by
   apply Array.ext_getElem?
   intro i
   rw [Array.getElem?_modify]
   by_cases hi:w.heap.size=i
   ·subst hi;simp
   ·rw [if_neg hi]
    by_cases hl:i < w.heap.size
    ·rw [Array.getElem?_push_lt hl,Array.getElem?_push_lt hl]
    ·rw [Array.getElem?_eq_none (by simp;omega),Array.getElem?_eq_none (by simp;omega)]
  unfold World.freeze
  rw [if_neg (by decide)]
  rw [hw1]
  show ({ w with drawn:=w.drawn + 1,heap:=_ }:World) = { w with drawn:=w.drawn + 1,heap:=_ }
  congr 1
 rw [← hcap0,← hc0,hsh]
 simp only [freeze,Sem.run]
 rw [hfz,hlen]
end
end Go.AM
