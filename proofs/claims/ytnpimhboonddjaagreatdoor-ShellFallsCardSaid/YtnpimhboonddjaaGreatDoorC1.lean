/- A part of the proof of this: the law ShellFalls. Conditions: none. Joined of AmLn, AmA, AmB, AmBt, AmC, AmT, AmD, AmE, AmF, AmG, AmGl. -/
import Derived.Calls
import Derived.Laws.Sem
import Derived.Deep.AppendSrc
import Derived.Below
import Derived.Laws.Strings
import Derived.Laws.StructEq
namespace Go.AM
open Go
def ln (j N:Nat):Nat:=N / 2 ^ (128 * j) % 2 ^ 128
def rep1:Nat→Nat
 | 0=>0
 | n + 1=>1 + 2 ^ 128 * rep1 n
def LO:Nat:=(2 ^ 524288 - 1) / (2 ^ 128 - 1)
def LM:Nat:=Nat.mul LO 18446744073709551615
theorem rep1_mul:∀ n,(2 ^ 128 - 1) * rep1 n + 1=2 ^ (128 * n)
 | 0=>rfl
 | n + 1=>by
  have ih:=rep1_mul n
  rw [rep1,Nat.mul_add,show 128 * (n + 1)=128 + 128 * n by omega,Nat.pow_add,← ih]
  generalize rep1 n=q
  omega
theorem LO_eq:LO=rep1 4096:=by
 have h:=rep1_mul 4096
 rw [show 128 * 4096=524288 by decide] at h
 unfold LO
 rw [← h,Nat.add_sub_cancel,Nat.mul_div_cancel_left _ (by decide)]
theorem ln_zero {a:Nat} (M:Nat) (h:a < 2 ^ 128):ln 0 (a + 2 ^ 128 * M)=a:=by
 simp only [ln,Nat.mul_zero,Nat.pow_zero,Nat.div_one,Nat.add_mul_mod_self_left]
 exact Nat.mod_eq_of_lt h
theorem ln_succ (j N:Nat):ln (j + 1) N=ln j (N / 2 ^ 128):=by
 simp only [ln,Nat.div_div_eq_div_mul,← Nat.pow_add,Nat.mul_add,Nat.mul_one]
 rw [Nat.add_comm]
theorem ln_next {a:Nat} (j M:Nat) (h:a < 2 ^ 128):ln (j + 1) (a + 2 ^ 128 * M)=ln j M:=by
 rw [ln_succ,Nat.add_mul_div_left _ _ (by decide),Nat.div_eq_of_lt h,Nat.zero_add]
theorem ln_rep {c:Nat} (hc:c < 2 ^ 128):∀ {n j:Nat},j < n→ln j (rep1 n * c)=c
 | n + 1,j,hj=>by
  rw [rep1,Nat.add_mul,Nat.one_mul,Nat.mul_assoc]
  cases j with
  | zero=>exact ln_zero _ hc
  | succ j=>rw [ln_next _ _ hc];exact ln_rep hc (by omega)
theorem ln_LO {c j:Nat} (hc:c < 2 ^ 128) (hj:j < 4096):ln j (LO * c)=c:=by rw [LO_eq];exact ln_rep hc hj
theorem ln_shift (j N:Nat):ln j N=(N >>> (128 * j)) % 2 ^ 128:=by rw [ln,Nat.shiftRight_eq_div_pow]
theorem ln_xor (j N M:Nat):ln j (N ^^^ M)=ln j N ^^^ ln j M:=by
 simp only [ln_shift,Nat.shiftRight_xor_distrib,Nat.xor_mod_two_pow]
theorem ln_and (j N M:Nat):ln j (N &&& M)=ln j N &&& ln j M:=by
 simp only [ln_shift,Nat.shiftRight_and_distrib,Nat.and_mod_two_pow]
theorem ln_or (j N M:Nat):ln j (N ||| M)=ln j N ||| ln j M:=by
 simp only [ln_shift,Nat.shiftRight_or_distrib,Nat.or_mod_two_pow]
theorem ln_mask {j N b:Nat} (hb:b≤128) (hj:j < 4096):ln j (N &&& (LO * (2 ^ b - 1)))=ln j N % 2 ^ b:=by
 have:2 ^ b≤2 ^ 128:=Nat.pow_le_pow_right (by decide) hb
 have hp:0 < 2 ^ b:=Nat.pow_pos (by decide)
 rw [ln_and,ln_LO (by omega) hj,Nat.and_two_pow_sub_one_eq_mod]
def Lim (B N:Nat):Prop:=∀ i,i < 4096→ln i N < B
theorem Lim.mono {B B' N:Nat} (h:Lim B N) (hb:B≤B'):Lim B' N:=fun i hi=>Nat.lt_of_lt_of_le (h i hi) hb
theorem ln_mul {c:Nat}:∀ {j N:Nat},(∀ i,i≤j→ln i N * c < 2 ^ 128)→ln j (N * c)=ln j N * c
 | 0,N,h=>by
  have h0:=h 0 (Nat.le_refl 0)
  rw [show N * c=(N % 2 ^ 128 + 2 ^ 128 * (N / 2 ^ 128)) * c by rw [Nat.mod_add_div],Nat.add_mul,Nat.mul_assoc]
  simp only [ln,Nat.mul_zero,Nat.pow_zero,Nat.div_one] at h0 ⊢
  rw [Nat.add_mul_mod_self_left,Nat.mod_eq_of_lt h0]
 | j + 1,N,h=>by
  have h0:=h 0 (Nat.zero_le _)
  simp only [ln,Nat.mul_zero,Nat.pow_zero,Nat.div_one] at h0
  rw [ln_succ j N,← ln_mul (c:=c) (j:=j) (N:=N / 2 ^ 128) (fun i hi=>by rw [← ln_succ];exact h (i + 1) (by omega))]
  conv=>lhs;rw [show N * c=(N % 2 ^ 128) * c + 2 ^ 128 * ((N / 2 ^ 128) * c) by rw [← Nat.mul_assoc,← Nat.add_mul,Nat.mod_add_div]]
  exact ln_next _ _ h0
theorem ln_add:∀ {j N M:Nat},(∀ i,i≤j→ln i N + ln i M < 2 ^ 128)→ln j (N + M)=ln j N + ln j M
 | 0,N,M,h=>by
  have h0:=h 0 (Nat.le_refl 0)
  simp only [ln,Nat.mul_zero,Nat.pow_zero,Nat.div_one] at h0 ⊢
  rw [Nat.add_mod,Nat.mod_eq_of_lt h0]
 | j + 1,N,M,h=>by
  have h0:=h 0 (Nat.zero_le _)
  simp only [ln,Nat.mul_zero,Nat.pow_zero,Nat.div_one] at h0
  rw [ln_succ j N,ln_succ j M,← ln_add (j:=j) (N:=N / 2 ^ 128) (M:=M / 2 ^ 128) (fun i hi=>by rw [← ln_succ,← ln_succ];exact h (i + 1) (by omega))]
  have e:N + M=(N % 2 ^ 128 + M % 2 ^ 128) + 2 ^ 128 * (N / 2 ^ 128 + M / 2 ^ 128):=by
   have h1:=Nat.mod_add_div N (2 ^ 128)
   have h2:=Nat.mod_add_div M (2 ^ 128)
   rw [Nat.mul_add]
   omega
  conv=>lhs;rw [e]
  exact ln_next _ _ h0
theorem ln_cutshr {j N s b:Nat} (hj:j < 4096) (hs:s + b≤128):ln j ((N >>> s) &&& (LO * (2 ^ b - 1)))=(ln j N / 2 ^ s) % 2 ^ b:=by
 rw [ln_mask (by omega) hj]
 have h1:ln j (N >>> s) % 2 ^ b=(N / 2 ^ (128 * j) / 2 ^ s) % 2 ^ b:=by
  simp only [ln,Nat.shiftRight_eq_div_pow,Nat.div_div_eq_div_mul,Nat.mul_comm (2 ^ s)]
  rw [Nat.mod_mod_of_dvd _ (Nat.pow_dvd_pow 2 (by omega))]
 have h2:ln j N / 2 ^ s=(N / 2 ^ (128 * j) / 2 ^ s) % 2 ^ (128 - s):=by
  rw [ln]
  conv=>lhs;rw [show (2:Nat) ^ 128=2 ^ s * 2 ^ (128 - s) by rw [← Nat.pow_add,show s + (128 - s)=128 by omega]]
  rw [Nat.mod_mul_right_div_self]
 rw [h1,h2,Nat.mod_mod_of_dvd _ (Nat.pow_dvd_pow 2 (by omega))]
theorem LM_eq:LM=LO * (2 ^ 64 - 1):=by decide +kernel
theorem LO_one:LO * (2 ^ 1 - 1)=LO:=by decide +kernel
theorem land_is (a b:Nat):Nat.land a b=a &&& b:=rfl
theorem lor_is (a b:Nat):Nat.lor a b=a ||| b:=rfl
theorem xor_is (a b:Nat):Nat.xor a b=a ^^^ b:=rfl
theorem shr_is (a b:Nat):Nat.shiftRight a b=a >>> b:=rfl
theorem add_is (a b:Nat):Nat.add a b=a + b:=rfl
theorem mul_is (a b:Nat):Nat.mul a b=a * b:=rfl
theorem ln_shr {j N s:Nat} (hj:j < 4096) (hs:s≤64) (h:ln j N < 2 ^ 64):ln j (Nat.land (Nat.shiftRight N s) LM)=ln j N / 2 ^ s:=by
 have e:=ln_cutshr (N:=N) (s:=s) (b:=64) hj (by omega)
 have h3:ln j N / 2 ^ s < 2 ^ 64:=Nat.lt_of_le_of_lt (Nat.div_le_self _ _) h
 rw [Nat.mod_eq_of_lt h3] at e
 rw [land_is,shr_is,LM_eq]
 exact e
def ltm (A B:Nat):Nat:=Nat.land (Nat.shiftRight (Nat.add B (Nat.xor A LM)) 64) LO
theorem xor_ones {a:Nat} (h:a < 2 ^ 64):a ^^^ (2 ^ 64 - 1)=2 ^ 64 - 1 - a:=by
 have e:=congrArg BitVec.toNat (BitVec.xor_allOnes (x:=BitVec.ofNat 64 a))
 rw [BitVec.toNat_xor,BitVec.toNat_not,BitVec.toNat_allOnes,BitVec.toNat_ofNat,Nat.mod_eq_of_lt h] at e
 exact e
theorem ln_ltm {j A B:Nat} (hj:j < 4096) (ha:Lim (2 ^ 64) A) (hb:Lim (2 ^ 64) B):ln j (ltm A B)=if ln j A < ln j B then 1 else 0:=by
 have hx:∀ i,i < 4096→ln i (A ^^^ LM)=2 ^ 64 - 1 - ln i A:=by
  intro i hi
  rw [ln_xor,LM_eq,ln_LO (by decide) hi,xor_ones (ha i hi)]
 have e:=ln_cutshr (N:=B + (A ^^^ LM)) (s:=64) (b:=1) hj (by omega)
 rw [ln_add (fun i hi=>by rw [hx i (by omega)];have:=hb i (by omega);omega),hx j hj,LO_one] at e
 have e2:ltm A B=((B + (A ^^^ LM)) >>> 64) &&& LO:=by unfold ltm;rw [land_is,shr_is,add_is,xor_is]
 rw [e2,e]
 have h1:=ha j hj
 have h2:=hb j hj
 by_cases hlt:ln j A < ln j B
 ·rw [if_pos hlt]
  have:(ln j B + (2 ^ 64 - 1 - ln j A)) / 2 ^ 64=1:=by omega
  rw [this]
 ·rw [if_neg hlt]
  have:(ln j B + (2 ^ 64 - 1 - ln j A)) / 2 ^ 64=0:=by omega
  rw [this]
theorem ln_nought (j:Nat):ln j 0=0:=by simp [ln]
theorem ln_ones {j:Nat} (hj:j < 4096):ln j LO=1:=by
 have:=ln_LO (c:=1) (by decide) hj
 rw [Nat.mul_one] at this
 exact this
def lanB (f:Nat→Nat):Nat→Nat→Nat
 | 0,s=>f s
 | k + 1,s=>lanB f k s + 2 ^ (128 * 2 ^ k) * lanB f k (s + 2 ^ k)
theorem lanB_lt {f:Nat→Nat} (hf:∀ n,f n < 2 ^ 128):∀ k s,lanB f k s < 2 ^ (128 * 2 ^ k)
 | 0,s=>by simpa [lanB] using hf s
 | k + 1,s=>by
  have h1:=lanB_lt hf k s
  have h2:=lanB_lt hf k (s + 2 ^ k)
  have e:2 ^ (128 * 2 ^ (k + 1))=2 ^ (128 * 2 ^ k) * 2 ^ (128 * 2 ^ k):=by rw [← Nat.pow_add];congr 1;rw [Nat.pow_succ];omega
  rw [lanB,e]
  generalize 2 ^ (128 * 2 ^ k)=p at *
  calc lanB f k s + p * lanB f k (s + 2 ^ k) < p + p * lanB f k (s + 2 ^ k):=Nat.add_lt_add_right h1 _
   _=p * (lanB f k (s + 2 ^ k) + 1):=by rw [Nat.mul_add,Nat.mul_one,Nat.add_comm]
   _≤p * p:=Nat.mul_le_mul_left _ h2
theorem ln_lowB {j m a b:Nat} (hj:j < m):ln j (a + 2 ^ (128 * m) * b)=ln j a:=by
 have e:2 ^ (128 * m)=2 ^ (128 * j) * (2 ^ 128 * 2 ^ (128 * (m - j - 1))):=by rw [← Nat.pow_add,← Nat.pow_add];congr 1;omega
 unfold ln
 rw [e,Nat.mul_assoc,Nat.add_mul_div_left _ _ (Nat.pow_pos (by decide)),Nat.mul_assoc,Nat.add_mul_mod_self_left]
theorem ln_highB {j m a b:Nat} (ha:a < 2 ^ (128 * m)):ln (m + j) (a + 2 ^ (128 * m) * b)=ln j b:=by
 unfold ln
 rw [Nat.mul_add,Nat.pow_add,← Nat.div_div_eq_div_mul,Nat.add_mul_div_left _ _ (Nat.pow_pos (by decide)),Nat.div_eq_of_lt ha,Nat.zero_add]
theorem ln_lanB {f:Nat→Nat} (hf:∀ n,f n < 2 ^ 128):∀ k s j,j < 2 ^ k→ln j (lanB f k s)=f (s + j)
 | 0,s,j,h=>by
  have:j=0:=by simpa using h
  subst this
  simp only [ln,lanB,Nat.mul_zero,Nat.pow_zero,Nat.div_one,Nat.add_zero]
  exact Nat.mod_eq_of_lt (hf s)
 | k + 1,s,j,h=>by
  rw [lanB]
  by_cases hj:j < 2 ^ k
  ·rw [ln_lowB hj];exact ln_lanB hf k s j hj
  ·obtain ⟨i,rfl⟩:∃ i,j=2 ^ k + i:=⟨j - 2 ^ k,by omega⟩
   rw [ln_highB (lanB_lt hf k s),ln_lanB hf k _ i (by rw [Nat.pow_succ] at h;omega),Nat.add_assoc]
end Go.AM

namespace Go.AM
open Go
abbrev R:=Bool
inductive N8 (α:Type) where
 | mk (a b c d e f g h:α)
def L (α:Type):Nat→Type
 | 0=>α
 | n + 1=>N8 (L α n)
noncomputable def g80 (α:Type) (κ:α→R) (t:N8 α):R:=@N8.rec α (fun _=>R) (fun a b c d e f g h=>κ a) t
noncomputable def s80 (α:Type) (ih:α→(α→R)→R) (t:N8 α) (k:N8 α→R):R:=@N8.rec α (fun _=>R) (fun a b c d e f g h=>ih a fun y=>k (.mk y b c d e f g h)) t
noncomputable def g81 (α:Type) (κ:α→R) (t:N8 α):R:=@N8.rec α (fun _=>R) (fun a b c d e f g h=>κ b) t
noncomputable def s81 (α:Type) (ih:α→(α→R)→R) (t:N8 α) (k:N8 α→R):R:=@N8.rec α (fun _=>R) (fun a b c d e f g h=>ih b fun y=>k (.mk a y c d e f g h)) t
noncomputable def g82 (α:Type) (κ:α→R) (t:N8 α):R:=@N8.rec α (fun _=>R) (fun a b c d e f g h=>κ c) t
noncomputable def s82 (α:Type) (ih:α→(α→R)→R) (t:N8 α) (k:N8 α→R):R:=@N8.rec α (fun _=>R) (fun a b c d e f g h=>ih c fun y=>k (.mk a b y d e f g h)) t
noncomputable def g83 (α:Type) (κ:α→R) (t:N8 α):R:=@N8.rec α (fun _=>R) (fun a b c d e f g h=>κ d) t
noncomputable def s83 (α:Type) (ih:α→(α→R)→R) (t:N8 α) (k:N8 α→R):R:=@N8.rec α (fun _=>R) (fun a b c d e f g h=>ih d fun y=>k (.mk a b c y e f g h)) t
noncomputable def g84 (α:Type) (κ:α→R) (t:N8 α):R:=@N8.rec α (fun _=>R) (fun a b c d e f g h=>κ e) t
noncomputable def s84 (α:Type) (ih:α→(α→R)→R) (t:N8 α) (k:N8 α→R):R:=@N8.rec α (fun _=>R) (fun a b c d e f g h=>ih e fun y=>k (.mk a b c d y f g h)) t
noncomputable def g85 (α:Type) (κ:α→R) (t:N8 α):R:=@N8.rec α (fun _=>R) (fun a b c d e f g h=>κ f) t
noncomputable def s85 (α:Type) (ih:α→(α→R)→R) (t:N8 α) (k:N8 α→R):R:=@N8.rec α (fun _=>R) (fun a b c d e f g h=>ih f fun y=>k (.mk a b c d e y g h)) t
noncomputable def g86 (α:Type) (κ:α→R) (t:N8 α):R:=@N8.rec α (fun _=>R) (fun a b c d e f g h=>κ g) t
noncomputable def s86 (α:Type) (ih:α→(α→R)→R) (t:N8 α) (k:N8 α→R):R:=@N8.rec α (fun _=>R) (fun a b c d e f g h=>ih g fun y=>k (.mk a b c d e f y h)) t
noncomputable def g87 (α:Type) (κ:α→R) (t:N8 α):R:=@N8.rec α (fun _=>R) (fun a b c d e f g h=>κ h) t
noncomputable def s87 (α:Type) (ih:α→(α→R)→R) (t:N8 α) (k:N8 α→R):R:=@N8.rec α (fun _=>R) (fun a b c d e f g h=>ih h fun y=>k (.mk a b c d e f g y)) t
noncomputable def selG (α:Type) (d:Nat):(α→R)→N8 α→R:=@Nat.rec (fun _=>(α→R)→N8 α→R) (g80 α) (fun d _=>@Nat.rec (fun _=>(α→R)→N8 α→R) (g81 α) (fun d _=>@Nat.rec (fun _=>(α→R)→N8 α→R) (g82 α) (fun d _=>@Nat.rec (fun _=>(α→R)→N8 α→R) (g83 α) (fun d _=>@Nat.rec (fun _=>(α→R)→N8 α→R) (g84 α) (fun d _=>@Nat.rec (fun _=>(α→R)→N8 α→R) (g85 α) (fun d _=>@Nat.rec (fun _=>(α→R)→N8 α→R) (g86 α) (fun d _=>g87 α) d) d) d) d) d) d) d
noncomputable def selS (α:Type) (d:Nat):(α→(α→R)→R)→N8 α→(N8 α→R)→R:=@Nat.rec (fun _=>(α→(α→R)→R)→N8 α→(N8 α→R)→R) (s80 α) (fun d _=>@Nat.rec (fun _=>(α→(α→R)→R)→N8 α→(N8 α→R)→R) (s81 α) (fun d _=>@Nat.rec (fun _=>(α→(α→R)→R)→N8 α→(N8 α→R)→R) (s82 α) (fun d _=>@Nat.rec (fun _=>(α→(α→R)→R)→N8 α→(N8 α→R)→R) (s83 α) (fun d _=>@Nat.rec (fun _=>(α→(α→R)→R)→N8 α→(N8 α→R)→R) (s84 α) (fun d _=>@Nat.rec (fun _=>(α→(α→R)→R)→N8 α→(N8 α→R)→R) (s85 α) (fun d _=>@Nat.rec (fun _=>(α→(α→R)→R)→N8 α→(N8 α→R)→R) (s86 α) (fun d _=>s87 α) d) d) d) d) d) d) d
noncomputable def getK (α:Type) (κ:α→R) (n:Nat):Nat→L α n→R:=
 @Nat.rec (fun n=>Nat→L α n→R) (fun _=>κ) (fun n ih i=>selG (L α n) (Nat.div i (Nat.pow 8 n)) (ih (Nat.mod i (Nat.pow 8 n)))) n
noncomputable def sB (α:Type) (x:α) (_:α) (k:α→R):R:=k x
noncomputable def setK (α:Type) (x:α) (n:Nat):Nat→L α n→(L α n→R)→R:=
 @Nat.rec (fun n=>Nat→L α n→(L α n→R)→R) (fun _=>sB α x) (fun n ih i=>selS (L α n) (Nat.div i (Nat.pow 8 n)) (ih (Nat.mod i (Nat.pow 8 n)))) n
def rep8 {α:Type} (x:α):N8 α:=.mk x x x x x x x x
def repL (α:Type) (x:α):(n:Nat)→L α n
 | 0=>x
 | n + 1=>(rep8 (repL α x n):N8 (L α n))
inductive AV where
 | i (k:Nat) (n:Int)
 | b (b:Bool)
 | p (o off:Nat)
 | sl (o off len:Nat) (cap:Option Nat)
 | np
 | ns
 | s (l:List Nat)
 | m (o:Nat)
 | nm
 | fn (f:Nat) (caps:List AV)
 | yl (o:Nat)
 | nf
 | ifc (t:Nat) (v:AV)
 | ni
 | x (n:Nat)
 | xi (n k r m:Nat)
 | l (k N:Nat)
 | q (o off N:Nat)
 | t (l:List AV)
 | f (n m:Nat)
 | z (n m:Nat)
 | ag (l:List AV)
 | tu (l:List AV)
inductive AD where
 | fn (f:Nat) (args:List AV)
 | col (o:Nat)
inductive J where
 | no
 | ret
 | exit (id:Nat)
inductive ME where
 | mk (k v:AV) (born:Nat)
inductive AO where
 | ce (n:Nat) (es:Nat) (z:List AV) (zl:Nat) (d:Nat) (t:L (Option AV) d) (top:Bool) (sh:List Nat)
 | sm (l:List AV)
 | st (ty:Nat) (l:List AV)
 | bt (ty:Nat) (l:List AV)
 | mp (es:List ME) (clock:Nat)
 | it (m:Option Nat) (since:Nat) (seen:List Nat) (stepped:Nat)
 | lp (st:LoopState) (j:J) (fn:Nat) (li:Nat) (en:L AV 3) (ds:Nat)
 | df (open_:Bool)
 | dead
abbrev Env:=L AV 3
abbrev H:=L (Option AO) 7
abbrev K:=AV→H→Nat→R
abbrev OpF:=Env→H→Nat→K→R
abbrev SegF:=Env→H→Nat→(Env→H→Nat→R)→R
abbrev XF:=Env→(AV→R)→R
abbrev XsF:=Env→(List AV→R)→R
abbrev GdF:=Env→R→R→R
abbrev DsF:=AV→Env→(Env→R)→R
abbrev ResF:=Env→H→(AV→R)→R
abbrev AssF:=List AV→Env→(Env→R)→R
inductive Rg where
 | fin (s:SegF)
 | call (s:SegF) (g:GdF) (d:DsF) (f:Nat) (xs:XsF) (r:Rg)
 | calv (s:SegF) (g:GdF) (d:DsF) (x:XF) (xs:XsF) (r:Rg)
 | dfr (s:SegF) (g:GdF) (d:DsF) (x:XF) (xs:XsF) (r:Rg)
 | rcv (s:SegF) (g:GdF) (d:DsF) (r:Rg)
 | inv (s:SegF) (g:GdF) (d:DsF) (tbl:List (Nat × Nat)) (x:XF) (xs:XsF) (r:Rg)
inductive C where
 | skip
 | rg (r:Rg)
 | seq (a b:C)
 | cond (x:XF) (a b:C)
 | blk (id:Nat) (a:C)
 | loop (a:C)
 | rf (x:XF) (li:Nat)
 | exit (id:Nat)
 | sc (a:C)
 | bad
 | ret
 | spl (s:SegF) (c:C)
inductive T where
 | c (c:C)
 | rg (r:Rg)
 | blk (id:Nat)
 | lp (c:C)
 | wt (d:DsF) (r:Rg)
 | rt
 | sc
 | irf (o:Nat)
 | erf (o:Nat)
 | br
abbrev SpF:=List AV→H→Nat→(AV→H→Nat→R)→R
inductive AFn where
 | mk (c:C) (res:ResF)
 | sp (s:SpF)
inductive ALp where
 | mk (ps:AssF) (a b:C)
inductive Tb where
 | mk (f:L (Option AFn) 4) (l:L (Option ALp) 5) (lv:Bool)
inductive Fr where
 | mk (fn:Nat) (df:List AD) (kd:Bool) (rd:Option Nat)
inductive AFr where
 | mk (en:Env) (td:List T) (fr:Fr)
inductive ASt where
 | mk (en:Env) (td:List T) (fr:Fr) (cs:List AFr) (h:H) (nx:Nat)
 | fin (v:AV) (h:H) (nx:Nat)
noncomputable def br (c:Bool) (a b:R):R:=@Bool.rec (fun _=>R) b a c
noncomputable def fnat (n:Nat) (κ:Nat→R):R:=@Nat.rec (fun _=>R) (κ 0) (fun m _=>κ (Nat.succ m)) n
noncomputable def fint (n:Int) (κ:Int→R):R:=@Int.rec (fun _=>R) (fun m=>fnat m fun m=>κ (.ofNat m)) (fun m=>fnat m fun m=>κ (.negSucc m)) n
noncomputable def fbool (c:Bool) (κ:Bool→R):R:=@Bool.rec (fun _=>R) (κ false) (κ true) c
noncomputable def opt (α:Type) (κ:α→R) (x:Option α):R:=@Option.rec α (fun _=>R) false κ x
noncomputable def nthK (α:Type) (κ:α→R) (l:List α):Nat→R:=
 @List.rec α (fun _=>Nat→R) (fun _=>false) (fun x _ ih n=>@Nat.rec (fun _=>R) (κ x) (fun m _=>ih m) n) l
noncomputable def lenN (α:Type) (l:List α):Nat:=@List.rec α (fun _=>Nat) 0 (fun _ _ ih=>Nat.succ ih) l
noncomputable def not' (c:Bool):Bool:=@Bool.rec (fun _=>Bool) true false c
noncomputable def or' (c d:Bool):Bool:=@Bool.rec (fun _=>Bool) d true c
noncomputable def eqB (c d:Bool):Bool:=@Bool.rec (fun _=>Bool) (not' d) d c
noncomputable def appK (α:Type) (a b:List α) (κ:List α→R):R:=@List.rec α (fun _=>(List α→R)→R) (fun κ=>κ b) (fun x _ ih κ=>ih fun r=>κ (x :: r)) a κ
end Go.AM

namespace Go.AM
open Go
noncomputable def asK (k:Nat) (κ:Int→R) (v:AV):R:=@AV.rec (fun _=>R) (fun _=>Unit) (fun k' n=>br (Nat.beq k' k) (κ n) false) (fun _=>false) (fun _ _=>false) (fun _ _ _ _=>false) (false) (false) (fun _=>false) (fun _=>false) (false) (fun _ _ _=>false) (fun _=>false) (false) (fun _ _ _=>false) (false) (fun _=>false) (fun _ _ _ _=>false) (fun _ _=>false) (fun _ _ _=>false) (fun _ _=>false) (fun _ _=>false) (fun _ _=>false) (fun _ _=>false) (fun _ _=>false) () (fun _ _ _ _=>()) v
noncomputable def asI (κ:Nat→Int→R) (v:AV):R:=@AV.rec (fun _=>R) (fun _=>Unit) (κ) (fun _=>false) (fun _ _=>false) (fun _ _ _ _=>false) (false) (false) (fun _=>false) (fun _=>false) (false) (fun _ _ _=>false) (fun _=>false) (false) (fun _ _ _=>false) (false) (fun _=>false) (fun _ _ _ _=>false) (fun _ _=>false) (fun _ _ _=>false) (fun _ _=>false) (fun _ _=>false) (fun _ _=>false) (fun _ _=>false) (fun _ _=>false) () (fun _ _ _ _=>()) v
noncomputable def asN (κ:Nat→R) (v:AV):R:=@AV.rec (fun _=>R) (fun _=>Unit) (fun _ n=>@Int.rec (fun _=>R) κ (fun _=>false) n) (fun _=>false) (fun _ _=>false) (fun _ _ _ _=>false) (false) (false) (fun _=>false) (fun _=>false) (false) (fun _ _ _=>false) (fun _=>false) (false) (fun _ _ _=>false) (false) (fun _=>false) (fun _ _ _ _=>false) (fun _ _=>false) (fun _ _ _=>false) (fun _ _=>false) (fun _ _=>false) (fun _ _=>false) (fun _ _=>false) (fun _ _=>false) () (fun _ _ _ _=>()) v
noncomputable def asB (κ:Bool→R) (v:AV):R:=@AV.rec (fun _=>R) (fun _=>Unit) (fun _ _=>false) (κ) (fun _ _=>false) (fun _ _ _ _=>false) (false) (false) (fun _=>false) (fun _=>false) (false) (fun _ _ _=>false) (fun _=>false) (false) (fun _ _ _=>false) (false) (fun _=>false) (fun _ _ _ _=>false) (fun _ _=>false) (fun _ _ _=>false) (fun _ _=>false) (fun _ _=>false) (fun _ _=>false) (fun _ _=>false) (fun _ _=>false) () (fun _ _ _ _=>()) v
noncomputable def asP (κ:Nat→Nat→R) (v:AV):R:=@AV.rec (fun _=>R) (fun _=>Unit) (fun _ _=>false) (fun _=>false) (κ) (fun _ _ _ _=>false) (false) (false) (fun _=>false) (fun _=>false) (false) (fun _ _ _=>false) (fun _=>false) (false) (fun _ _ _=>false) (false) (fun _=>false) (fun _ _ _ _=>false) (fun _ _=>false) (fun _ _ _=>false) (fun _ _=>false) (fun _ _=>false) (fun _ _=>false) (fun _ _=>false) (fun _ _=>false) () (fun _ _ _ _=>()) v
noncomputable def asS (κ:List Nat→R) (v:AV):R:=@AV.rec (fun _=>R) (fun _=>Unit) (fun _ _=>false) (fun _=>false) (fun _ _=>false) (fun _ _ _ _=>false) (false) (false) (κ) (fun _=>false) (false) (fun _ _ _=>false) (fun _=>false) (false) (fun _ _ _=>false) (false) (fun _=>false) (fun _ _ _ _=>false) (fun _ _=>false) (fun _ _ _=>false) (fun _ _=>false) (fun _ _=>false) (fun _ _=>false) (fun _ _=>false) (fun _ _=>false) () (fun _ _ _ _=>()) v
noncomputable def asM (κ:Nat→R) (v:AV):R:=@AV.rec (fun _=>R) (fun _=>Unit) (fun _ _=>false) (fun _=>false) (fun _ _=>false) (fun _ _ _ _=>false) (false) (false) (fun _=>false) (κ) (false) (fun _ _ _=>false) (fun _=>false) (false) (fun _ _ _=>false) (false) (fun _=>false) (fun _ _ _ _=>false) (fun _ _=>false) (fun _ _ _=>false) (fun _ _=>false) (fun _ _=>false) (fun _ _=>false) (fun _ _=>false) (fun _ _=>false) () (fun _ _ _ _=>()) v
noncomputable def asTu (κ:List AV→R) (v:AV):R:=@AV.rec (fun _=>R) (fun _=>Unit) (fun _ _=>false) (fun _=>false) (fun _ _=>false) (fun _ _ _ _=>false) (false) (false) (fun _=>false) (fun _=>false) (false) (fun _ _ _=>false) (fun _=>false) (false) (fun _ _ _=>false) (false) (fun _=>false) (fun _ _ _ _=>false) (fun _ _=>false) (fun _ _ _=>false) (fun _ _=>false) (fun _ _=>false) (fun _ _=>false) (fun _ _=>false) (fun l _=>κ l) () (fun _ _ _ _=>()) v
noncomputable def asAg (κ:List AV→R) (v:AV):R:=@AV.rec (fun _=>R) (fun _=>Unit) (fun _ _=>false) (fun _=>false) (fun _ _=>false) (fun _ _ _ _=>false) (false) (false) (fun _=>false) (fun _=>false) (false) (fun _ _ _=>false) (fun _=>false) (false) (fun _ _ _=>false) (false) (fun _=>false) (fun _ _ _ _=>false) (fun _ _=>false) (fun _ _ _=>false) (fun _ _=>false) (fun _ _=>false) (fun _ _=>false) (fun l _=>κ l) (fun _ _=>false) () (fun _ _ _ _=>()) v
noncomputable def cellsK (κ:List AV→R) (v:AV):R:=@AV.rec (fun _=>R) (fun _=>Unit) (fun x0 x1=>κ [(.i x0 x1:AV)]) (fun x0=>κ [(.b x0:AV)]) (fun x0 x1=>κ [(.p x0 x1:AV)]) (fun x0 x1 x2 x3=>κ [(.sl x0 x1 x2 x3:AV)]) (κ [(.np:AV)]) (κ [(.ns:AV)]) (fun x0=>κ [(.s x0:AV)]) (fun x0=>κ [(.m x0:AV)]) (κ [(.nm:AV)]) (fun x0 x1 _=>κ [(.fn x0 x1:AV)]) (fun x0=>κ [(.yl x0:AV)]) (κ [(.nf:AV)]) (fun x0 x1 _=>κ [(.ifc x0 x1:AV)]) (κ [(.ni:AV)]) (fun x0=>κ [(.x x0:AV)]) (fun x0 x1 x2 x3=>κ [(.xi x0 x1 x2 x3:AV)]) (fun x0 x1=>κ [(.l x0 x1:AV)]) (fun x0 x1 x2=>κ [(.q x0 x1 x2:AV)]) (fun x0 _=>κ [(.t x0:AV)]) (fun x0 x1=>κ [(.f x0 x1:AV)]) (fun x0 x1=>κ [(.z x0 x1:AV)]) (fun l _=>κ l) (fun _ _=>false) () (fun _ _ _ _=>()) v
def kindOf:Nat→IntKind
 | 0=>.i8 | 1=>.i16 | 2=>.i32 | 3=>.i64 | 4=>.u8 | 5=>.u16 | 6=>.u32 | _=>.u64
def kbit:Nat→Nat
 | 0=>8 | 1=>16 | 2=>32 | 3=>64 | 4=>8 | 5=>16 | 6=>32 | _=>64
def khi:Nat→Nat
 | 0=>128 | 1=>32768 | 2=>2147483648 | 3=>9223372036854775808
 | 4=>256 | 5=>65536 | 6=>4294967296 | _=>18446744073709551616
def klo:Nat→Nat
 | 0=>128 | 1=>32768 | 2=>2147483648 | 3=>9223372036854775808 | _=>0
noncomputable def wrN (k:Nat) (m:Nat) (κ:Int→R):R:=fnat m fun m=>br (Nat.blt m (khi k)) (κ (.ofNat m)) (fint ((kindOf k).wrap (.ofNat m)) κ)
noncomputable def wrG (k:Nat) (m:Nat) (κ:Int→R):R:=fnat m fun m=>br (Nat.blt m (klo k)) (κ (.negSucc m)) (fint ((kindOf k).wrap (.negSucc m)) κ)
noncomputable def wrap (k:Nat) (n:Int) (κ:Int→R):R:=@Int.rec (fun _=>R) (fun m=>wrN k m κ) (fun m=>wrG k m κ) n
abbrev ArF:=Nat→Int→Int→(Int→R)→R
noncomputable def sgn (a b:Int) (p:Nat→Nat→R) (q r s:R):R:=
 @Int.rec (fun _=>R) (fun m=>@Int.rec (fun _=>R) (fun n=>p m n) (fun _=>q) b) (fun _=>@Int.rec (fun _=>R) (fun _=>r) (fun _=>s) b) a
noncomputable def arAdd (k:Nat) (a b:Int) (κ:Int→R):R:=
 let o:=wrap k (Int.add a b) κ
 sgn a b (fun m n=>wrN k (Nat.add m n) κ) o o o
noncomputable def arSub (k:Nat) (a b:Int) (κ:Int→R):R:=
 let o:=wrap k (Int.sub a b) κ
 sgn a b (fun m n=>br (Nat.ble n m) (wrN k (Nat.sub m n) κ) o) o o o
noncomputable def arMul (k:Nat) (a b:Int) (κ:Int→R):R:=
 let o:=wrap k (Int.mul a b) κ
 sgn a b (fun m n=>wrN k (Nat.mul m n) κ) o o o
noncomputable def isZ (b:Int) (z nz:R):R:=@Int.rec (fun _=>R) (fun n=>br (Nat.beq n 0) z nz) (fun _=>nz) b
noncomputable def arQuo (k:Nat) (a b:Int) (κ:Int→R):R:=
 let o:=wrap k (Int.tdiv a b) κ
 isZ b false (sgn a b (fun m n=>wrN k (Nat.div m n) κ) o o o)
noncomputable def arRem (_:Nat) (a b:Int) (κ:Int→R):R:=
 let o:=fint (Int.tmod a b) κ
 isZ b false (sgn a b (fun m n=>fnat (Nat.mod m n) fun r=>κ (.ofNat r)) o o o)
def bitsI (op:BinOp) (k:IntKind) (x y:Int):Int:=
 let a:=BitVec.ofInt k.bits x
 let b:=BitVec.ofInt k.bits y
 match op with
 | .and=>k.wrap (a &&& b).toNat
 | .or=>k.wrap (a ||| b).toNat
 | .xor=>k.wrap (a ^^^ b).toNat
 | .andNot=>k.wrap (a &&& ~~~b).toNat
 | _=>0
noncomputable def arBit (op:BinOp) (f:Nat→Nat→Nat) (k:Nat) (a b:Int) (κ:Int→R):R:=
 let o:=fint (bitsI op (kindOf k) a b) κ
 sgn a b (fun m n=>br (Nat.blt m (khi k)) (br (Nat.blt n (khi k)) (fnat (f m n) fun r=>κ (.ofNat r)) o) o) o o o
noncomputable def arAnd:ArF:=arBit .and Nat.land
noncomputable def arOr:ArF:=arBit .or Nat.lor
noncomputable def arXor:ArF:=arBit .xor Nat.xor
noncomputable def arAnn:ArF:=arBit .andNot fun m n=>Nat.xor m (Nat.land m n)
noncomputable def shl (k:Nat) (a:Int) (n:Nat) (κ:Int→R):R:=wrap k (Int.mul a (.ofNat (Nat.pow 2 (Nat.min n (kbit k))))) κ
noncomputable def shr (k:Nat) (a:Int) (n:Nat) (κ:Int→R):R:=
 @Int.rec (fun _=>R) (fun m=>fnat (Nat.div m (Nat.pow 2 (Nat.min n (kbit k)))) fun r=>κ (.ofNat r)) (fun _=>fint (Int.fdiv a (.ofNat (Nat.pow 2 (Nat.min n (kbit k))))) κ) a
noncomputable def cmLt (a b:Int) (κ:Bool→R):R:=sgn a b (fun m n=>κ (Nat.blt m n)) (κ false) (κ true) (κ (decide (a < b)))
noncomputable def cmLe (a b:Int) (κ:Bool→R):R:=sgn a b (fun m n=>κ (Nat.ble m n)) (κ false) (κ true) (κ (decide (a≤b)))
noncomputable def cmEq (a b:Int) (κ:Bool→R):R:=sgn a b (fun m n=>κ (Nat.beq m n)) (κ false) (κ false) (κ (decide (a=b)))
noncomputable def lMask (k:Nat):Nat:=Nat.mul LO (Nat.sub (khi k) 1)
noncomputable def lnK (k:Nat) (v:AV) (κ:Nat→R):R:=match v with
 | .l k' N=>br (Nat.beq k' k) (br (Nat.blt k 8) (κ N) false) false
 | .i k' n=>br (Nat.beq k' k) (@Int.rec (fun _=>R) (fun n=>br (Nat.blt n (khi k)) (fnat (Nat.mul LO n) κ) false) (fun _=>false) n) false
 | _=>false
abbrev LaF:=Nat→Nat→Nat→(Nat→R)→R
noncomputable def laCut (k N:Nat) (κ:Nat→R):R:=fnat (Nat.land N (lMask k)) fun M=>br (or' (Nat.ble 4 k) (Nat.beq M N)) (κ M) false
noncomputable def laAdd:LaF:=fun k A B κ=>fnat (Nat.add A B) fun N=>laCut k N κ
noncomputable def laAnd:LaF:=fun _ A B κ=>fnat (Nat.land A B) κ
noncomputable def laOr:LaF:=fun _ A B κ=>fnat (Nat.lor A B) κ
noncomputable def laXor:LaF:=fun _ A B κ=>fnat (Nat.xor A B) κ
noncomputable def laMul:LaF:=fun k A B κ=>fnat (Nat.mod B 18446744073709551616) fun c=>br (Nat.beq (Nat.mul LO c) B) (fnat (Nat.mul A c) fun N=>laCut k N κ) false
noncomputable def laSubs (k c:Nat):Nat→Nat→(Nat→R)→R:=
 @Nat.rec (fun _=>Nat→(Nat→R)→R) (fun _ _=>false) (fun _ ih N κ=>fnat (Nat.xor LO (ltm N (Nat.mul LO c))) fun Y=>br (Nat.beq Y 0) (κ N)
  (fnat (Nat.mul Y c) fun M=>br (Nat.ble M N) (fnat (Nat.sub N M) fun N'=>br (Nat.beq (Nat.land N' (lMask k)) N') (ih N' κ) false) false))
noncomputable def laRem:LaF:=fun k A B κ=>fnat (Nat.mod B 18446744073709551616) fun c=>br (Nat.beq (Nat.mul LO c) B) (br (Nat.beq (Nat.pow 2 (Nat.log2 c)) c) (fnat (Nat.land A (Nat.mul LO (Nat.sub c 1))) κ)
 (br (Nat.blt 0 c) (laSubs k c 1000 A κ) false)) false
noncomputable def colV (v:AV) (κ:AV→R):R:=match v with
 | .l k N=>fnat (Nat.mod N 340282366920938463463374607431768211456) fun c=>br (Nat.blt k 8) (br (Nat.beq (Nat.mul LO c) N) (κ (.i k (.ofNat c))) (κ (.l k N))) (κ (.l k N))
 | v=>κ v
noncomputable def lbK (Y:Nat) (κ:AV→R):R:=br (Nat.beq Y 0) (κ (.b false)) (br (Nat.beq Y LO) (κ (.b true)) (κ (.l 9 Y)))
noncomputable def ltmK (A B:Nat) (κ:Nat→R):R:=fnat (ltm A B) κ
noncomputable def laEq (c:Nat) (x y:AV) (κ:Bool→R):R:=lnK c x fun A=>lnK c y fun B=>fnat (Nat.xor A B) fun X=>br (Nat.beq X 0) (κ true) (br (Nat.beq (ltm 0 X) LO) (κ false) false)
noncomputable def isL (v:AV):Bool:=match v with | .l _ _=>true | _=>false
noncomputable def isLL (a b:AV):Bool:=or' (isL a) (isL b)
noncomputable def anyL (vs:List AV):Bool:=@List.rec AV (fun _=>Bool) false (fun v _ ih=>or' (isL v) ih) vs
noncomputable def laDif (ks:List Nat):List AV→List AV→(Nat→R)→R:=
 @List.rec Nat (fun _=>List AV→List AV→(Nat→R)→R) (fun a b κ=>@List.rec AV (fun _=>R) (@List.rec AV (fun _=>R) (κ 0) (fun _ _ _=>false) b) (fun _ _ _=>false) a)
  (fun c _ ih a b κ=>br (Nat.blt c 8) (@List.rec AV (fun _=>R) false (fun x r _=>@List.rec AV (fun _=>R) false (fun y s _=>lnK c x fun A=>lnK c y fun B=>ih r s fun D=>fnat (Nat.lor D (Nat.xor A B)) κ) b) a) false) ks
noncomputable def laQ (ks:List Nat) (a b:List AV) (κ:Bool→R):R:=laDif ks a b fun D=>br (Nat.beq D 0) (κ true) (br (Nat.beq (ltm 0 D) LO) (κ false) false)
noncomputable def eqL (a:List Nat):List Nat→Bool:=
 @List.rec Nat (fun _=>List Nat→Bool) (fun b=>@List.rec Nat (fun _=>Bool) true (fun _ _ _=>false) b)
  (fun x _ ih b=>@List.rec Nat (fun _=>Bool) false (fun y s _=>@Bool.rec (fun _=>Bool) false (ih s) (Nat.beq x y)) b) a
noncomputable def ltL (a:List Nat):List Nat→Bool:=
 @List.rec Nat (fun _=>List Nat→Bool) (fun b=>@List.rec Nat (fun _=>Bool) false (fun _ _ _=>true) b)
  (fun x _ ih b=>@List.rec Nat (fun _=>Bool) false (fun y s _=>@Bool.rec (fun _=>Bool) (@Bool.rec (fun _=>Bool) false (ih s) (Nat.beq x y)) true (Nat.blt x y)) b) a
noncomputable def isXi (v:AV):Bool:=match v with | .xi _ _ _ _=>true | _=>false
noncomputable def isTx (v:AV):Bool:=match v with | .t _=>true | _=>false
noncomputable def byXq (x y:AV) (κ:Bool→R):R:=match x with
 | .xi _ k _ _=>(match y with
  | .i k2 c=>br (Nat.beq k 22) (br (Nat.beq k2 4) (@Int.rec (fun _=>R) (fun c=>br (Nat.beq c 48) false (br (Nat.beq c 49) false (κ false))) (fun _=>false) c) false) false
  | _=>false)
 | _=>false
noncomputable def byEq (x y:AV) (κ:Bool→R):R:=br (isXi x) (byXq x y κ) (br (isXi y) (byXq y x κ) (laEq 4 x y κ))
noncomputable def asT (a:List AV):List AV→(Bool→R)→R:=
 @List.rec AV (fun _=>List AV→(Bool→R)→R) (fun b κ=>@List.rec AV (fun _=>R) (κ true) (fun _ _ _=>κ false) b)
  (fun x _ ih b κ=>@List.rec AV (fun _=>R) (κ false) (fun y s _=>byEq x y fun q=>br q (ih s κ) (κ false)) b) a
noncomputable def ofBytes (l:List Nat) (κ:List AV→R):R:=
 @List.rec Nat (fun _=>(List AV→R)→R) (fun κ=>κ []) (fun m _ ih κ=>ih fun vs=>κ (.i 4 (.ofNat m) :: vs)) l κ
noncomputable def asSQ (x y:AV) (κ:Bool→R):R:=match x with
 | .s a=>(match y with
  | .s b=>κ (eqL a b)
  | .xi _ k r _=>br (Nat.beq k 8) (br (eqL a [r]) (κ false) false) false
  | .t b=>ofBytes a fun a=>asT a b κ
  | _=>false)
 | .xi _ k r _=>(match y with
  | .s b=>br (Nat.beq k 8) (br (eqL b [r]) (κ false) false) false
  | _=>false)
 | .t a=>(match y with
  | .t b=>asT a b κ
  | .s b=>ofBytes b fun b=>asT a b κ
  | _=>false)
 | _=>false
noncomputable def eqK (c:Nat) (x y:AV) (κ:Bool→R):R:=
 br (Nat.blt c 8) (br (isLL x y) (laEq c x y κ) (asK c (fun a=>asK c (fun b=>cmEq a b κ) y) x)) (br (Nat.beq c 8) (asSQ x y κ) (asB (fun a=>asB (fun b=>κ (eqB a b)) y) x))
noncomputable def eqTs (ks:List Nat):List AV→List AV→(Bool→R)→R:=
 @List.rec Nat (fun _=>List AV→List AV→(Bool→R)→R) (fun a b κ=>@List.rec AV (fun _=>R) (@List.rec AV (fun _=>R) (κ true) (fun _ _ _=>false) b) (fun _ _ _=>false) a)
  (fun c _ ih a b κ=>@List.rec AV (fun _=>R) false (fun x r _=>@List.rec AV (fun _=>R) false (fun y s _=>eqK c x y fun q=>br q (ih r s κ) (κ false)) b) a) ks
noncomputable def headK (κ:Nat→R) (ks:List Nat):R:=@List.rec Nat (fun _=>R) false (fun c _ _=>κ c) ks
abbrev QF:=AV→AV→(Bool→R)→R
noncomputable def eqT (agg:Bool) (ks:List Nat):QF:=fun x y κ=>
 @Bool.rec (fun _=>R) (headK (fun c=>eqK c x y κ) ks) (asAg (fun a=>asAg (fun b=>br (or' (anyL a) (anyL b)) (laQ ks a b κ) (eqTs ks a b κ)) y) x) agg
noncomputable def kyT (agg:Bool) (ks:List Nat) (x:AV) (κ:R):R:=
 @Bool.rec (fun _=>R) κ (asAg (fun a=>eqTs ks a a fun c=>br c κ false) x) agg
noncomputable def none':Option AO:=none
noncomputable def gH0 (d:Nat):((L (Option AO) 0)→R)→N8 (L (Option AO) 0)→R:=@Nat.rec (fun _=>((L (Option AO) 0)→R)→N8 (L (Option AO) 0)→R) (g80 (L (Option AO) 0)) (fun d _=>@Nat.rec (fun _=>((L (Option AO) 0)→R)→N8 (L (Option AO) 0)→R) (g81 (L (Option AO) 0)) (fun d _=>@Nat.rec (fun _=>((L (Option AO) 0)→R)→N8 (L (Option AO) 0)→R) (g82 (L (Option AO) 0)) (fun d _=>@Nat.rec (fun _=>((L (Option AO) 0)→R)→N8 (L (Option AO) 0)→R) (g83 (L (Option AO) 0)) (fun d _=>@Nat.rec (fun _=>((L (Option AO) 0)→R)→N8 (L (Option AO) 0)→R) (g84 (L (Option AO) 0)) (fun d _=>@Nat.rec (fun _=>((L (Option AO) 0)→R)→N8 (L (Option AO) 0)→R) (g85 (L (Option AO) 0)) (fun d _=>@Nat.rec (fun _=>((L (Option AO) 0)→R)→N8 (L (Option AO) 0)→R) (g86 (L (Option AO) 0)) (fun d _=>g87 (L (Option AO) 0)) d) d) d) d) d) d) d
noncomputable def sH0 (d:Nat):((L (Option AO) 0)→((L (Option AO) 0)→R)→R)→N8 (L (Option AO) 0)→(N8 (L (Option AO) 0)→R)→R:=@Nat.rec (fun _=>((L (Option AO) 0)→((L (Option AO) 0)→R)→R)→N8 (L (Option AO) 0)→(N8 (L (Option AO) 0)→R)→R) (s80 (L (Option AO) 0)) (fun d _=>@Nat.rec (fun _=>((L (Option AO) 0)→((L (Option AO) 0)→R)→R)→N8 (L (Option AO) 0)→(N8 (L (Option AO) 0)→R)→R) (s81 (L (Option AO) 0)) (fun d _=>@Nat.rec (fun _=>((L (Option AO) 0)→((L (Option AO) 0)→R)→R)→N8 (L (Option AO) 0)→(N8 (L (Option AO) 0)→R)→R) (s82 (L (Option AO) 0)) (fun d _=>@Nat.rec (fun _=>((L (Option AO) 0)→((L (Option AO) 0)→R)→R)→N8 (L (Option AO) 0)→(N8 (L (Option AO) 0)→R)→R) (s83 (L (Option AO) 0)) (fun d _=>@Nat.rec (fun _=>((L (Option AO) 0)→((L (Option AO) 0)→R)→R)→N8 (L (Option AO) 0)→(N8 (L (Option AO) 0)→R)→R) (s84 (L (Option AO) 0)) (fun d _=>@Nat.rec (fun _=>((L (Option AO) 0)→((L (Option AO) 0)→R)→R)→N8 (L (Option AO) 0)→(N8 (L (Option AO) 0)→R)→R) (s85 (L (Option AO) 0)) (fun d _=>@Nat.rec (fun _=>((L (Option AO) 0)→((L (Option AO) 0)→R)→R)→N8 (L (Option AO) 0)→(N8 (L (Option AO) 0)→R)→R) (s86 (L (Option AO) 0)) (fun d _=>s87 (L (Option AO) 0)) d) d) d) d) d) d) d
noncomputable def gH1 (d:Nat):((L (Option AO) 1)→R)→N8 (L (Option AO) 1)→R:=@Nat.rec (fun _=>((L (Option AO) 1)→R)→N8 (L (Option AO) 1)→R) (g80 (L (Option AO) 1)) (fun d _=>@Nat.rec (fun _=>((L (Option AO) 1)→R)→N8 (L (Option AO) 1)→R) (g81 (L (Option AO) 1)) (fun d _=>@Nat.rec (fun _=>((L (Option AO) 1)→R)→N8 (L (Option AO) 1)→R) (g82 (L (Option AO) 1)) (fun d _=>@Nat.rec (fun _=>((L (Option AO) 1)→R)→N8 (L (Option AO) 1)→R) (g83 (L (Option AO) 1)) (fun d _=>@Nat.rec (fun _=>((L (Option AO) 1)→R)→N8 (L (Option AO) 1)→R) (g84 (L (Option AO) 1)) (fun d _=>@Nat.rec (fun _=>((L (Option AO) 1)→R)→N8 (L (Option AO) 1)→R) (g85 (L (Option AO) 1)) (fun d _=>@Nat.rec (fun _=>((L (Option AO) 1)→R)→N8 (L (Option AO) 1)→R) (g86 (L (Option AO) 1)) (fun d _=>g87 (L (Option AO) 1)) d) d) d) d) d) d) d
noncomputable def sH1 (d:Nat):((L (Option AO) 1)→((L (Option AO) 1)→R)→R)→N8 (L (Option AO) 1)→(N8 (L (Option AO) 1)→R)→R:=@Nat.rec (fun _=>((L (Option AO) 1)→((L (Option AO) 1)→R)→R)→N8 (L (Option AO) 1)→(N8 (L (Option AO) 1)→R)→R) (s80 (L (Option AO) 1)) (fun d _=>@Nat.rec (fun _=>((L (Option AO) 1)→((L (Option AO) 1)→R)→R)→N8 (L (Option AO) 1)→(N8 (L (Option AO) 1)→R)→R) (s81 (L (Option AO) 1)) (fun d _=>@Nat.rec (fun _=>((L (Option AO) 1)→((L (Option AO) 1)→R)→R)→N8 (L (Option AO) 1)→(N8 (L (Option AO) 1)→R)→R) (s82 (L (Option AO) 1)) (fun d _=>@Nat.rec (fun _=>((L (Option AO) 1)→((L (Option AO) 1)→R)→R)→N8 (L (Option AO) 1)→(N8 (L (Option AO) 1)→R)→R) (s83 (L (Option AO) 1)) (fun d _=>@Nat.rec (fun _=>((L (Option AO) 1)→((L (Option AO) 1)→R)→R)→N8 (L (Option AO) 1)→(N8 (L (Option AO) 1)→R)→R) (s84 (L (Option AO) 1)) (fun d _=>@Nat.rec (fun _=>((L (Option AO) 1)→((L (Option AO) 1)→R)→R)→N8 (L (Option AO) 1)→(N8 (L (Option AO) 1)→R)→R) (s85 (L (Option AO) 1)) (fun d _=>@Nat.rec (fun _=>((L (Option AO) 1)→((L (Option AO) 1)→R)→R)→N8 (L (Option AO) 1)→(N8 (L (Option AO) 1)→R)→R) (s86 (L (Option AO) 1)) (fun d _=>s87 (L (Option AO) 1)) d) d) d) d) d) d) d
noncomputable def gH2 (d:Nat):((L (Option AO) 2)→R)→N8 (L (Option AO) 2)→R:=@Nat.rec (fun _=>((L (Option AO) 2)→R)→N8 (L (Option AO) 2)→R) (g80 (L (Option AO) 2)) (fun d _=>@Nat.rec (fun _=>((L (Option AO) 2)→R)→N8 (L (Option AO) 2)→R) (g81 (L (Option AO) 2)) (fun d _=>@Nat.rec (fun _=>((L (Option AO) 2)→R)→N8 (L (Option AO) 2)→R) (g82 (L (Option AO) 2)) (fun d _=>@Nat.rec (fun _=>((L (Option AO) 2)→R)→N8 (L (Option AO) 2)→R) (g83 (L (Option AO) 2)) (fun d _=>@Nat.rec (fun _=>((L (Option AO) 2)→R)→N8 (L (Option AO) 2)→R) (g84 (L (Option AO) 2)) (fun d _=>@Nat.rec (fun _=>((L (Option AO) 2)→R)→N8 (L (Option AO) 2)→R) (g85 (L (Option AO) 2)) (fun d _=>@Nat.rec (fun _=>((L (Option AO) 2)→R)→N8 (L (Option AO) 2)→R) (g86 (L (Option AO) 2)) (fun d _=>g87 (L (Option AO) 2)) d) d) d) d) d) d) d
noncomputable def sH2 (d:Nat):((L (Option AO) 2)→((L (Option AO) 2)→R)→R)→N8 (L (Option AO) 2)→(N8 (L (Option AO) 2)→R)→R:=@Nat.rec (fun _=>((L (Option AO) 2)→((L (Option AO) 2)→R)→R)→N8 (L (Option AO) 2)→(N8 (L (Option AO) 2)→R)→R) (s80 (L (Option AO) 2)) (fun d _=>@Nat.rec (fun _=>((L (Option AO) 2)→((L (Option AO) 2)→R)→R)→N8 (L (Option AO) 2)→(N8 (L (Option AO) 2)→R)→R) (s81 (L (Option AO) 2)) (fun d _=>@Nat.rec (fun _=>((L (Option AO) 2)→((L (Option AO) 2)→R)→R)→N8 (L (Option AO) 2)→(N8 (L (Option AO) 2)→R)→R) (s82 (L (Option AO) 2)) (fun d _=>@Nat.rec (fun _=>((L (Option AO) 2)→((L (Option AO) 2)→R)→R)→N8 (L (Option AO) 2)→(N8 (L (Option AO) 2)→R)→R) (s83 (L (Option AO) 2)) (fun d _=>@Nat.rec (fun _=>((L (Option AO) 2)→((L (Option AO) 2)→R)→R)→N8 (L (Option AO) 2)→(N8 (L (Option AO) 2)→R)→R) (s84 (L (Option AO) 2)) (fun d _=>@Nat.rec (fun _=>((L (Option AO) 2)→((L (Option AO) 2)→R)→R)→N8 (L (Option AO) 2)→(N8 (L (Option AO) 2)→R)→R) (s85 (L (Option AO) 2)) (fun d _=>@Nat.rec (fun _=>((L (Option AO) 2)→((L (Option AO) 2)→R)→R)→N8 (L (Option AO) 2)→(N8 (L (Option AO) 2)→R)→R) (s86 (L (Option AO) 2)) (fun d _=>s87 (L (Option AO) 2)) d) d) d) d) d) d) d
noncomputable def gH3 (d:Nat):((L (Option AO) 3)→R)→N8 (L (Option AO) 3)→R:=@Nat.rec (fun _=>((L (Option AO) 3)→R)→N8 (L (Option AO) 3)→R) (g80 (L (Option AO) 3)) (fun d _=>@Nat.rec (fun _=>((L (Option AO) 3)→R)→N8 (L (Option AO) 3)→R) (g81 (L (Option AO) 3)) (fun d _=>@Nat.rec (fun _=>((L (Option AO) 3)→R)→N8 (L (Option AO) 3)→R) (g82 (L (Option AO) 3)) (fun d _=>@Nat.rec (fun _=>((L (Option AO) 3)→R)→N8 (L (Option AO) 3)→R) (g83 (L (Option AO) 3)) (fun d _=>@Nat.rec (fun _=>((L (Option AO) 3)→R)→N8 (L (Option AO) 3)→R) (g84 (L (Option AO) 3)) (fun d _=>@Nat.rec (fun _=>((L (Option AO) 3)→R)→N8 (L (Option AO) 3)→R) (g85 (L (Option AO) 3)) (fun d _=>@Nat.rec (fun _=>((L (Option AO) 3)→R)→N8 (L (Option AO) 3)→R) (g86 (L (Option AO) 3)) (fun d _=>g87 (L (Option AO) 3)) d) d) d) d) d) d) d
noncomputable def sH3 (d:Nat):((L (Option AO) 3)→((L (Option AO) 3)→R)→R)→N8 (L (Option AO) 3)→(N8 (L (Option AO) 3)→R)→R:=@Nat.rec (fun _=>((L (Option AO) 3)→((L (Option AO) 3)→R)→R)→N8 (L (Option AO) 3)→(N8 (L (Option AO) 3)→R)→R) (s80 (L (Option AO) 3)) (fun d _=>@Nat.rec (fun _=>((L (Option AO) 3)→((L (Option AO) 3)→R)→R)→N8 (L (Option AO) 3)→(N8 (L (Option AO) 3)→R)→R) (s81 (L (Option AO) 3)) (fun d _=>@Nat.rec (fun _=>((L (Option AO) 3)→((L (Option AO) 3)→R)→R)→N8 (L (Option AO) 3)→(N8 (L (Option AO) 3)→R)→R) (s82 (L (Option AO) 3)) (fun d _=>@Nat.rec (fun _=>((L (Option AO) 3)→((L (Option AO) 3)→R)→R)→N8 (L (Option AO) 3)→(N8 (L (Option AO) 3)→R)→R) (s83 (L (Option AO) 3)) (fun d _=>@Nat.rec (fun _=>((L (Option AO) 3)→((L (Option AO) 3)→R)→R)→N8 (L (Option AO) 3)→(N8 (L (Option AO) 3)→R)→R) (s84 (L (Option AO) 3)) (fun d _=>@Nat.rec (fun _=>((L (Option AO) 3)→((L (Option AO) 3)→R)→R)→N8 (L (Option AO) 3)→(N8 (L (Option AO) 3)→R)→R) (s85 (L (Option AO) 3)) (fun d _=>@Nat.rec (fun _=>((L (Option AO) 3)→((L (Option AO) 3)→R)→R)→N8 (L (Option AO) 3)→(N8 (L (Option AO) 3)→R)→R) (s86 (L (Option AO) 3)) (fun d _=>s87 (L (Option AO) 3)) d) d) d) d) d) d) d
noncomputable def gH4 (d:Nat):((L (Option AO) 4)→R)→N8 (L (Option AO) 4)→R:=@Nat.rec (fun _=>((L (Option AO) 4)→R)→N8 (L (Option AO) 4)→R) (g80 (L (Option AO) 4)) (fun d _=>@Nat.rec (fun _=>((L (Option AO) 4)→R)→N8 (L (Option AO) 4)→R) (g81 (L (Option AO) 4)) (fun d _=>@Nat.rec (fun _=>((L (Option AO) 4)→R)→N8 (L (Option AO) 4)→R) (g82 (L (Option AO) 4)) (fun d _=>@Nat.rec (fun _=>((L (Option AO) 4)→R)→N8 (L (Option AO) 4)→R) (g83 (L (Option AO) 4)) (fun d _=>@Nat.rec (fun _=>((L (Option AO) 4)→R)→N8 (L (Option AO) 4)→R) (g84 (L (Option AO) 4)) (fun d _=>@Nat.rec (fun _=>((L (Option AO) 4)→R)→N8 (L (Option AO) 4)→R) (g85 (L (Option AO) 4)) (fun d _=>@Nat.rec (fun _=>((L (Option AO) 4)→R)→N8 (L (Option AO) 4)→R) (g86 (L (Option AO) 4)) (fun d _=>g87 (L (Option AO) 4)) d) d) d) d) d) d) d
noncomputable def sH4 (d:Nat):((L (Option AO) 4)→((L (Option AO) 4)→R)→R)→N8 (L (Option AO) 4)→(N8 (L (Option AO) 4)→R)→R:=@Nat.rec (fun _=>((L (Option AO) 4)→((L (Option AO) 4)→R)→R)→N8 (L (Option AO) 4)→(N8 (L (Option AO) 4)→R)→R) (s80 (L (Option AO) 4)) (fun d _=>@Nat.rec (fun _=>((L (Option AO) 4)→((L (Option AO) 4)→R)→R)→N8 (L (Option AO) 4)→(N8 (L (Option AO) 4)→R)→R) (s81 (L (Option AO) 4)) (fun d _=>@Nat.rec (fun _=>((L (Option AO) 4)→((L (Option AO) 4)→R)→R)→N8 (L (Option AO) 4)→(N8 (L (Option AO) 4)→R)→R) (s82 (L (Option AO) 4)) (fun d _=>@Nat.rec (fun _=>((L (Option AO) 4)→((L (Option AO) 4)→R)→R)→N8 (L (Option AO) 4)→(N8 (L (Option AO) 4)→R)→R) (s83 (L (Option AO) 4)) (fun d _=>@Nat.rec (fun _=>((L (Option AO) 4)→((L (Option AO) 4)→R)→R)→N8 (L (Option AO) 4)→(N8 (L (Option AO) 4)→R)→R) (s84 (L (Option AO) 4)) (fun d _=>@Nat.rec (fun _=>((L (Option AO) 4)→((L (Option AO) 4)→R)→R)→N8 (L (Option AO) 4)→(N8 (L (Option AO) 4)→R)→R) (s85 (L (Option AO) 4)) (fun d _=>@Nat.rec (fun _=>((L (Option AO) 4)→((L (Option AO) 4)→R)→R)→N8 (L (Option AO) 4)→(N8 (L (Option AO) 4)→R)→R) (s86 (L (Option AO) 4)) (fun d _=>s87 (L (Option AO) 4)) d) d) d) d) d) d) d
noncomputable def gH5 (d:Nat):((L (Option AO) 5)→R)→N8 (L (Option AO) 5)→R:=@Nat.rec (fun _=>((L (Option AO) 5)→R)→N8 (L (Option AO) 5)→R) (g80 (L (Option AO) 5)) (fun d _=>@Nat.rec (fun _=>((L (Option AO) 5)→R)→N8 (L (Option AO) 5)→R) (g81 (L (Option AO) 5)) (fun d _=>@Nat.rec (fun _=>((L (Option AO) 5)→R)→N8 (L (Option AO) 5)→R) (g82 (L (Option AO) 5)) (fun d _=>@Nat.rec (fun _=>((L (Option AO) 5)→R)→N8 (L (Option AO) 5)→R) (g83 (L (Option AO) 5)) (fun d _=>@Nat.rec (fun _=>((L (Option AO) 5)→R)→N8 (L (Option AO) 5)→R) (g84 (L (Option AO) 5)) (fun d _=>@Nat.rec (fun _=>((L (Option AO) 5)→R)→N8 (L (Option AO) 5)→R) (g85 (L (Option AO) 5)) (fun d _=>@Nat.rec (fun _=>((L (Option AO) 5)→R)→N8 (L (Option AO) 5)→R) (g86 (L (Option AO) 5)) (fun d _=>g87 (L (Option AO) 5)) d) d) d) d) d) d) d
noncomputable def sH5 (d:Nat):((L (Option AO) 5)→((L (Option AO) 5)→R)→R)→N8 (L (Option AO) 5)→(N8 (L (Option AO) 5)→R)→R:=@Nat.rec (fun _=>((L (Option AO) 5)→((L (Option AO) 5)→R)→R)→N8 (L (Option AO) 5)→(N8 (L (Option AO) 5)→R)→R) (s80 (L (Option AO) 5)) (fun d _=>@Nat.rec (fun _=>((L (Option AO) 5)→((L (Option AO) 5)→R)→R)→N8 (L (Option AO) 5)→(N8 (L (Option AO) 5)→R)→R) (s81 (L (Option AO) 5)) (fun d _=>@Nat.rec (fun _=>((L (Option AO) 5)→((L (Option AO) 5)→R)→R)→N8 (L (Option AO) 5)→(N8 (L (Option AO) 5)→R)→R) (s82 (L (Option AO) 5)) (fun d _=>@Nat.rec (fun _=>((L (Option AO) 5)→((L (Option AO) 5)→R)→R)→N8 (L (Option AO) 5)→(N8 (L (Option AO) 5)→R)→R) (s83 (L (Option AO) 5)) (fun d _=>@Nat.rec (fun _=>((L (Option AO) 5)→((L (Option AO) 5)→R)→R)→N8 (L (Option AO) 5)→(N8 (L (Option AO) 5)→R)→R) (s84 (L (Option AO) 5)) (fun d _=>@Nat.rec (fun _=>((L (Option AO) 5)→((L (Option AO) 5)→R)→R)→N8 (L (Option AO) 5)→(N8 (L (Option AO) 5)→R)→R) (s85 (L (Option AO) 5)) (fun d _=>@Nat.rec (fun _=>((L (Option AO) 5)→((L (Option AO) 5)→R)→R)→N8 (L (Option AO) 5)→(N8 (L (Option AO) 5)→R)→R) (s86 (L (Option AO) 5)) (fun d _=>s87 (L (Option AO) 5)) d) d) d) d) d) d) d
noncomputable def gH6 (d:Nat):((L (Option AO) 6)→R)→N8 (L (Option AO) 6)→R:=@Nat.rec (fun _=>((L (Option AO) 6)→R)→N8 (L (Option AO) 6)→R) (g80 (L (Option AO) 6)) (fun d _=>@Nat.rec (fun _=>((L (Option AO) 6)→R)→N8 (L (Option AO) 6)→R) (g81 (L (Option AO) 6)) (fun d _=>@Nat.rec (fun _=>((L (Option AO) 6)→R)→N8 (L (Option AO) 6)→R) (g82 (L (Option AO) 6)) (fun d _=>@Nat.rec (fun _=>((L (Option AO) 6)→R)→N8 (L (Option AO) 6)→R) (g83 (L (Option AO) 6)) (fun d _=>@Nat.rec (fun _=>((L (Option AO) 6)→R)→N8 (L (Option AO) 6)→R) (g84 (L (Option AO) 6)) (fun d _=>@Nat.rec (fun _=>((L (Option AO) 6)→R)→N8 (L (Option AO) 6)→R) (g85 (L (Option AO) 6)) (fun d _=>@Nat.rec (fun _=>((L (Option AO) 6)→R)→N8 (L (Option AO) 6)→R) (g86 (L (Option AO) 6)) (fun d _=>g87 (L (Option AO) 6)) d) d) d) d) d) d) d
noncomputable def sH6 (d:Nat):((L (Option AO) 6)→((L (Option AO) 6)→R)→R)→N8 (L (Option AO) 6)→(N8 (L (Option AO) 6)→R)→R:=@Nat.rec (fun _=>((L (Option AO) 6)→((L (Option AO) 6)→R)→R)→N8 (L (Option AO) 6)→(N8 (L (Option AO) 6)→R)→R) (s80 (L (Option AO) 6)) (fun d _=>@Nat.rec (fun _=>((L (Option AO) 6)→((L (Option AO) 6)→R)→R)→N8 (L (Option AO) 6)→(N8 (L (Option AO) 6)→R)→R) (s81 (L (Option AO) 6)) (fun d _=>@Nat.rec (fun _=>((L (Option AO) 6)→((L (Option AO) 6)→R)→R)→N8 (L (Option AO) 6)→(N8 (L (Option AO) 6)→R)→R) (s82 (L (Option AO) 6)) (fun d _=>@Nat.rec (fun _=>((L (Option AO) 6)→((L (Option AO) 6)→R)→R)→N8 (L (Option AO) 6)→(N8 (L (Option AO) 6)→R)→R) (s83 (L (Option AO) 6)) (fun d _=>@Nat.rec (fun _=>((L (Option AO) 6)→((L (Option AO) 6)→R)→R)→N8 (L (Option AO) 6)→(N8 (L (Option AO) 6)→R)→R) (s84 (L (Option AO) 6)) (fun d _=>@Nat.rec (fun _=>((L (Option AO) 6)→((L (Option AO) 6)→R)→R)→N8 (L (Option AO) 6)→(N8 (L (Option AO) 6)→R)→R) (s85 (L (Option AO) 6)) (fun d _=>@Nat.rec (fun _=>((L (Option AO) 6)→((L (Option AO) 6)→R)→R)→N8 (L (Option AO) 6)→(N8 (L (Option AO) 6)→R)→R) (s86 (L (Option AO) 6)) (fun d _=>s87 (L (Option AO) 6)) d) d) d) d) d) d) d
noncomputable def get (o:Nat) (h:H) (κ:AO→R):R:=gH6 (Nat.div o 262144) (gH5 (Nat.div (Nat.mod o 262144) 32768) (gH4 (Nat.div (Nat.mod (Nat.mod o 262144) 32768) 4096) (gH3 (Nat.div (Nat.mod (Nat.mod (Nat.mod o 262144) 32768) 4096) 512) (gH2 (Nat.div (Nat.mod (Nat.mod (Nat.mod (Nat.mod o 262144) 32768) 4096) 512) 64) (gH1 (Nat.div (Nat.mod (Nat.mod (Nat.mod (Nat.mod (Nat.mod o 262144) 32768) 4096) 512) 64) 8) (gH0 (Nat.div (Nat.mod (Nat.mod (Nat.mod (Nat.mod (Nat.mod (Nat.mod o 262144) 32768) 4096) 512) 64) 8) 1) (opt AO κ))))))) h
noncomputable def put (o:Nat) (a:AO) (h:H) (κ:H→R):R:=sH6 (Nat.div o 262144) (sH5 (Nat.div (Nat.mod o 262144) 32768) (sH4 (Nat.div (Nat.mod (Nat.mod o 262144) 32768) 4096) (sH3 (Nat.div (Nat.mod (Nat.mod (Nat.mod o 262144) 32768) 4096) 512) (sH2 (Nat.div (Nat.mod (Nat.mod (Nat.mod (Nat.mod o 262144) 32768) 4096) 512) 64) (sH1 (Nat.div (Nat.mod (Nat.mod (Nat.mod (Nat.mod (Nat.mod o 262144) 32768) 4096) 512) 64) 8) (sH0 (Nat.div (Nat.mod (Nat.mod (Nat.mod (Nat.mod (Nat.mod (Nat.mod o 262144) 32768) 4096) 512) 64) 8) 1) (sB (Option AO) (some a)))))))) h κ
theorem get_def (o:Nat) (h:H) (κ:AO→R):get o h κ=getK (Option AO) (opt AO κ) 7 o h:=rfl
theorem put_def (o:Nat) (a:AO) (h:H) (κ:H→R):put o a h κ=setK (Option AO) (some a) 7 o h κ:=rfl
noncomputable def newK (a:AO) (h:H) (nx:Nat) (κ:Nat→H→Nat→R):R:=
 br (Nat.blt nx 2097152) (put nx a h fun h=>fnat (Nat.succ nx) fun nx'=>κ nx h nx') false
noncomputable def asMp (κ:List ME→Nat→R) (a:AO):R:=match a with | .mp es c=>κ es c | _=>false
noncomputable def cellK (z:List AV) (zl d:Nat) (t:L (Option AV) d) (κ:AV→R) (i:Nat):R:=
 getK (Option AV) (fun x=>@Option.rec AV (fun _=>R) (nthK AV κ z (Nat.mod i zl)) κ x) d i t
noncomputable def cellsT (z:List AV) (zl d:Nat) (t:L (Option AV) d) (n:Nat):Nat→(List AV→R)→R:=
 @Nat.rec (fun _=>Nat→(List AV→R)→R) (fun _ κ=>κ []) (fun _ ih i κ=>cellK z zl d t (fun v=>fnat (Nat.succ i) fun j=>ih j fun vs=>κ (v :: vs)) i) n
noncomputable def setsT (d:Nat) (vs:List AV):Nat→L (Option AV) d→(L (Option AV) d→R)→R:=
 @List.rec AV (fun _=>Nat→L (Option AV) d→(L (Option AV) d→R)→R) (fun _ t κ=>κ t) (fun v _ ih i t κ=>setK (Option AV) (some v) d i t fun t=>fnat (Nat.succ i) fun j=>ih j t κ) vs
noncomputable def dropL (α:Type) (n:Nat):List α→List α:=@Nat.rec (fun _=>List α→List α) (fun l=>l) (fun _ ih l=>@List.rec α (fun _=>List α) [] (fun _ r _=>ih r) l) n
noncomputable def takeK (α:Type) (n:Nat):List α→(List α→R)→R:=
 @Nat.rec (fun _=>List α→(List α→R)→R) (fun _ κ=>κ []) (fun _ ih l κ=>@List.rec α (fun _=>R) false (fun x r _=>ih r fun l=>κ (x :: l)) l) n
noncomputable def ovrK (vs:List AV):List AV→(List AV→R)→R:=
 @List.rec AV (fun _=>List AV→(List AV→R)→R) (fun l κ=>κ l) (fun v _ ih l κ=>@List.rec AV (fun _=>R) false (fun _ r _=>ih r fun l=>κ (v :: l)) l) vs
noncomputable def putLK (vs:List AV) (off:Nat):List AV→(List AV→R)→R:=
 @Nat.rec (fun _=>List AV→(List AV→R)→R) (ovrK vs) (fun _ ih l κ=>@List.rec AV (fun _=>R) false (fun v r _=>ih r fun l=>κ (v :: l)) l) off
noncomputable def killK (sh:List Nat):H→(H→R)→R:=
 @List.rec Nat (fun _=>H→(H→R)→R) (fun h κ=>κ h) (fun o _ ih h κ=>put o .dead h fun h=>ih h κ) sh
noncomputable def rdK (o off n:Nat) (h:H) (κ:List AV→R):R:=
 get o h fun a=>match a with
  | .sm l=>takeK AV n (dropL AV off l) κ
  | .st _ l=>takeK AV n (dropL AV off l) κ
  | .ce N _ z zl d t _ _=>br (Nat.ble (Nat.add off n) N) (cellsT z zl d t n off κ) false
  | _=>false
noncomputable def rd1 (o off:Nat) (h:H) (κ:AV→R):R:=
 get o h fun a=>match a with
  | .sm l=>nthK AV κ l off
  | .st _ l=>nthK AV κ l off
  | .ce N _ z zl d t _ _=>br (Nat.blt off N) (cellK z zl d t κ off) false
  | _=>false
noncomputable def wrK (o off:Nat) (vs:List AV) (h:H) (κ:H→R):R:=
 get o h fun a=>match a with
  | .sm l=>putLK vs off l fun l=>put o (.sm l) h κ
  | .st t l=>putLK vs off l fun l=>put o (.st t l) h κ
  | .ce N es z zl d t top sh=>br top (br (Nat.ble (Nat.add off (lenN AV vs)) N)
    (setsT d vs off t fun t=>put o (.ce N es z zl d t true []) h fun h=>killK sh h κ) false) false
  | _=>false
noncomputable def kB (κ:K) (h:H) (nx:Nat) (c:Bool):R:=fbool c fun c=>κ (.b c) h nx
noncomputable def undef:AV:=.tu []
noncomputable def oMv (x:XF):OpF:=fun en h nx κ=>x en fun v=>κ v h nx
noncomputable def oSid (x:XF):OpF:=fun en h nx κ=>x en (asS fun l=>κ (.s l) h nx)
noncomputable def oPick (c x y:XF):OpF:=fun en h nx κ=>c en (asB fun c=>br c (x en fun v=>κ v h nx) (y en fun v=>κ v h nx))
noncomputable def oNc (x:XF):OpF:=fun en h nx κ=>x en fun v=>match v with | .np | .ni | .nf | .x _ | .xi _ _ _ _ | .l _ _=>false | v=>κ v h nx
noncomputable def oAr (f:ArF) (k:Nat) (x y:XF):OpF:=fun en h nx κ=>x en (asK k fun a=>y en (asK k fun b=>f k a b fun r=>κ (.i k r) h nx))
noncomputable def laV (f:ArF) (g:LaF) (k:Nat) (a b:AV) (κ:AV→R):R:=br (isLL a b) (lnK k a fun A=>lnK k b fun B=>g k A B fun N=>κ (.l k N)) (asK k (fun a=>asK k (fun b=>f k a b fun r=>κ (.i k r)) b) a)
noncomputable def oLa (f:ArF) (g:LaF) (k:Nat) (x y:XF):OpF:=fun en h nx κ=>x en fun a=>y en fun b=>laV f g k a b fun v=>κ v h nx
noncomputable def adV (k:Nat) (a b:AV) (κ:AV→R):R:=match b with
 | .xi n k' r _=>br (Nat.beq k' 13) (br (Nat.beq k 3) (asK 3 (fun c=>@Int.rec (fun _=>R) (fun c=>fnat (Nat.add r c) fun c=>br (Nat.blt c 4294967296) (κ (.xi n 13 c 1)) false) (fun _=>false) c) a) false)
  (br (Nat.beq k' 21) (br (Nat.beq k 4) (asK 4 (fun c=>@Int.rec (fun _=>R) (fun c=>br (Nat.beq c 48) (κ (.xi n 22 r 0)) false) (fun _=>false) c) a) false) false)
 | .f n m=>br (Nat.beq k 3) (asK 3 (fun c=>@Int.rec (fun _=>R) (fun c=>fnat (Nat.add n (Nat.mul 65536 c)) fun q=>br (Nat.blt q 1125899906842624) (br (Nat.blt m 4294967296) (κ (.f q m)) false) false) (fun _=>false) c) a) false
 | b=>laV arAdd laAdd k a b κ
noncomputable def oAd (k:Nat) (x y:XF):OpF:=fun en h nx κ=>x en fun a=>y en fun b=>adV k a b fun v=>κ v h nx
noncomputable def oQuo (k:Nat) (x y:XF):OpF:=fun en h nx κ=>x en fun a=>match a with
 | .l k' A=>br (Nat.beq k' k) (br (Nat.blt k 8) (y en (asK k fun b=>@Int.rec (fun _=>R) (fun c=>br (Nat.beq (Nat.pow 2 (Nat.log2 c)) c) (br (Nat.ble (Nat.log2 c) 64) (fnat (Nat.land (Nat.shiftRight A (Nat.log2 c)) LM) fun N=>κ (.l k N) h nx) false) false) (fun _=>false) b)) false) false
 | a=>asK k (fun a=>y en (asK k fun b=>arQuo k a b fun r=>κ (.i k r) h nx)) a
noncomputable def xiAnd (k:Nat) (a b:AV) (κ:AV→R):R:=match a with
 | .xi n k' r _=>br (Nat.beq k' 20) (br (Nat.beq k 4) (asK 4 (fun c=>@Int.rec (fun _=>R) (fun c=>br (Nat.beq c 1) (κ (.xi n 21 r 0)) false) (fun _=>false) c) b) false) false
 | _=>false
noncomputable def oAnd (k:Nat) (x y:XF):OpF:=fun en h nx κ=>x en fun a=>y en fun b=>br (isXi a) (xiAnd k a b fun v=>κ v h nx) (laV arAnd laAnd k a b fun v=>κ v h nx)
noncomputable def oRem (k:Nat) (x y:XF):OpF:=fun en h nx κ=>x en fun a=>match a with
 | .xi n k' r m=>br (Nat.blt k' 8) (br (Nat.beq k' k) (y en (asK k fun b=>@Int.rec (fun _=>R) (fun b=>br (Nat.beq m 1) (br (Nat.beq k 3) (br (Nat.blt 0 b) (br (Nat.blt b 9223372036854775808) (br (Nat.blt n 65536) (κ (.f n b) h nx) false) false) false) false)
   (br (Nat.beq b m) (br (Nat.blt 0 m) (κ (.i k (.ofNat r)) h nx) false) false)) (fun _=>false) b)) false) false
 | .l k' N=>oLa arRem laRem k (fun _ κ=>κ (.l k' N)) y en h nx fun v h nx=>colV v fun v=>κ v h nx
 | a=>asK k (fun a=>y en (asK k fun b=>arRem k a b fun r=>κ (.i k r) h nx)) a
noncomputable def oShl (k:Nat) (x y:XF):OpF:=fun en h nx κ=>x en fun a=>match a with
 | .l k' A=>br (Nat.beq k' k) (br (Nat.blt k 8) (y en (asN fun n=>br (Nat.blt n (kbit k)) (fnat (Nat.mul A (Nat.pow 2 n)) fun N=>laCut k N fun N=>κ (.l k N) h nx) false)) false) false
 | a=>asK k (fun a=>y en (asN fun n=>shl k a n fun r=>κ (.i k r) h nx)) a
noncomputable def oShr (k:Nat) (x y:XF):OpF:=fun en h nx κ=>x en fun a=>match a with
 | .l k' A=>br (Nat.beq k' k) (br (Nat.blt k 8) (y en (asN fun n=>br (Nat.blt n (kbit k)) (fnat (Nat.land (Nat.shiftRight A n) LM) fun N=>κ (.l k N) h nx) false)) false) false
 | .xi n k' _ _=>br (Nat.beq k' 4) (br (Nat.beq k 4) (y en (asN fun c=>br (Nat.blt c 8) (κ (.xi n 20 c 0) h nx) false)) false) false
 | a=>asK k (fun a=>y en (asN fun n=>shr k a n fun r=>κ (.i k r) h nx)) a
noncomputable def zLt (m:Nat) (b:Int) (κ:Bool→R):R:=@Int.rec (fun _=>R) (fun b=>br (Nat.beq m 0) (κ true) (br (Nat.ble b m) (κ false) false)) (fun _=>false) b
noncomputable def ltW (k:Nat) (a b:AV) (κ:AV→R):R:=match a with
 | .z _ m=>br (Nat.beq k 3) (asK 3 (fun b=>zLt m b fun c=>κ (.b c)) b) false
 | a=>br (isLL a b) (lnK k a fun A=>lnK k b fun B=>ltmK A B fun Y=>lbK Y κ) (asK k (fun a=>asK k (fun b=>cmLt a b fun c=>fbool c fun c=>κ (.b c)) b) a)
noncomputable def xoLt (n k' r k:Nat) (a:AV) (κ:AV→R):R:=br (Nat.beq k' 13) (br (Nat.beq k 3) (match a with
 | .i k2 c=>br (Nat.beq k2 3) (@Int.rec (fun _=>R) (fun c=>br (Nat.ble (Nat.add r 255) c) (κ (.b false)) (κ (.xi n 15 r c))) (fun _=>false) c) false
 | .l k2 N=>br (Nat.beq k2 3) (κ (.xi n 16 r N)) false
 | _=>false) false) false
noncomputable def ltV (k:Nat) (a b:AV) (κ:AV→R):R:=br (isXi b) (match b with | .xi n k' r _=>xoLt n k' r k a κ | _=>false) (ltW k a b κ)
noncomputable def oLt (k:Nat) (x y:XF):OpF:=fun en h nx κ=>x en fun a=>y en fun b=>ltV k a b fun v=>κ v h nx
noncomputable def oLe (k:Nat) (x y:XF):OpF:=fun en h nx κ=>x en fun a=>y en fun b=>br (isLL a b) (lnK k a fun A=>lnK k b fun B=>ltmK B A fun Y=>fnat (Nat.xor LO Y) fun Y=>lbK Y fun v=>κ v h nx) (asK k (fun a=>asK k (fun b=>cmLe a b (kB κ h nx)) b) a)
noncomputable def oGt (k:Nat) (x y:XF):OpF:=fun en h nx κ=>x en fun a=>match a with
 | .xi _ k' _ m=>br (Nat.beq k' 9) (br (Nat.beq k 3) (y en (asK 3 fun b=>cmEq b (.ofNat 100) fun c=>br c (br (Nat.blt 0 m) (κ (.b true) h nx) (κ (.b false) h nx)) false)) false) false
 | a=>y en fun b=>br (isLL a b) (lnK k a fun A=>lnK k b fun B=>ltmK B A fun Y=>lbK Y fun v=>κ v h nx) (asK k (fun a=>asK k (fun b=>cmLt b a (kB κ h nx)) b) a)
noncomputable def geV (k:Nat) (a b:AV) (κ:AV→R):R:=match a with
 | .z _ m=>br (Nat.beq k 3) (asK 3 (fun b=>zLt m b fun c=>κ (.b (not' c))) b) false
 | a=>br (isLL a b) (lnK k a fun A=>lnK k b fun B=>ltmK A B fun Y=>fnat (Nat.xor LO Y) fun Y=>lbK Y κ) (asK k (fun a=>asK k (fun b=>cmLe b a fun c=>fbool c fun c=>κ (.b c)) b) a)
noncomputable def oGe (k:Nat) (x y:XF):OpF:=fun en h nx κ=>x en fun a=>y en fun b=>geV k a b fun v=>κ v h nx
noncomputable def eqV (neg:Bool) (k:Nat) (a b:AV) (κ:AV→R):R:=
 br (isLL a b) (laEq k a b fun c=>κ (.b (eqB neg (not' c)))) (asK k (fun a=>asK k (fun b=>cmEq a b fun c=>fbool (eqB neg (not' c)) fun c=>κ (.b c)) b) a)
noncomputable def oEq (neg:Bool) (k:Nat) (x y:XF):OpF:=fun en h nx κ=>x en fun a=>y en fun b=>eqV neg k a b fun v=>κ v h nx
noncomputable def oSS (f:List Nat→List Nat→Bool) (x y:XF):OpF:=fun en h nx κ=>x en (asS fun a=>y en (asS fun b=>kB κ h nx (f a b)))
noncomputable def oSQ (neg:Bool) (x y:XF):OpF:=fun en h nx κ=>x en fun a=>y en fun b=>asSQ a b fun c=>κ (.b (eqB neg (not' c))) h nx
noncomputable def sLt (a b:List Nat):Bool:=ltL a b
noncomputable def sLe (a b:List Nat):Bool:=or' (ltL a b) (eqL a b)
noncomputable def sGt (a b:List Nat):Bool:=not' (or' (ltL a b) (eqL a b))
noncomputable def sGe (a b:List Nat):Bool:=not' (ltL a b)
noncomputable def txK (v:AV) (κ:List AV→R):R:=match v with
 | .s l=>ofBytes l κ
 | .t l=>κ l
 | _=>false
noncomputable def oCat (x y:XF):OpF:=fun en h nx κ=>x en fun a=>y en fun b=>br (or' (isTx a) (isTx b))
 (txK a fun l=>txK b fun m=>br (Nat.blt (Nat.add (lenN AV l) (lenN AV m)) 9223372036854775808) (appK AV l m fun r=>κ (.t r) h nx) false)
 (asS (fun a=>asS (fun b=>br (Nat.blt (Nat.add (lenN Nat a) (lenN Nat b)) 9223372036854775808) (appK Nat a b fun l=>κ (.s l) h nx) false) b) a)
noncomputable def oBB (neg:Bool) (x y:XF):OpF:=fun en h nx κ=>x en (asB fun a=>y en (asB fun b=>kB κ h nx (eqB neg (not' (eqB a b)))))
noncomputable def oEqs (neg:Bool) (q:QF) (x y:XF):OpF:=fun en h nx κ=>x en fun a=>y en fun b=>q a b fun c=>kB κ h nx (eqB neg (not' c))
noncomputable def sole (o:Nat) (h:H) (κ:R):R:=get o h fun a=>match a with
 | .sm l=>(match l with | []=>false | _=>κ)
 | .ce n es _ zl _ _ top sh=>br (Nat.beq es 0) (br top (br (Nat.blt 0 zl) (match sh with | []=>κ | _=>false) false) false) false
 | _=>false
noncomputable def oEqn (neg:Bool) (tc:Nat) (x y:XF):OpF:=fun en h nx κ=>x en fun a=>y en fun b=>
 let f (c:Bool):R:=kB κ h nx (eqB neg (not' c))
 match tc,a with
 | 0,.np=>(match b with | .np=>f true | .p _ _=>f false | _=>false)
 | 0,.p o i=>(match b with | .np=>f false | .p o' i'=>br (Nat.beq o o') (f (Nat.beq i i')) (sole o h (sole o' h (f false))) | _=>false)
 | 1,.ns=>(match b with | .ns=>f true | .sl _ _ _ _=>f false | _=>false)
 | 1,.sl _ _ _ _=>(match b with | .ns=>f false | _=>false)
 | 2,.nm=>(match b with | .nm=>f true | .m _=>f false | _=>false)
 | 2,.m _=>(match b with | .nm=>f false | _=>false)
 | 3,.nf=>(match b with | .nf=>f true | .fn _ _=>f false | _=>false)
 | 3,.fn _ _=>(match b with | .nf=>f false | _=>false)
 | 4,.ni=>(match b with | .ni=>f true | .ifc _ _=>f false | _=>false)
 | 4,.ifc _ _=>(match b with | .ni=>f false | _=>false)
 | _,_=>false
noncomputable def oNt (x:XF):OpF:=fun en h nx κ=>x en fun v=>match v with
 | .xi n k r _=>br (Nat.beq k 23) (κ (.xi n 24 r 0) h nx) false
 | v=>asB (fun c=>kB κ h nx (not' c)) v
noncomputable def oNg (x:XF):OpF:=fun en h nx κ=>x en (asI fun k n=>wrap k (Int.sub 0 n) fun r=>κ (.i k r) h nx)
def ones (k:Nat):Int:=match k with | 0 | 1 | 2 | 3=>.negSucc 0 | k=>.ofNat (Nat.sub (khi k) 1)
noncomputable def oCm (x:XF):OpF:=fun en h nx κ=>x en fun v=>match v with
 | .l k A=>br (Nat.ble 4 k) (br (Nat.blt k 8) (fnat (Nat.xor (lMask k) A) fun N=>κ (.l k N) h nx) false) false
 | v=>asI (fun k n=>arXor k (ones k) n fun r=>κ (.i k r) h nx) v
noncomputable def oCvi (k:Nat) (x:XF):OpF:=fun en h nx κ=>x en fun v=>match v with
 | .xi n k' r m=>br (Nat.beq k' 14) (br (Nat.beq k 3) (κ (.xi n 13 0 1) h nx) false) (br (Nat.blt k' 8) (br (Nat.beq k 3) (κ (.xi n 3 r m) h nx) false) false)
 | .l k' A=>br (Nat.blt k' 8) (br (Nat.blt k 8) (laCut k A fun N=>κ (.l k N) h nx) false) false
 | v=>asI (fun _ n=>wrap k n fun r=>κ (.i k r) h nx) v
noncomputable def bytesK (vs:List AV):(List Nat→R)→R:=
 @List.rec AV (fun _=>(List Nat→R)→R) (fun κ=>κ []) (fun v _ ih κ=>asK 4 (fun n=>@Int.rec (fun _=>R) (fun m=>br (Nat.blt m 256) (ih fun l=>κ (m :: l)) false) (fun _=>false) n) v) vs
noncomputable def isBy (v:AV):Bool:=match v with
 | .l k _=>Nat.beq k 4
 | .xi _ k _ _=>Nat.beq k 22
 | .i k n=>@Bool.rec (fun _=>Bool) false (@Int.rec (fun _=>Bool) (fun n=>Nat.blt n 256) (fun _=>false) n) (Nat.beq k 4)
 | _=>false
noncomputable def allBy (vs:List AV):Bool:=@List.rec AV (fun _=>Bool) true (fun v _ ih=>@Bool.rec (fun _=>Bool) false ih (isBy v)) vs
noncomputable def anyU (vs:List AV):Bool:=@List.rec AV (fun _=>Bool) false (fun v _ ih=>or' (isL v) (or' (isXi v) ih)) vs
noncomputable def mkTx (vs:List AV) (κ:AV→R):R:=br (anyU vs) (br (allBy vs) (κ (.t vs)) false) (bytesK vs fun l=>κ (.s l))
noncomputable def oB2s (x:XF):OpF:=fun en h nx κ=>x en fun v=>match v with
 | .ns=>κ (.s []) h nx
 | .sl o off len _=>rdK o off len h fun vs=>br (anyU vs) (br (allBy vs) (κ (.t vs) h nx) false) (bytesK vs fun l=>κ (.s l) h nx)
 | _=>false
noncomputable def deep (n:Nat):Nat:=
 @Bool.rec (fun _=>Nat) (@Bool.rec (fun _=>Nat) (@Bool.rec (fun _=>Nat) (@Bool.rec (fun _=>Nat) (@Bool.rec (fun _=>Nat) (@Bool.rec (fun _=>Nat) n 7 (Nat.ble n 2097152)) 5 (Nat.ble n 32768)) 4 (Nat.ble n 4096)) 3 (Nat.ble n 512)) 2 (Nat.ble n 64)) 1 (Nat.ble n 8)
noncomputable def E (d:Nat):L (Option AV) d:=repL (Option AV) none d
noncomputable def newL (l:List AV) (n:Nat) (h:H) (nx:Nat) (κ:Nat→H→Nat→R):R:=
 br (Nat.ble n 16) (newK (.sm l) h nx κ) (newK (.ce n 0 l n (deep n) (E (deep n)) true []) h nx κ)
noncomputable def oS2b (x:XF):OpF:=fun en h nx κ=>x en (asS fun l=>ofBytes l fun vs=>fnat (lenN Nat l) fun n=>newK (.ce n 1 vs n (deep n) (E (deep n)) true []) h nx fun o h nx=>κ (.sl o 0 n none) h nx)
noncomputable def asSl (κ:Nat→Nat→Nat→Option Nat→R) (v:AV):R:=match v with | .sl o off len cap=>κ o off len cap | _=>false
noncomputable def oS2a (x:XF) (n:Nat):OpF:=fun en h nx κ=>x en (asSl fun o off len _=>br (Nat.ble n len) (κ (.p o off) h nx) false)
noncomputable def oUptr (x:XF):OpF:=fun en h nx κ=>x en fun v=>match v with
 | .np=>κ .np h nx
 | .p o off=>rd1 o off h fun _=>κ (.p o off) h nx
 | _=>false
noncomputable def oMki (t:Nat) (x:XF):OpF:=fun en h nx κ=>x en fun v=>κ (.ifc t v) h nx
noncomputable def oMkf (f:Nat) (xs:XsF):OpF:=fun en h nx κ=>xs en fun vs=>κ (.fn f vs) h nx
noncomputable def oExt (x:XF) (n:Nat):OpF:=fun en h nx κ=>x en (asTu fun l=>nthK AV (fun v=>κ v h nx) l n)
noncomputable def oFa (x:XF) (off:Nat):OpF:=fun en h nx κ=>x en (asP fun o i=>fnat (Nat.add i off) fun j=>κ (.p o j) h nx)
noncomputable def oFld (x:XF) (off n:Nat):OpF:=fun en h nx κ=>x en (asAg fun l=>takeK AV n (dropL AV off l) fun vs=>κ (.ag vs) h nx)
noncomputable def oFl1 (x:XF) (off:Nat):OpF:=fun en h nx κ=>x en (asAg fun l=>nthK AV (fun v=>κ v h nx) l off)
noncomputable def oIas (x y:XF) (size:Nat):OpF:=fun en h nx κ=>x en (asSl fun o off len _=>y en (asN fun i=>br (Nat.blt i len) (fnat (Nat.add off (Nat.mul i size)) fun j=>κ (.p o j) h nx) false))
noncomputable def qK (o off len size k N:Nat) (κ:AV→R):R:=br (Nat.beq len 16) (br (Nat.beq size 1) (br (Nat.blt k 8) (br (Nat.beq (ltm N (Nat.mul LO 16)) LO) (κ (.q o off N)) false) false) false) false
noncomputable def oIaa (x y:XF) (len size:Nat):OpF:=fun en h nx κ=>x en (asP fun o off=>y en fun i=>match i with
 | .l k N=>qK o off len size k N fun v=>κ v h nx
 | i=>asN (fun i=>br (Nat.blt i len) (fnat (Nat.add off (Nat.mul i size)) fun j=>κ (.p o j) h nx) false) i)
noncomputable def ixsV (l:List Nat) (i:AV) (κ:AV→R):R:=asN (fun i=>nthK Nat (fun c=>κ (.i 4 (.ofNat c))) l i) i
noncomputable def oLens (x:XF):OpF:=fun en h nx κ=>x en fun v=>match v with
 | .xi n k r m=>br (Nat.beq k 8) (κ (.xi n 9 r m) h nx) false
 | .t l=>fnat (lenN AV l) fun n=>κ (.i 3 (.ofNat n)) h nx
 | v=>asS (fun l=>fnat (lenN Nat l) fun n=>κ (.i 3 (.ofNat n)) h nx) v
noncomputable def oLenl (x:XF):OpF:=fun en h nx κ=>x en fun v=>match v with
 | .sl _ _ len _=>κ (.i 3 (.ofNat len)) h nx
 | .ns=>κ (.i 3 (.ofNat 0)) h nx
 | .xi _ k _ _=>br (Nat.beq k 12) (κ (.i 3 (.ofNat 0)) h nx) false
 | _=>false
noncomputable def oLenm (x:XF):OpF:=fun en h nx κ=>x en fun v=>match v with
 | .nm=>κ (.i 3 (.ofNat 0)) h nx
 | .m o=>get o h (asMp fun es _=>fnat (lenN ME es) fun n=>κ (.i 3 (.ofNat n)) h nx)
 | _=>false
noncomputable def mmL (mx:Bool) (a v:AV) (κ:AV→R):R:=
 let go (k:Nat):R:=br mx (lnK k a fun A=>lnK k v fun B=>fnat (ltm A B) fun Y=>br (Nat.beq Y 0) (κ a) (br (Nat.beq Y LO) (κ v) false)) false
 match a with
 | .l k _=>go k
 | _=>(match v with | .l k _=>go k | _=>false)
noncomputable def mmK (mx:Bool) (vs:List AV):AV→(AV→R)→R:=
 @List.rec AV (fun _=>AV→(AV→R)→R) (fun a κ=>κ a) (fun v _ ih a κ=>br (isLL a v) (mmL mx a v fun w=>ih w κ) (asI (fun k x=>asI (fun _ y=>@Bool.rec (fun _=>R)
  (cmLt y x fun c=>br c (ih (.i k y) κ) (ih (.i k x) κ)) (cmLt x y fun c=>br c (ih (.i k y) κ) (ih (.i k x) κ)) mx) v) a)) vs
noncomputable def oMm (mx:Bool) (xs:XsF):OpF:=fun en h nx κ=>xs en fun vs=>match vs with | []=>false | v :: vs=>mmK mx vs v fun v=>κ v h nx
noncomputable def oLd (x:XF) (n:Nat):OpF:=fun en h nx κ=>x en (asP fun o off=>rdK o off n h fun vs=>κ (.ag vs) h nx)
noncomputable def natsK (k:Nat) (vs:List AV):(List Nat→R)→R:=
 @List.rec AV (fun _=>(List Nat→R)→R) (fun κ=>κ []) (fun v _ ih κ=>lnK k v fun n=>ih fun l=>κ (n :: l)) vs
noncomputable def foldK (m:Nat) (l:List Nat):(List Nat→R)→R:=
 @List.rec Nat (fun _=>Option Nat→(List Nat→R)→R) (fun _ κ=>κ []) (fun y _ ih o κ=>@Option.rec Nat (fun _=>R) (ih (some y) κ)
  (fun x=>fnat (Nat.xor x (Nat.land (Nat.xor x y) m)) fun z=>ih none fun l=>κ (z :: l)) o) l none
noncomputable def bitM (N b:Nat):Nat:=Nat.mul (Nat.land (Nat.shiftRight N b) LO) 18446744073709551615
noncomputable def muxJ (N:Nat) (l:List Nat) (κ:Nat→R):R:=fnat (bitM N 0) fun m0=>foldK m0 l fun l=>fnat (bitM N 1) fun m1=>foldK m1 l fun l=>fnat (bitM N 2) fun m2=>foldK m2 l fun l=>
 fnat (bitM N 3) fun m3=>foldK m3 l fun l=>headK κ l
noncomputable def linB (l:List Nat):Bool:=match l with
 | [a0,a1,a2,a3,a4,a5,a6,a7,a8,a9,a10,a11,a12,a13,a14,a15]=>br (Nat.beq a0 0) (br (Nat.beq a3 (Nat.xor a1 a2)) (br (Nat.beq a5 (Nat.xor a1 a4)) (br (Nat.beq a6 (Nat.xor a2 a4)) (br (Nat.beq a7 (Nat.xor a3 a4)) (br (Nat.beq a9 (Nat.xor a1 a8)) (br (Nat.beq a10 (Nat.xor a2 a8)) (br (Nat.beq a11 (Nat.xor a3 a8)) (br (Nat.beq a12 (Nat.xor a4 a8)) (br (Nat.beq a13 (Nat.xor a5 a8)) (br (Nat.beq a14 (Nat.xor a6 a8)) (br (Nat.beq a15 (Nat.xor a7 a8)) (true) false) false) false) false) false) false) false) false) false) false) false) false
 | _=>false
noncomputable def muxL (N:Nat) (l:List Nat) (κ:Nat→R):R:=match l with
 | [_,a1,a2,_,a4,_,_,_,a8,_,_,_,_,_,_,_]=>fnat (bitM N 0) fun m=>fnat (Nat.land a1 m) fun x=>fnat (bitM N 1) fun m=>fnat (Nat.land a2 m) fun y=>fnat (Nat.xor x y) fun x=>
  fnat (bitM N 2) fun m=>fnat (Nat.land a4 m) fun y=>fnat (Nat.xor x y) fun x=>fnat (bitM N 3) fun m=>fnat (Nat.land a8 m) fun y=>fnat (Nat.xor x y) fun x=>κ x
 | _=>false
noncomputable def muxK (N:Nat) (l:List Nat) (κ:Nat→R):R:=br (linB l) (muxL N l κ) (muxJ N l κ)
noncomputable def muxV (N:Nat) (vs:List AV) (κ:AV→R):R:=match vs with
 | .i k n :: r=>br (Nat.blt k 8) (natsK k (.i k n :: r) fun l=>muxK N l fun M=>κ (.l k M)) false
 | _=>false
noncomputable def ldV (h:H) (p:AV) (κ:AV→R):R:=match p with
 | .q o off N=>rdK o off 16 h fun vs=>muxV N vs κ
 | p=>asP (fun o off=>rd1 o off h κ) p
noncomputable def ixsW (l:List Nat) (i:AV) (κ:AV→R):R:=match i with
 | .l k N=>br (Nat.blt k 8) (br (Nat.beq (ltm N (Nat.mul LO 16)) LO) (takeK Nat 16 l fun l=>ofBytes l fun vs=>muxV N vs κ) false) false
 | i=>ixsV l i κ
noncomputable def oIxs (x y:XF):OpF:=fun en h nx κ=>x en fun a=>y en fun i=>match a with
 | .t l=>asN (fun i=>nthK AV (fun c=>κ c h nx) l i) i
 | a=>asS (fun l=>ixsW l i fun v=>κ v h nx) a
noncomputable def oLd1 (x:XF):OpF:=fun en h nx κ=>x en fun p=>ldV h p fun v=>κ v h nx
noncomputable def oSt (x y:XF) (n:Nat):OpF:=fun en h nx κ=>x en (asP fun o off=>y en (cellsK fun l=>br (Nat.beq (lenN AV l) n) (wrK o off l h fun h=>κ undef h nx) false))
noncomputable def oAl (z:List AV) (n:Nat):OpF:=fun _ h nx κ=>newL z n h nx fun o h nx=>κ (.p o 0) h nx
noncomputable def oBx (x:XF):OpF:=fun en h nx κ=>x en (cellsK fun l=>fnat (lenN AV l) fun n=>newL l n h nx fun o h nx=>κ (.p o 0) h nx)
abbrev PtF:=Env→List AV→(List AV→R)→R
noncomputable def pNil:PtF:=fun _ l κ=>κ l
noncomputable def pPt (off size:Nat) (x:XF) (r:PtF):PtF:=fun en l κ=>x en (cellsK fun vs=>br (Nat.beq (lenN AV vs) size) (putLK vs off l fun l=>r en l κ) false)
noncomputable def oBld (z:List AV) (ps:PtF):OpF:=fun en h nx κ=>ps en z fun l=>κ (.ag l) h nx
noncomputable def oBsl (z:List AV) (n len:Nat) (ps:PtF):OpF:=fun en h nx κ=>ps en z fun l=>newL l n h nx fun o h nx=>κ (.sl o 0 len (some len)) h nx
noncomputable def oMks (x y:XF) (size:Nat) (z:List AV) (bytes:Nat):OpF:=fun en h nx κ=>x en (asN fun l=>y en (asN fun c=>
 br (Nat.ble l c) (br (Nat.ble c 9223372036854775807) (br (Nat.ble (Nat.mul bytes c) 281474976710656)
  (fnat (Nat.mul c size) fun n=>newK (.ce n 0 z size (deep n) (E (deep n)) true []) h nx fun o h nx=>κ (.sl o 0 l (some c)) h nx) false) false) false))
noncomputable def oMkm:OpF:=fun _ h nx κ=>newK (.mp [] 0) h nx fun o h nx=>κ (.m o) h nx
noncomputable def fndK (q:QF) (k:AV) (es:List ME) (nf:R) (κ:AV→R):R:=
 @List.rec ME (fun _=>R) nf (fun e _ ih=>match e with | .mk k' v _=>q k k' fun c=>br c (κ v) ih) es
noncomputable def oLkp (g:Bool) (ks:List Nat) (x k:XF) (ok:Bool) (z:AV):OpF:=fun en h nx κ=>x en fun a=>k en fun k=>kyT g ks k (
  let no:=br ok (κ (.tu [z,.b false]) h nx) (κ z h nx)
  match a with
  | .nm=>no
  | .m o=>get o h (asMp fun es _=>fndK (eqT g ks) k es no fun v=>br ok (κ (.tu [v,.b true]) h nx) (κ v h nx))
  | _=>false)
noncomputable def updK (q:QF) (k v:AV) (es:List ME) (nf:R):(List ME→R)→R:=
 @List.rec ME (fun _=>(List ME→R)→R) (fun _=>nf) (fun e r ih κ=>match e with | .mk k' v' b=>q k k' fun c=>br c (κ (.mk k v b :: r)) (ih fun r=>κ (.mk k' v' b :: r))) es
noncomputable def oMpu (g:Bool) (ks:List Nat) (x k v:XF):OpF:=fun en h nx κ=>x en (asM fun o=>k en fun k=>v en fun v=>kyT g ks k (
 get o h (asMp fun es c=>updK (eqT g ks) k v es
  (appK ME es [.mk k v c] fun es=>fnat (Nat.succ c) fun c'=>put o (.mp es c') h fun h=>κ undef h nx)
  fun es=>put o (.mp es c) h fun h=>κ undef h nx)))
noncomputable def entK (q:QF) (k:AV) (es:List ME) (nf:R):(List ME→AV→Nat→R)→R:=
 @List.rec ME (fun _=>(List ME→AV→Nat→R)→R) (fun _=>nf) (fun e r ih κ=>match e with | .mk k' v' b=>q k k' fun c=>br c (κ (.mk k v' b :: r) v' b) (ih fun r v b'=>κ (.mk k' v' b :: r) v b')) es
noncomputable def oMpe (g:Bool) (ks:List Nat) (x k:XF) (z:AV):OpF:=fun en h nx κ=>x en (asM fun o=>k en fun k=>kyT g ks k (
 get o h (asMp fun es c=>entK (eqT g ks) k es
  (appK ME es [.mk k z c] fun es=>fnat (Nat.succ c) fun c'=>put o (.mp es c') h fun h=>κ (.tu [z,.i 3 (.ofNat c)]) h nx)
  fun es v b=>put o (.mp es c) h fun h=>κ (.tu [v,.i 3 (.ofNat b)]) h nx)))
noncomputable def ensK (s:Nat) (v:AV) (es:List ME):(List ME→R)→R:=
 @List.rec ME (fun _=>(List ME→R)→R) (fun _=>false) (fun e r ih κ=>match e with | .mk k' v' b=>br (Nat.beq b s) (κ (.mk k' v b :: r)) (ih fun r=>κ (.mk k' v' b :: r))) es
noncomputable def oEns (x s v:XF):OpF:=fun en h nx κ=>x en (asM fun o=>s en (asN fun s=>v en fun v=>
 get o h (asMp fun es c=>ensK s v es fun es=>put o (.mp es c) h fun h=>κ undef h nx)))
abbrev BdF:=Env→Nat→(Nat→R)→R
noncomputable def bNo:BdF:=fun _ d κ=>κ d
noncomputable def bX (x:XF):BdF:=fun en _ κ=>x en (asN κ)
noncomputable def cutK (o off len c l hh m size:Nat) (h:H) (nx:Nat) (κ:K):R:=
 br (Nat.ble hh m) (br (Nat.ble m c) (br (Nat.beq m l) (κ (.sl o off 0 (some 0)) h nx)
  (fnat (Nat.add off (Nat.mul l size)) fun j=>fnat (Nat.sub hh l) fun n=>fnat (Nat.sub m l) fun c=>κ (.sl o j n (some c)) h nx)) false) false
noncomputable def cutN (o off l hh size:Nat) (h:H) (nx:Nat) (κ:K):R:=
 get o h fun a=>match a with
  | .ce N es z zl d t top sh=>br (Nat.beq es size) (br (Nat.beq size 0) false (br (Nat.ble (Nat.add off (Nat.mul hh size)) N)
    (br (Nat.ble (Nat.add off (Nat.mul (Nat.succ l) size)) N) (fnat (Nat.add off (Nat.mul l size)) fun j=>fnat (Nat.sub hh l) fun n=>κ (.sl o j n none) h nx)
      (br top (put o (.ce N es z zl d t true (nx :: sh)) h fun h=>newK (.ce 0 size [] 0 0 none false []) h nx fun o h nx=>κ (.sl o 0 0 none) h nx) false)) false)) false
  | _=>false
noncomputable def cutM (o off len l hh m size:Nat) (h:H) (nx:Nat) (κ:K):R:=
 get o h fun a=>match a with
  | .ce N es z zl d t top sh=>br (Nat.beq es size) (br (Nat.beq size 0) false (br (Nat.ble (Nat.add off (Nat.mul m size)) N) (cutK o off len m l hh m size h nx κ) false)) false
  | _=>false
noncomputable def oSlc (x:XF) (lo hi mx:BdF) (nomax:Bool) (size:Nat):OpF:=fun en h nx κ=>x en fun a=>match a with
  | .ns=>lo en 0 fun l=>hi en 0 fun hh=>mx en 0 fun m=>br (Nat.beq l 0) (br (Nat.beq hh 0) (br (Nat.beq m 0) (κ .ns h nx) false) false) false
  | .sl o off len cap=>lo en 0 fun l=>hi en len fun hh=>br (Nat.ble l hh) (match cap with
    | some c=>mx en c fun m=>cutK o off len c l hh m size h nx κ
    | none=>br nomax (cutN o off l hh size h nx κ) (mx en 0 fun m=>cutM o off len l hh m size h nx κ)) false
  | _=>false
noncomputable def cutR (o off l hh size:Nat) (h:H) (nx:Nat) (κ:K):R:=
 get o h fun a=>match a with
  | .ce N es z zl d t top sh=>br (Nat.beq es size) (br (Nat.beq size 0) false (br (Nat.ble (Nat.add off (Nat.mul hh size)) N)
    (br (Nat.ble (Nat.add off (Nat.mul (Nat.succ l) size)) N) (fnat (Nat.add off (Nat.mul l size)) fun j=>fnat (Nat.sub hh l) fun n=>κ (.sl o j n none) h nx) (br (Nat.beq hh l) (κ (.xi o 12 off l) h nx) false)) false)) false
  | .bt _ _=>br (Nat.beq l 0) (br (Nat.beq hh 0) (κ (.sl o off 0 none) h nx) false) false
  | _=>false
noncomputable def oSlr (x:XF) (lo hi mx:BdF) (nomax:Bool) (size:Nat):OpF:=fun en h nx κ=>x en fun a=>match a with
  | .ns=>lo en 0 fun l=>hi en 0 fun hh=>mx en 0 fun m=>br (Nat.beq l 0) (br (Nat.beq hh 0) (br (Nat.beq m 0) (κ .ns h nx) false) false) false
  | .sl o off len cap=>lo en 0 fun l=>hi en len fun hh=>br (Nat.ble l hh) (match cap with
    | some c=>mx en c fun m=>cutK o off len c l hh m size h nx κ
    | none=>br nomax (cutR o off l hh size h nx κ) (mx en 0 fun m=>cutM o off len l hh m size h nx κ)) false
  | _=>false
noncomputable def oSls (x:XF) (lo hi:BdF):OpF:=fun en h nx κ=>x en fun v=>match v with
 | .t s=>lo en 0 fun l=>fnat (lenN AV s) fun n=>hi en n fun hh=>
  br (Nat.ble l hh) (br (Nat.ble hh n) (takeK AV (Nat.sub hh l) (dropL AV l s) fun s=>mkTx s fun v=>κ v h nx) false) false
 | v=>asS (fun s=>lo en 0 fun l=>fnat (lenN Nat s) fun n=>hi en n fun hh=>
  br (Nat.ble l hh) (br (Nat.ble hh n) (takeK Nat (Nat.sub hh l) (dropL Nat l s) fun s=>κ (.s s) h nx) false) false) v
noncomputable def oSla (x:XF) (lo hi mx:BdF) (len size:Nat):OpF:=fun en h nx κ=>x en (asP fun o off=>lo en 0 fun l=>hi en len fun hh=>mx en len fun m=>
 br (Nat.ble l hh) (cutK o off len len l hh m size h nx κ) false)
noncomputable def srcK (y:AV) (size:Nat) (h:H) (κ:List AV→Nat→R):R:=
 match y with
 | .ns=>κ [] 0
 | .sl o off len _=>fnat (Nat.mul len size) fun n=>rdK o off n h fun vs=>κ vs len
 | .s l=>br (Nat.beq size 1) (ofBytes l fun vs=>fnat (lenN Nat l) fun n=>κ vs n) false
 | .t l=>br (Nat.beq size 1) (fnat (lenN AV l) fun n=>κ l n) false
 | _=>false
noncomputable def fits (size need bytes:Nat) (κ:R):R:=br (Nat.beq size 0) false (br (Nat.ble need 1073741824) (br (Nat.ble (Nat.mul need bytes) 70368744177664) κ false) false)
noncomputable def growK (old new:List AV) (size bytes:Nat) (h:H) (nx:Nat) (need:Nat) (κ:K):R:=
 fits size need bytes (appK AV old new fun l=>fnat (Nat.mul need size) fun n=>newK (.ce n size l n (deep n) (E (deep n)) true []) h nx fun o h nx=>κ (.sl o 0 need none) h nx)
noncomputable def deepr (d:Nat) (t:L (Option AV) d):L (Option AV) (Nat.succ d):=(N8.mk t (E d) (E d) (E d) (E d) (E d) (E d) (E d):N8 (L (Option AV) d))
noncomputable def moreK (n size:Nat) (z:List AV) (zl d:Nat) (t:L (Option AV) d) (N:Nat) (new:List AV) (o:Nat) (sh:List Nat) (need:Nat) (h:H) (nx:Nat) (κ:K):R:=
 setsT d new N t fun t=>newK (.ce n size z zl d t true (o :: sh)) h nx fun o h nx=>κ (.sl o 0 need none) h nx
noncomputable def appN (o off len m size bytes:Nat) (new:List AV) (h:H) (nx:Nat) (κ:K):R:=
 fnat (Nat.add len m) fun need=>get o h fun a=>match a with
  | .ce N es z zl d t top sh=>br (Nat.beq es size) (br (Nat.beq size 0) false
   (br (Nat.ble (Nat.add off (Nat.mul need size)) N) (wrK o (Nat.add off (Nat.mul len size)) new h fun h=>κ (.sl o off need none) h nx)
   (fits size need bytes (br top (br (Nat.beq (Nat.add off (Nat.mul len size)) N)
     (put o (.ce N es z zl d t false sh) h fun h=>fnat (Nat.mul need size) fun n=>
       (match off with
        | 0=>br (Nat.ble n (Nat.pow 8 d)) (moreK n size z zl d t N new o sh need h nx κ) (br (Nat.ble n (Nat.pow 8 (Nat.succ d))) (moreK n size z zl (Nat.succ d) (deepr d t) N new o sh need h nx κ)
         (cellsT z zl d t (Nat.mul len size) 0 fun old=>appK AV old new fun l=>newK (.ce n size l n (deep n) (E (deep n)) true (o :: sh)) h nx fun o h nx=>κ (.sl o 0 need none) h nx))
        | _=>cellsT z zl d t (Nat.mul len size) off fun old=>appK AV old new fun l=>newK (.ce n size l n (deep n) (E (deep n)) true (o :: sh)) h nx fun o h nx=>κ (.sl o 0 need none) h nx)) false) false)))) false
  | _=>false
noncomputable def oApn (x y:XF) (size bytes:Nat):OpF:=fun en h nx κ=>x en fun a=>y en fun b=>srcK b size h fun new m=>match a with
  | .ns=>@Nat.rec (fun _=>R) (κ .ns h nx) (fun _ _=>growK [] new size bytes h nx m κ) m
  | .sl o off len cap=>(match cap with
   | some c=>fnat (Nat.add len m) fun need=>br (Nat.ble need c) (wrK o (Nat.add off (Nat.mul len size)) new h fun h=>κ (.sl o off need (some c)) h nx)
     (rdK o off (Nat.mul len size) h fun old=>growK old new size bytes h nx need κ)
   | none=>appN o off len m size bytes new h nx κ)
  | _=>false
noncomputable def apnK (a:AV) (new:List AV) (m size bytes:Nat) (h:H) (nx:Nat) (κ:K):R:=match a with
  | .ns=>@Nat.rec (fun _=>R) (κ .ns h nx) (fun _ _=>growK [] new size bytes h nx m κ) m
  | .sl o off len cap=>(match cap with
   | some c=>fnat (Nat.add len m) fun need=>br (Nat.ble need c) (wrK o (Nat.add off (Nat.mul len size)) new h fun h=>κ (.sl o off need (some c)) h nx)
     (rdK o off (Nat.mul len size) h fun old=>growK old new size bytes h nx need κ)
   | none=>appN o off len m size bytes new h nx κ)
  | _=>false
noncomputable def repK (z:List AV) (n:Nat):(List AV→R)→R:=@Nat.rec (fun _=>(List AV→R)→R) (fun κ=>κ []) (fun _ ih κ=>ih fun l=>appK AV z l κ) n
noncomputable def oApz (x y:XF) (size bytes:Nat) (z:List AV):OpF:=fun en h nx κ=>x en fun a=>y en (asN fun m=>br (Nat.ble m 1073741824) (br (Nat.ble (Nat.mul m bytes) 70368744177664)
 (repK z m fun new=>apnK a new m size bytes h nx κ) false) false)
noncomputable def oClr (x:XF) (z:List AV):OpF:=fun en h nx κ=>x en fun a=>match a with
  | .ns=>κ undef h nx
  | .sl o off len _=>@Nat.rec (fun _=>R) (κ undef h nx) (fun _ _=>repK z len fun vs=>wrK o off vs h fun h=>κ undef h nx) len
  | _=>false
noncomputable def oMsh (x:XF):OpF:=fun en h nx κ=>x en fun a=>match a with
  | .sl o off len cap=>get o h fun ob=>(match ob with
   | .ce n es z zl d t top sh=>br top (br (or' (Nat.blt 0 es) (Nat.beq zl 0)) (put o (.ce n es z zl d t true []) h fun h=>killK sh h fun h=>κ (.sl o off len cap) h nx)
     (cellsT z zl d t n 0 fun l=>put o (.ce n es l 0 (deep n) (E (deep n)) true []) h fun h=>killK sh h fun h=>κ (.sl o off len cap) h nx)) false
   | .sm l=>fnat (lenN AV l) fun n=>put o (.ce n 0 l 0 (deep n) (E (deep n)) true []) h fun h=>κ (.sl o off len cap) h nx
   | _=>false)
  | _=>false
noncomputable def lastK (l:List Nat) (κ:Nat→R):R:=@List.rec Nat (fun _=>R→R) (fun d=>d) (fun n _ ih _=>ih (κ n)) l false
noncomputable def bornK (b:Nat) (κ:AV→AV→R) (es:List ME):R:=@List.rec ME (fun _=>R) false (fun e _ ih=>match e with | .mk k v b'=>br (Nat.beq b' b) (κ k v) ih) es
noncomputable def oEty (x:XF):OpF:=fun en h nx κ=>x en (asP fun r off=>br (Nat.beq off 0) (get r h fun it=>match it with
 | .it (some m) _ seen st=>lastK seen fun b=>get m h (asMp fun es c=>br (Nat.beq c st) (bornK b (fun k v=>κ (.tu [k,v]) h nx) es) false)
 | _=>false) false)
noncomputable def srcN (y:AV) (size lim:Nat) (h:H) (κ:List AV→Nat→R):R:=
 match y with
 | .ns=>κ [] 0
 | .sl o off len _=>fnat (Nat.mul (Nat.min len lim) size) fun n=>rdK o off n h fun vs=>κ vs len
 | .s l=>br (Nat.beq size 1) (ofBytes l fun vs=>fnat (lenN Nat l) fun n=>κ vs n) false
 | _=>false
noncomputable def oCpy (x y:XF) (size:Nat):OpF:=fun en h nx κ=>x en fun a=>y en fun b=>match a with
  | .ns=>srcN b size 0 h fun _ _=>κ (.i 3 (.ofNat 0)) h nx
  | .sl o off len _=>srcN b size len h fun new m=>fnat (Nat.min m len) fun n=>takeK AV (Nat.mul n size) new fun new=>wrK o off new h fun h=>κ (.i 3 (.ofNat n)) h nx
  | _=>false
noncomputable def delK (q:QF) (k:AV) (es:List ME):(List ME→R)→R:=
 @List.rec ME (fun _=>(List ME→R)→R) (fun κ=>κ []) (fun e r ih κ=>match e with | .mk k' v' b=>q k k' fun c=>br c (κ r) (ih fun r=>κ (.mk k' v' b :: r))) es
noncomputable def oDlt (g:Bool) (ks:List Nat) (x k:XF):OpF:=fun en h nx κ=>x en fun a=>k en fun k=>kyT g ks k (match a with
  | .nm=>κ undef h nx
  | .m o=>get o h (asMp fun es c=>delK (eqT g ks) k es fun es=>put o (.mp es c) h fun h=>κ undef h nx)
  | _=>false)
noncomputable def oAld (k:Nat) (x:XF):OpF:=fun en h nx κ=>x en (asP fun o off=>rd1 o off h (asK k fun n=>κ (.i k n) h nx))
noncomputable def oAst (x y:XF):OpF:=fun en h nx κ=>x en (asP fun o off=>y en (asI fun k n=>wrK o off [.i k n] h fun h=>κ undef h nx))
noncomputable def oAcs (k:Nat) (x y z:XF):OpF:=fun en h nx κ=>x en (asP fun o off=>y en (asI fun _ n'=>z en (asI fun k'' m=>rd1 o off h (asK k fun n=>
  cmEq n n' fun c=>br c (wrK o off [.i k'' m] h fun h=>κ (.b true) h nx) (κ (.b false) h nx)))))
noncomputable def oAad (k:Nat) (x y:XF):OpF:=fun en h nx κ=>x en (asP fun o off=>y en fun b=>rd1 o off h fun a=>br (isLL a b)
 (lnK k a fun A=>lnK k b fun B=>laAdd k A B fun N=>wrK o off [.l k N] h fun h=>κ (.l k N) h nx)
 (asI (fun _ m=>asK k (fun n=>wrap k (Int.add n m) fun r=>wrK o off [.i k r] h fun h=>κ (.i k r) h nx) a) b))
noncomputable def oNop:OpF:=fun _ h nx κ=>κ undef h nx
noncomputable def oNopp (x:XF):OpF:=fun en h nx κ=>x en (asP fun _ _=>κ undef h nx)
noncomputable def oBad:OpF:=fun _ _ _ _=>false
noncomputable def oRng (x:XF):OpF:=fun en h nx κ=>x en fun a=>match a with
 | .nm=>newK (.it none 0 [] 0) h nx fun o h nx=>κ (.p o 0) h nx
 | .m o=>get o h (asMp fun _ c=>newK (.it (some o) c [] c) h nx fun o h nx=>κ (.p o 0) h nx)
 | _=>false
noncomputable def memN (n:Nat) (l:List Nat):Bool:=@List.rec Nat (fun _=>Bool) false (fun x _ ih=>@Bool.rec (fun _=>Bool) ih true (Nat.beq x n)) l
noncomputable def leftL (seen:List Nat) (es:List ME):List ME:=@List.rec ME (fun _=>List ME) [] (fun e _ ih=>match e with | .mk _ _ b=>@Bool.rec (fun _=>List ME) (e :: ih) ih (memN b seen)) es
noncomputable def anyBelow (c:Nat) (es:List ME):Bool:=@List.rec ME (fun _=>Bool) false (fun e _ ih=>match e with | .mk _ _ b=>@Bool.rec (fun _=>Bool) ih true (Nat.blt b c)) es
noncomputable def forkN (r m since:Nat) (seen:List Nat) (h:H) (nx:Nat) (κ:K) (clock:Nat) (l:List ME):R:=
 @List.rec ME (fun _=>R) true (fun e _ ih=>match e with | .mk k v b=>br (Nat.blt b since) (br (appK Nat seen [b] fun seen=>put r (.it (some m) since seen clock) h fun h=>κ (.tu [.b true,k,v]) h nx) ih false) false) l
noncomputable def nxtK (r m since:Nat) (seen:List Nat) (h:H) (nx:Nat) (κ:K) (es:List ME) (clock:Nat):R:=match leftL seen es with
 | []=>put r .dead h fun h=>κ (.tu [.b false]) h nx
 | [.mk k v b]=>br (Nat.blt b since) (appK Nat seen [b] fun seen=>put r (.it (some m) since seen clock) h fun h=>κ (.tu [.b true,k,v]) h nx) false
 | l=>forkN r m since seen h nx κ clock l
noncomputable def oNxt (x:XF):OpF:=fun en h nx κ=>x en (asP fun r off=>br (Nat.beq off 0) (get r h fun it=>match it with
 | .it none _ _ _=>κ (.tu [.b false]) h nx
 | .it (some m) since seen last=>get m h (asMp fun es clock=>match seen with
   | []=>nxtK r m since seen h nx κ es clock
   | _=>(match es with | []=>nxtK r m since seen h nx κ es clock | _=>br (anyBelow last es) (nxtK r m since seen h nx κ es clock) false))
 | _=>false) false)
noncomputable def xC (v:AV):XF:=fun _ κ=>κ v
noncomputable def xT (t:Nat):XF:=fun en κ=>getK AV κ 3 t en
noncomputable def xsN:XsF:=fun _ κ=>κ []
noncomputable def xsC (x:XF) (xs:XsF):XsF:=fun en κ=>x en fun v=>xs en fun vs=>κ (v :: vs)
noncomputable def dN:DsF:=fun _ en κ=>κ en
noncomputable def dT (t:Nat):DsF:=fun v=>setK AV v 3 t
noncomputable def gN:GdF:=fun _ a _=>a
noncomputable def gG (x:XF) (want:Bool):GdF:=fun en a b=>x en fun v=>match v with | .b c=>br (eqB c want) a b | .tu _=>b | _=>false
noncomputable def sNil:SegF:=fun en h nx κ=>κ en h nx
noncomputable def sOp (d:DsF) (f:OpF) (r:SegF):SegF:=fun en h nx κ=>f en h nx fun v h nx=>d v en fun en=>r en h nx κ
noncomputable def sOpG (g:GdF) (d:DsF) (f:OpF) (r:SegF):SegF:=fun en h nx κ=>
 g en (f en h nx fun v h nx=>d v en fun en=>r en h nx κ) (d undef en fun en=>r en h nx κ)
end Go.AM

namespace Go.AM
open Go
noncomputable def oAls (t:Nat) (z:List AV):OpF:=fun _ h nx κ=>newK (.st t z) h nx fun o h nx=>κ (.p o 0) h nx
noncomputable def oBxs (t:Nat) (x:XF):OpF:=fun en h nx κ=>x en (cellsK fun l=>newK (.st t l) h nx fun o h nx=>κ (.p o 0) h nx)
noncomputable def pinK (ok:List (Nat × Nat × Nat)) (t off n:Nat) (κ:R):R:=
 @List.rec (Nat × Nat × Nat) (fun _=>R) false (fun p _ ih=>br (Nat.beq p.1 t) (br (Nat.beq p.2.1 off) (br (Nat.beq p.2.2 n) κ ih) ih) ih) ok
noncomputable def oCvp (ok:List (Nat × Nat × Nat)) (x:XF):OpF:=fun en h nx κ=>x en fun v=>match v with
 | .np=>κ .np h nx
 | .p o off=>get o h fun a=>(match a with | .st t l=>fnat (lenN AV l) fun n=>br (Nat.blt off n) (pinK ok t off n (κ (.p o off) h nx)) false | _=>false)
 | _=>false
noncomputable def oApb (ty bytes:Nat) (x y:XF):OpF:=fun en h nx κ=>x en fun a=>y en fun b=>srcK b 1 h fun new m=>br (allBy new) (match a with
 | .ns=>fits 1 m bytes (br (Nat.beq m 0) false (newK (.bt ty new) h nx fun o h nx=>κ (.sl o 0 m none) h nx))
 | .sl o off len cap=>(match cap with
  | none=>br (Nat.beq off 0) (get o h fun a=>(match a with
   | .bt t l=>br (Nat.beq t ty) (br (Nat.beq (lenN AV l) len) (fnat (Nat.add len m) fun need=>fits 1 need bytes (appK AV l new fun l2=>put o .dead h fun h=>newK (.bt ty l2) h nx fun o h nx=>κ (.sl o 0 need none) h nx)) false) false
   | _=>false)) false
  | some _=>false)
 | _=>false) false
noncomputable def oUsd (x:XF):OpF:=fun en h nx κ=>x en fun a=>match a with
 | .ns=>κ .np h nx
 | .sl o off _ cap=>(match cap with
  | none=>br (Nat.beq off 0) (get o h fun a=>(match a with | .bt _ l=>(match l with | []=>false | _=>κ (.p o 0) h nx) | _=>false)) false
  | some _=>false)
 | _=>false
noncomputable def oUst (ty:Nat) (x y:XF):OpF:=fun en h nx κ=>x en fun a=>y en (asK 3 fun n=>@Int.rec (fun _=>R) (fun n=>match a with
 | .np=>br (Nat.beq n 0) (κ (.s []) h nx) false
 | .p o off=>br (Nat.beq off 0) (get o h fun a=>(match a with
  | .bt t l=>br (Nat.beq t ty) (br (Nat.beq (lenN AV l) n) (br (Nat.blt 0 n) (br (Nat.blt n 1073741824) (put o .dead h fun h=>mkTx l fun v=>κ v h nx) false) false) false) false
  | _=>false)) false
 | _=>false) (fun _=>false) n)
noncomputable def oMnz (ty:Nat) (x:XF):OpF:=fun en h nx κ=>x en (asK 3 fun n=>@Int.rec (fun _=>R) (fun n=>br (Nat.ble n 1073741824) (newK (.bt ty []) h nx fun o h nx=>κ (.sl o 0 n none) h nx) false) (fun _=>false) n)
noncomputable def cntL (c:Nat) (l:List Nat) (κ:Nat→R):R:=@List.rec Nat (fun _=>Nat→R) (fun n=>κ n) (fun x _ ih n=>br (Nat.beq x c) (fnat (Nat.succ n) ih) (ih n)) l 0
noncomputable def cntT (c:Nat) (l:List AV) (κ:Nat→R):Nat→R:=@List.rec AV (fun _=>Nat→R) (fun n=>κ n) (fun x _ ih n=>byEq x (.i 4 (.ofNat c)) fun q=>br q (fnat (Nat.succ n) ih) (ih n)) l
noncomputable def oCnt (x y:XF):OpF:=fun en h nx κ=>x en fun a=>y en (asK 4 fun c=>@Int.rec (fun _=>R) (fun c=>br (Nat.blt c 256) (match a with
 | .t l=>cntT c l (fun n=>κ (.i 3 (.ofNat n)) h nx) 0
 | a=>asS (fun l=>cntL c l fun n=>κ (.i 3 (.ofNat n)) h nx) a) false) (fun _=>false) c)
noncomputable def idxL (c:Nat) (l:List Nat) (κ:Int→R):R:=@List.rec Nat (fun _=>Nat→R) (fun _=>κ (.negSucc 0)) (fun x _ ih n=>br (Nat.beq x c) (κ (.ofNat n)) (fnat (Nat.succ n) ih)) l 0
noncomputable def idxT (c:Nat) (l:List AV) (κ:Int→R):Nat→R:=@List.rec AV (fun _=>Nat→R) (fun _=>κ (.negSucc 0)) (fun x _ ih n=>byEq x (.i 4 (.ofNat c)) fun q=>br q (κ (.ofNat n)) (fnat (Nat.succ n) ih)) l
noncomputable def idxN (N:Nat) (l:List Nat) (κ:Nat→R):Nat→Nat→Nat→R:=@List.rec Nat (fun _=>Nat→Nat→Nat→R) (fun _ r A=>br (Nat.beq r 0) (κ A) false)
 (fun x _ ih p r A=>fnat (Nat.land r (Nat.xor LO (ltm 0 (Nat.xor N (Nat.mul LO x))))) fun Y=>fnat (Nat.xor r Y) fun r=>fnat (Nat.add A (Nat.mul Y p)) fun A=>fnat (Nat.succ p) fun p=>ih p r A) l
noncomputable def idxW (c:Nat) (v:AV) (κ:Int→R):R:=match v with
 | .t l=>idxT c l κ 0
 | a=>asS (fun l=>idxL c l κ) a
noncomputable def oIdx (x y:XF):OpF:=fun en h nx κ=>x en fun a=>y en fun b=>match b with
 | .l k N=>br (Nat.beq k 4) (asS (fun l=>br (Nat.ble (lenN Nat l) 4096) (idxN N l (fun A=>κ (.l 3 A) h nx) 0 LO 0) false) a) false
 | b=>asK 4 (fun c=>@Int.rec (fun _=>R) (fun c=>br (Nat.blt c 256) (idxW c a fun n=>κ (.i 3 n) h nx) false) (fun _=>false) c) b
noncomputable def oCap (x:XF):OpF:=fun en h nx κ=>x en fun a=>match a with
 | .ns=>κ (.i 3 (.ofNat 0)) h nx
 | .sl _ _ _ cap=>(match cap with | some c=>κ (.i 3 (.ofNat c)) h nx | none=>false)
 | _=>false
noncomputable def oCpn (x y:XF):OpF:=fun en h nx κ=>x en fun a=>y en fun b=>match b with
 | .ns=>(match a with | .ns=>κ (.i 3 (.ofNat 0)) h nx | .sl _ _ _ _=>κ (.i 3 (.ofNat 0)) h nx | _=>false)
 | _=>false
end Go.AM

namespace Go.AM
open Go
mutual
def beqV:AV→AV→Bool
 | .i k n,.i k' m=>Nat.beq k k' && (n == m)
 | .b c,.b d=>c == d
 | .s l,.s r=>l == r
 | .p o i,.p o' i'=>Nat.beq o o' && Nat.beq i i'
 | .np,.np=>true
 | .sl o i l c,.sl o' i' l' c'=>Nat.beq o o' && Nat.beq i i' && Nat.beq l l' && c == c'
 | .ns,.ns=>true
 | .m o,.m o'=>Nat.beq o o'
 | .nm,.nm=>true
 | .fn f l,.fn f' l'=>Nat.beq f f' && beqVs l l'
 | .yl o,.yl o'=>Nat.beq o o'
 | .nf,.nf=>true
 | .ifc t v,.ifc t' v'=>Nat.beq t t' && beqV v v'
 | .ni,.ni=>true
 | .x n,.x m=>Nat.beq n m
 | .xi n k r m,.xi n' k' r' m'=>Nat.beq n n' && Nat.beq k k' && Nat.beq r r' && Nat.beq m m'
 | .l k n,.l k' n'=>Nat.beq k k' && Nat.beq n n'
 | .q o i n,.q o' i' n'=>Nat.beq o o' && Nat.beq i i' && Nat.beq n n'
 | .t l,.t l'=>beqVs l l'
 | .f n m,.f n' m'=>Nat.beq n n' && Nat.beq m m'
 | .z n m,.z n' m'=>Nat.beq n n' && Nat.beq m m'
 | .ag l,.ag l'=>beqVs l l'
 | .tu l,.tu l'=>beqVs l l'
 | _,_=>false
def beqVs:List AV→List AV→Bool
 | [],[]=>true
 | x :: r,y :: s=>beqV x y && beqVs r s
 | _,_=>false
end
noncomputable def sAg (g:GdF) (x:XF) (f:OpF) (r:SegF):SegF:=fun en h nx κ=>
 g en (x en fun old=>f en h nx fun v _ _=>br (beqV old v) (r en h nx κ) false) (r en h nx κ)
abbrev StF:=Env→List T→Fr→List AFr→H→Nat→(ASt→R)→R
noncomputable def stGo:StF:=fun en k fr cs h nx κ=>κ (.mk en k fr cs h nx)
noncomputable def e0:Env:=repL AV undef 3
noncomputable def enlK (vs:List AV):Nat→Env→(Env→R)→R:=
 @List.rec AV (fun _=>Nat→Env→(Env→R)→R) (fun _ en κ=>κ en) (fun v _ ih j en κ=>setK AV v 3 j en fun en=>fnat (Nat.succ j) fun j=>ih j en κ) vs
noncomputable def asN0:AssF:=fun vs en κ=>match vs with | []=>κ en | _=>false
noncomputable def asC (t:Nat) (r:AssF):AssF:=fun vs en κ=>match vs with | []=>false | v :: vs=>setK AV v 3 t en fun en=>r vs en κ
noncomputable def fnOf (tb:Tb) (f:Nat) (κ:C→ResF→R):R:=match tb with | .mk t _ _=>getK (Option AFn) (opt AFn fun u=>match u with | .mk c r=>κ c r | .sp _=>false) 4 f t
noncomputable def enOf (tb:Tb) (f:Nat) (κ:C→R) (σ:SpF→R):R:=match tb with | .mk t _ _=>getK (Option AFn) (opt AFn fun u=>match u with | .mk c _=>κ c | .sp s=>σ s) 4 f t
noncomputable def lpOf (tb:Tb) (l:Nat) (κ:AssF→C→C→R):R:=match tb with | .mk _ t _=>getK (Option ALp) (opt ALp fun u=>match u with | .mk p a b=>κ p a b) 5 l t
noncomputable def asLp (κ:LoopState→J→Nat→Nat→Env→Nat→R) (a:AO):R:=match a with | .lp st j fn li en ds=>κ st j fn li en ds | _=>false
noncomputable def backK (kd:Bool) (v:AV) (cs:List AFr) (h:H) (nx:Nat) (κ:ASt→R):R:=
 match cs with
 | []=>κ (.fin v h nx)
 | .mk en td fr :: cs=>br kd (κ (.mk en td fr cs h nx)) (match td with
   | .wt d r :: k=>d v en fun en=>κ (.mk en (.rg r :: k) fr cs h nx)
   | .irf o :: k=>κ (.mk en (.erf o :: k) fr cs h nx)
   | _=>false)
noncomputable def backR (kd:Bool) (v:AV) (cs:List AFr) (h:H) (nx:Nat) (κ:ASt→R):R:=match cs with
 | []=>false
 | c :: cs=>backK kd v (c :: cs) h nx κ
noncomputable def allN (m:Nat) (κ:Nat→R):R:=@Nat.rec (fun _=>R) true (fun r ih=>br (fnat r κ) ih false) m
noncomputable def forkA (vs:List AV):(List AV→R)→R:=
 @List.rec AV (fun _=>(List AV→R)→R) (fun κ=>κ []) (fun v _ ih κ=>match v with
  | .f n m=>allN m fun r=>fnat (Nat.add r (Nat.div n 65536)) fun r=>ih fun vs=>κ (.i 3 (.ofNat r) :: vs)
  | v=>ih fun vs=>κ (v :: vs)) vs
noncomputable def enterK (tb:Tb) (f:Nat) (vs:List AV) (kd:Bool) (cs:List AFr) (h:H) (nx:Nat) (κ:ASt→R):R:=
 br (Nat.ble (lenN AV vs) 512) (enOf tb f (fun c=>forkA vs fun vs=>enlK vs 0 e0 fun en=>κ (.mk en [.c c] (.mk f [] kd none) cs h nx)) fun s=>br kd false (s vs h nx fun v h nx=>backR false v cs h nx κ)) false
noncomputable def callvK (tb:Tb) (v:AV) (vs:List AV) (cs:List AFr) (h:H) (nx:Nat) (κ:ASt→R):R:=
 match v with
 | .fn f caps=>appK AV vs caps fun vs=>enterK tb f vs false cs h nx κ
 | .yl o=>get o h (asLp fun _ _ fn li en _=>lpOf tb li fun ps a b=>ps vs en fun en=>κ (.mk en [.c a,.br,.c b] (.mk fn [] false (some o)) cs h nx))
 | _=>false
noncomputable def fndF (t:Nat) (κ:Nat→R) (l:List (Nat × Nat)):R:=@List.rec (Nat × Nat) (fun _=>R) false (fun p _ ih=>match p with | (t',f)=>br (Nat.beq t' t) (κ f) ih) l
noncomputable def invK (tb:Tb) (tbl:List (Nat × Nat)) (v:AV) (vs:List AV) (cs:List AFr) (h:H) (nx:Nat) (κ:ASt→R):R:=match v with
 | .ifc t v=>fndF t (fun f=>enterK tb f (v :: vs) false cs h nx κ) tbl
 | _=>false
noncomputable def endK (o:Nat) (j:J) (kd:Bool) (cs:List AFr) (h:H) (nx:Nat) (κ:ASt→R):R:=
 get o h (asLp fun _ _ fn li en ds=>match j with
  | .no=>put o (.lp .ready .no fn li en ds) h fun h=>backR kd (.b true) cs h nx κ
  | j=>put o (.lp .done j fn li en ds) h fun h=>backR kd (.b false) cs h nx κ)
noncomputable def exitTo' (id:Nat) (td:List T):Option (List T):=
 @List.rec T (fun _=>Option (List T)) none (fun t k ih=>match t with | .blk id'=>@Bool.rec (fun _=>Option (List T)) ih (some k) (Nat.beq id' id) | _=>ih) td
noncomputable def leaveK (j:J):StF:=fun en _ fr cs h nx κ=>match fr with
 | .mk fn df kd rd=>@Option.rec Nat (fun _=>R) (κ (.mk en [.rt] fr cs h nx)) (fun o=>endK o j kd cs h nx κ) rd
noncomputable def retK (tb:Tb):StF:=fun en _ fr cs h nx κ=>match fr with
 | .mk fn df kd rd=>match df with
  | []=>fnOf tb fn fun _ rs=>rs en h fun v=>backK kd v cs h nx κ
  | .fn f vs :: ds=>enterK tb f vs true (.mk en [.rt] (.mk fn ds kd rd) :: cs) h nx κ
  | .col o :: ds=>get o h fun x=>(match x with
    | .df true=>put o (.df false) h fun h=>κ (.mk en [.rt] (.mk fn ds kd rd) cs h nx)
    | _=>false)
noncomputable def rgK (tb:Tb) (r:Rg):StF:=match r with
 | .fin s=>fun en k fr cs h nx κ=>s en h nx fun en h nx=>κ (.mk en k fr cs h nx)
 | .call s g d f xs r=>fun en k fr cs h nx κ=>s en h nx fun en h nx=>g en (xs en fun vs=>enterK tb f vs false (.mk en (.wt d r :: k) fr :: cs) h nx κ)
   (d undef en fun en=>κ (.mk en (.rg r :: k) fr cs h nx))
 | .calv s g d x xs r=>fun en k fr cs h nx κ=>s en h nx fun en h nx=>g en (x en fun v=>xs en fun vs=>callvK tb v vs (.mk en (.wt d r :: k) fr :: cs) h nx κ)
   (d undef en fun en=>κ (.mk en (.rg r :: k) fr cs h nx))
 | .dfr s g d x xs r=>fun en k fr cs h nx κ=>s en h nx fun en h nx=>g en (match fr with
    | .mk fn df kd none=>x en fun v=>xs en fun vs=>(match v with
      | .fn f caps=>appK AV vs caps fun vs=>d undef en fun en=>κ (.mk en (.rg r :: k) (.mk fn (.fn f vs :: df) kd none) cs h nx)
      | _=>false)
    | _=>false)
   (d undef en fun en=>κ (.mk en (.rg r :: k) fr cs h nx))
 | .inv s g d tbl x xs r=>fun en k fr cs h nx κ=>s en h nx fun en h nx=>g en (x en fun v=>xs en fun vs=>invK tb tbl v vs (.mk en (.wt d r :: k) fr :: cs) h nx κ)
   (d undef en fun en=>κ (.mk en (.rg r :: k) fr cs h nx))
 | .rcv s g d r=>fun en k fr cs h nx κ=>s en h nx fun en h nx=>g en (match fr with
    | .mk _ _ _ none=>d .ni en fun en=>κ (.mk en (.rg r :: k) fr cs h nx)
    | _=>false)
   (d undef en fun en=>κ (.mk en (.rg r :: k) fr cs h nx))
noncomputable def rfK (tb:Tb) (x:XF) (li:Nat):StF:=fun en k fr cs h nx κ=>match fr with
 | .mk fn df kd rd=>x en fun v=>match rd with
  | none=>newK (.df true) h nx fun r h nx=>newK (.lp .ready .no fn li en r) h nx fun l h nx=>
    callvK tb v [.yl l] (.mk en (.irf l :: k) (.mk fn (.col r :: df) kd rd) :: cs) h nx κ
  | some l₀=>get l₀ h (asLp fun _ _ _ _ _ ds=>newK (.lp .ready .no fn li en ds) h nx fun l h nx=>callvK tb v [.yl l] (.mk en (.irf l :: k) fr :: cs) h nx κ)
noncomputable def exitK (id:Nat):StF:=fun en k fr cs h nx κ=>match exitTo' id k with
 | some k=>κ (.mk en k fr cs h nx)
 | none=>(match fr with
  | .mk _ _ kd rd=>opt Nat (fun o=>endK o (.exit id) kd cs h nx κ) rd)
noncomputable def asBL (κ:Bool→R) (v:AV):R:=match v with
 | .l q _=>br (Nat.beq q 9) (br (κ false) (κ true) false) false
 | .xi _ k _ _=>br (Nat.ble 15 k) (br (or' (Nat.blt k 20) (Nat.ble 23 k)) (br (κ false) (κ true) false) false) false
 | v=>asB κ v
theorem asBL_b (c:Bool) (κ:Bool→R):asBL κ (.b c)=κ c:=rfl
noncomputable def condK (x:XF) (a b:StF):StF:=fun en k fr cs h nx κ=>x en (asBL fun c=>br c (a en k fr cs h nx κ) (b en k fr cs h nx κ))
noncomputable def pushK (t:T) (a:StF):StF:=fun en k=>a en (t :: k)
noncomputable def stBad:StF:=fun _ _ _ _ _ _ _=>false
noncomputable def splK (tb:Tb) (s:SegF) (a:StF):StF:=fun en k fr cs h nx κ=>match tb with | .mk _ _ lv=>br lv (s en h nx fun en h nx=>κ (.mk en k fr cs h nx)) (a en k fr cs h nx κ)
noncomputable def codeK (tb:Tb) (c:C):StF:=
 @C.rec (fun _=>StF) stGo (fun r=>rgK tb r) (fun _ b ia _=>pushK (.c b) ia) (fun x _ _ ia ib=>condK x ia ib) (fun id _ ia=>pushK (.blk id) ia) (fun a ia=>pushK (.lp a) ia)
  (fun x li=>rfK tb x li) (fun id=>exitK id) (fun _ ia=>pushK .sc ia) stBad (leaveK .ret) (fun s _ ia=>splK tb s ia) c
noncomputable def brK:StF:=fun en k fr cs h nx κ=>match fr with
 | .mk _ _ _ rd=>opt Nat (fun o=>get o h (asLp fun st j fn li en' ds=>match st with
   | .ready=>put o (.lp .busy j fn li en' ds) h fun h=>κ (.mk en k fr cs h nx)
   | _=>false)) rd
noncomputable def erfK (o:Nat):StF:=fun en k fr cs h nx κ=>get o h (asLp fun st j fn li en' ds=>
 let go (td:List T):R:=put o (.lp .exhausted j fn li en' ds) h fun h=>put o .dead h fun h=>κ (.mk en td fr cs h nx)
 let on:R:=(match j with | .no=>go k | .ret=>go (.c .ret :: k) | .exit id=>go (.c (.exit id) :: k))
 (match st with | .busy=>false | _=>on))
noncomputable def itemK (tb:Tb) (t:T):StF:=
 @T.rec (fun _=>StF) (fun c=>codeK tb c) (fun r=>rgK tb r) (fun _=>stGo) (fun c=>pushK (.lp c) (codeK tb c)) (fun _ _=>stBad) (retK tb) stGo (fun _=>stBad) (fun o=>erfK o) brK t
noncomputable def todoK (tb:Tb) (td:List T) (en:Env):Fr→List AFr→H→Nat→(ASt→R)→R:=
 @List.rec T (fun _=>Fr→List AFr→H→Nat→(ASt→R)→R) (leaveK .no en []) (fun t k _=>itemK tb t en k) td
noncomputable def stepK (tb:Tb) (s:ASt) (κ:ASt→R):R:=
 @ASt.rec (fun _=>R) (fun en td fr cs h nx=>todoK tb td en fr cs h nx κ) (fun _ _ _=>false) s
noncomputable def run (tb:Tb) (n:Nat):ASt→(ASt→R)→R:=
 @Nat.rec (fun _=>ASt→(ASt→R)→R) (fun s κ=>κ s) (fun _ ih s κ=>stepK tb s fun s=>ih s κ) n
noncomputable def runF (tb:Tb) (n:Nat):ASt→(AV→H→Nat→R)→R:=
 @Nat.rec (fun _=>ASt→(AV→H→Nat→R)→R) (fun _ _=>false) (fun _ ih s κ=>@ASt.rec (fun _=>R) (fun en td fr cs h nx=>todoK tb td en fr cs h nx fun s=>ih s κ) (fun v h nx=>κ v h nx) s) n
end Go.AM

namespace Go.AM
open Go
inductive X where
 | t (t:Nat)
 | c (v:AV)
inductive Gd where
 | n
 | g (t:Nat) (b:Bool)
inductive Ds where
 | n
 | d (t:Nat)
inductive Pt where
 | mk (off size:Nat) (x:X)
inductive I where
 | mv (x:X)
 | sid (x:X)
 | pick (c x y:X)
 | nc (x:X)
 | bin (op:BinOp) (k:Nat) (x y:X)
 | bs (op:BinOp) (x y:X)
 | bb (neg:Bool) (x y:X)
 | eqs (neg:Bool) (g:Bool) (ks:List Nat) (x y:X)
 | eqn (neg:Bool) (tc:Nat) (x y:X)
 | nt (x:X)
 | ng (x:X)
 | cm (x:X)
 | cvi (k:Nat) (x:X)
 | b2s (x:X)
 | s2b (x:X)
 | uptr (x:X)
 | s2a (x:X) (n:Nat)
 | mki (t:Nat) (x:X)
 | mkf (f:Nat) (caps:List X)
 | ext (x:X) (n:Nat)
 | fa (x:X) (off:Nat)
 | fld (x:X) (off n:Nat)
 | fl1 (x:X) (off:Nat)
 | ias (x y:X) (size:Nat)
 | iaa (x y:X) (len size:Nat)
 | ixs (x y:X)
 | lens (x:X)
 | lenl (x:X)
 | lenm (x:X)
 | mm (mx:Bool) (xs:List X)
 | ld (x:X) (n:Nat)
 | ld1 (x:X)
 | st (x y:X) (n:Nat)
 | al (z:List AV) (n:Nat)
 | bx (x:X)
 | bxs (t:Nat) (x:X)
 | bld (z:List AV) (ps:List Pt)
 | bsl (z:List AV) (n:Nat) (len:Nat) (ps:List Pt)
 | mks (x y:X) (size:Nat) (z:List AV) (bytes:Nat)
 | mkm
 | lkp (g:Bool) (ks:List Nat) (x k:X) (ok:Bool) (z:AV)
 | mpu (g:Bool) (ks:List Nat) (x k v:X)
 | mpe (g:Bool) (ks:List Nat) (x k:X) (z:AV)
 | ens (x s v:X)
 | slc (x:X) (lo hi mx:Option X) (size:Nat)
 | slr (x:X) (lo hi mx:Option X) (size:Nat)
 | sls (x:X) (lo hi:Option X)
 | sla (x:X) (lo hi mx:Option X) (len size:Nat)
 | apn (x y:X) (size bytes:Nat)
 | apz (x y:X) (size bytes:Nat) (z:List AV)
 | clr (x:X) (z:List AV)
 | msh (x:X)
 | ety (x:X)
 | cpy (x y:X) (size:Nat)
 | dlt (g:Bool) (ks:List Nat) (x k:X)
 | ald (k:Nat) (x:X)
 | ast (x y:X)
 | acs (k:Nat) (x y z:X)
 | aad (k:Nat) (x y:X)
 | als (t:Nat) (z:List AV)
 | cvp (ok:List (Nat × Nat × Nat)) (x:X)
 | nes (x:X)
 | apb (t bytes:Nat) (x y:X)
 | usd (x:X)
 | ust (t:Nat) (x y:X)
 | mnz (t:Nat) (x:X)
 | cnt (x y:X)
 | idx (x y:X)
 | cpc (x:X)
 | cpn (x y:X)
 | nop
 | nopp (x:X)
 | bad
 | rng (x:X)
 | nxt (x:X)
inductive DR where
 | nil
 | op (g:Gd) (d:Ds) (i:I) (r:DR)
 | call (g:Gd) (d:Ds) (f:Nat) (xs:List X) (r:DR)
 | calv (g:Gd) (d:Ds) (x:X) (xs:List X) (r:DR)
 | dfr (g:Gd) (d:Ds) (x:X) (xs:List X) (r:DR)
 | rcv (g:Gd) (d:Ds) (r:DR)
 | inv (g:Gd) (d:Ds) (tbl:List (Nat × Nat)) (x:X) (xs:List X) (r:DR)
 | rck (g:Gd) (t:Nat) (i:I) (r:DR)
inductive DC where
 | skip
 | rg (r:DR)
 | seq (a b:DC)
 | cond (x:X) (a b:DC)
 | blk (id:Nat) (a:DC)
 | loop (a:DC)
 | rf (x:X) (li:Nat)
 | exit (id:Nat)
 | sc (a:DC)
 | bad
 | ret
inductive DS where
 | t (t:Nat)
 | c (t:Nat) (n:Nat)
 | c1 (t:Nat)
def kn:IntKind→Nat
 | .i8=>0 | .i16=>1 | .i32=>2 | .i64=>3 | .u8=>4 | .u16=>5 | .u32=>6 | .u64=>7
def omap {α β:Type} (f:α→Option β):List α→Option (List β)
 | []=>some []
 | x :: r=>match f x,omap f r with
  | some y,some s=>some (y :: s)
  | _,_=>none
def one:AV→Bool
 | .ag _=>false
 | .tu _=>false
 | _=>true
def ofV:Nat→Value→Option AV
 | 0,_=>none
 | n + 1,v=>match v with
  | .bool b=>some (.b b)
  | .int k i=>some (.i (kn k) i)
  | .string s=>some (.s (s.data.toList.map (·.toNat)))
  | .pointer none=>some .np
  | .slice none 0 0=>some .ns
  | .map none=>some .nm
  | .nilFunc=>some .nf
  | .nilIface=>some .ni
  | .iface t v=>(ofV n v).map (.ifc t)
  | .agg cs=>(match omap (ofV n) cs.toList with | some l=>if l.all one then some (.ag l) else none | none=>none)
  | .tuple cs=>(omap (ofV n) cs.toList).map .tu
  | _=>none
def cellsA:AV→List AV
 | .ag l=>l
 | v=>[v]
section
variable (P:Program) (nt:Nat)
def trX:Operand→Option X
 | .tmp t=>if t < 512 then some (.t t) else none
 | .const v=>(ofV 40 v).map .c
 | .func f=>some (.c (.fn f []))
 | .global _=>none
def trXs (xs:Array Operand):Option (List X):=omap trX xs.toList
def sizeT (t:TypeId):Option Nat:=(P.info? t).map (·.size)
def bytesT (t:TypeId):Option Nat:=(P.info? t).map (·.bytes)
def zeroT (t:TypeId):Option (List AV):=match P.info? t with
 | some i=>match i.zero with
  | some v=>match ofV 40 v with
   | some x=>if (cellsA x).all one then some (cellsA x) else none
   | none=>none
  | none=>none
 | none=>none
def zeroV (t:TypeId):Option AV:=match P.info? t with
 | some i=>match i.zero with
  | some v=>ofV 40 v
  | none=>none
 | none=>none
def aggT (t:TypeId):Option Bool:=(P.underlying t).map fun | .struct _ | .array _ _=>true | _=>false
def flatC (t:TypeId):Option Nat:=match P.underlying t with
 | some (.int k)=>some (kn k)
 | some .string=>some 8
 | some .bool=>some 9
 | _=>none
def flatFs:List Field→Nat→Option (List Nat)
 | [],_=>some []
 | f :: r,n=>if f.name != "_" && Nat.beq f.offset n then (match flatC P f.type,flatFs r (n + 1) with
   | some c,some cs=>some (c :: cs)
   | _,_=>none) else none
def flatT (t:TypeId):Option (Bool × List Nat):=match P.underlying t with
 | some (.struct fs)=>if P.stoodInHeld t=true then none else if P.eqGuardType P.depth t=true then none else (flatFs P fs.toList 0).map fun ks=>(true,ks)
 | some (.array n e)=>if P.eqGuardType P.depth t=true then none else if sizeT P e=some 1 then (flatC P e).map fun c=>(true,List.replicate n c) else none
 | _=>(flatC P t).map fun c=>(false,[c])
def flatF2:List Field→Nat→Option (List Nat)
 | [],_=>some []
 | f :: r,n=>if f.name != "_" && Nat.beq f.offset n then (match flatC P f.type with
   | some c=>(flatF2 r (n + 1)).map (c :: ·)
   | none=>(match P.underlying f.type with
    | some (.struct gs)=>if P.stoodInHeld f.type=true then none else (match flatFs P gs.toList 0,sizeT P f.type with
      | some ks,some m=>if ks.length=m then (flatF2 r (n + m)).map (ks ++ ·) else none
      | _,_=>none)
    | _=>none)) else none
def flatT2 (t:TypeId):Option (List Nat):=match flatT P t with
 | some (true,ks)=>some ks
 | some (false,_)=>none
 | none=>(match P.underlying t with
  | some (.struct fs)=>if P.stoodInHeld t=true then none else if P.eqGuardType P.depth t=true then none else flatF2 P fs.toList 0
  | _=>none)
def optX:Option Operand→Option (Option X)
 | none=>some none
 | some x=>(trX x).map some
def isU8 (t:TypeId):Bool:=match P.underlying t with | some (.int .u8)=>true | _=>false
def parts (place:Nat→Option (Nat × Nat)) (ps:List (Nat × Operand)):Option (List Pt):=
 omap (fun q=>match place q.1,trX q.2 with
  | some (off,size),some x=>some (.mk off size x)
  | _,_=>none) ps
def rep {α:Type}:Nat→List α→List α
 | 0,_=>[]
 | n + 1,l=>l ++ rep n l
def trExt (name:String) (xs:List X):I:=
 match xs with
 | []=>if name == "internal/race.Disable" then .nop else if name == "internal/race.Enable" then .nop else .bad
 | [x]=>if name == "sync/atomic.LoadUint32" then .ald (kn .u32) x else if name == "sync/atomic.LoadInt32" then .ald (kn .i32) x
  else if name == "sync/atomic.LoadInt64" then .ald (kn .i64) x else if name == "sync/atomic.LoadUint64" then .ald (kn .u64) x
  else if name == "internal/race.Acquire" then .nopp x else if name == "internal/race.Release" then .nopp x else if name == "internal/race.ReleaseMerge" then .nopp x else if name == "internal/abi.NoEscape" then .nes x else .bad
 | [x,y]=>if name == "sync/atomic.StoreUint32" then .ast x y else if name == "sync/atomic.StoreInt32" then .ast x y else if name == "sync/atomic.StoreInt64" then .ast x y
  else if name == "sync/atomic.AddInt32" then .aad (kn .i32) x y else if name == "sync/atomic.AddInt64" then .aad (kn .i64) x y else if name == "sync/atomic.AddUint32" then .aad (kn .u32) x y else if name == "internal/bytealg.CountString" then .cnt x y else if name == "internal/bytealg.IndexByteString" then .idx x y else .bad
 | [x,y,z]=>if name == "sync/atomic.CompareAndSwapInt32" then .acs (kn .i32) x y z else if name == "sync/atomic.CompareAndSwapInt64" then .acs (kn .i64) x y z
  else if name == "sync/atomic.CompareAndSwapUint32" then .acs (kn .u32) x y z else .bad
 | _=>.bad
def bad {α:Type} (d:α):Option α→α
 | some x=>x
 | none=>d
def map2 {α β γ:Type} (f:α→β→γ):Option α→Option β→Option γ
 | some a,some b=>some (f a b)
 | _,_=>none
def map3 {α β γ δ:Type} (f:α→β→γ→δ):Option α→Option β→Option γ→Option δ
 | some a,some b,some c=>some (f a b c)
 | _,_,_=>none
def posA (p:String):Bool:=p == "builder.go:114" || p == "builder.go:97"
def posC (p:String):Bool:=p == "builder.go:68"
def selfT (t:TypeId):Bool:=match P.underlying t with
 | some (.struct fs)=>if fs.size == 2 then (match fs[0]?,fs[1]? with
   | some f,some g=>(match P.underlying f.type,P.underlying g.type with | some (.pointer e),some (.slice b)=>e == t && isU8 P b | _,_=>false)
   | _,_=>false) else false
 | _=>false
def holdT (t:TypeId):Bool:=match P.underlying t with
 | some (.struct fs)=>selfT P t || fs.toList.any fun f=>selfT P f.type
 | _=>false
def pinL (u:TypeId):List (Nat × Nat × Nat):=
 ((List.range P.types.size).flatMap fun t=>match P.underlying t,sizeT P t with
   | some (.struct fs),some n=>if t == u then [(t,0,n)] else fs.toList.filterMap fun f=>if f.type == u then some (t,f.offset,n) else none
   | _,_=>[]).filter fun q=>liesAt P P.depth q.1 (q.2.2 / P.cellsOf q.1) q.2.1 u 1
def mnzI (fn:Func) (xs:List X):I:=match xs,fn.resultTypes.toList with
 | [x],[t]=>(match P.underlying t with | some (.slice e)=>.mnz e x | _=>.bad)
 | _,_=>.bad
def trB (ps:String) (b:Builtin) (ts:List TypeId) (xs:List X):I:=
 match b,ts,xs with
 | .len,[t],[x]=>(match P.underlying t with | some .string=>.lens x | some (.slice _)=>.lenl x | some (.map _ _)=>.lenm x | _=>.bad)
 | .min,_,_=>.mm false xs
 | .max,_,_=>.mm true xs
 | .append,[t,u],[x,y]=>(match P.underlying t,P.underlying u with
   | some (.slice e),some (.slice _)=>bad .bad (map3 (fun s b z=>if posA ps then (if s == 1 then if z.length == 1 then .apb e b x y else .bad else .bad) else if z.length == s then .apn x y s b else .bad) (sizeT P e) (bytesT P e) (zeroT P e))
   | some (.slice e),some .string=>bad .bad (map3 (fun s b z=>if posA ps then (if s == 1 then if z.length == 1 then .apb e b x y else .bad else .bad) else if z.length == s then .apn x y s b else .bad) (sizeT P e) (bytesT P e) (zeroT P e))
   | some (.slice e),some (.int _)=>bad .bad (map3 (fun s b z=>if z.length == s then .apz x y s b z else .bad) (sizeT P e) (bytesT P e) (zeroT P e))
   | _,_=>.bad)
 | .clear,[t],[x]=>(match P.underlying t with
   | some (.slice e)=>bad .bad ((zeroT P e).map (.clr x))
   | _=>.bad)
 | .copy,t :: _,[x,y]=>(match P.underlying t with
   | some (.slice e)=>bad .bad ((sizeT P e).map fun s=>if posC ps then .cpn x y else .cpy x y s)
   | _=>.bad)
 | .cap,[t],[x]=>(match P.underlying t with | some (.slice _)=>.cpc x | _=>.bad)
 | .unsafeSliceData,_,[x]=>.usd x
 | .unsafeString,[t,_],[x,y]=>(match P.underlying t with | some (.pointer e)=>(match sizeT P e with | some s=>if s == 1 then .ust e x y else .bad | none=>.bad) | _=>.bad)
 | .delete,t :: _,[x,k]=>(match P.underlying t with
   | some (.map kt _)=>(match flatT P kt with | some (g,ks)=>.dlt g ks x k | none=>.bad)
   | _=>.bad)
 | _,_,_=>.bad
def isC:Operand→Bool
 | .const _=>true
 | _=>false
def trBin (op:BinOp) (t:TypeId) (x y:Operand):I:=
 bad .bad (map2 (fun a b=>match P.underlying t with
  | some (.int k)=>.bin op (kn k) a b
  | some .string=>.bs op a b
  | some .bool=>(match op with | .eql=>.bb false a b | .neq=>.bb true a b | _=>.bad)
  | some (.struct _)=>(match op with
    | .eql=>(match flatT2 P t with | some ks=>.eqs false true ks a b | none=>.bad)
    | .neq=>(match flatT2 P t with | some ks=>.eqs true true ks a b | none=>.bad)
    | _=>.bad)
  | some (.array _ _)=>(match op with
    | .eql=>(match flatT P t with | some (g,ks)=>.eqs false g ks a b | none=>.bad)
    | .neq=>(match flatT P t with | some (g,ks)=>.eqs true g ks a b | none=>.bad)
    | _=>.bad)
  | some (.interface _)=>if isC x || isC y then (match op with | .eql=>.eqn false 4 a b | .neq=>.eqn true 4 a b | _=>.bad) else .bad
  | some (.pointer e)=>if bad 0 (sizeT P e) == 0 then .bad else (match op with | .eql=>.eqn false 0 a b | .neq=>.eqn true 0 a b | _=>.bad)
  | some (.slice _)=>(match op with | .eql=>.eqn false 1 a b | .neq=>.eqn true 1 a b | _=>.bad)
  | some (.map _ _)=>(match op with | .eql=>.eqn false 2 a b | .neq=>.eqn true 2 a b | _=>.bad)
  | some (.func _ _ _)=>(match op with | .eql=>.eqn false 3 a b | .neq=>.eqn true 3 a b | _=>.bad)
  | _=>.bad) (trX x) (trX y))
def trSl (dr:Bool) (t:TypeId) (x:Operand) (lo hi mx:Option Operand):Option I:=match P.underlying t with
   | some (.slice e)=>(match trX x,sizeT P e with
     | some x,some s=>map3 (fun l h m=>if dr then .slr x l h m s else .slc x l h m s) (optX lo) (optX hi) (optX mx)
     | _,_=>none)
   | some .string=>(match mx with | none=>map3 .sls (trX x) (optX lo) (optX hi) | some _=>none)
   | some (.array n e)=>(match trX x,sizeT P e with
     | some x,some s=>map3 (fun l h m=>.sla x l h m n s) (optX lo) (optX hi) (optX mx)
     | _,_=>none)
   | _=>none
def trI (dr:Bool) (ps:String) (op:Op):I:=
 match op with
 | .move x=>bad .bad ((trX x).map .mv)
 | .assign x=>bad .bad ((trX x).map .mv)
 | .pick c x y=>bad .bad (map3 .pick (trX c) (trX x) (trX y))
 | .alloc e=>bad .bad ((zeroT P e).map fun z=>if holdT P e then .als e z else .al z z.length)
 | .box e x=>bad .bad ((trX x).map fun x=>if holdT P e then .bxs e x else .bx x)
 | .build t ps=>bad .bad (match P.underlying t,zeroT P t with
   | some (.struct fs),some z=>if fs.toList.all (fun f=>(sizeT P f.type).isSome) then (parts (fun i=>match fs[i]? with | some f=>(sizeT P f.type).map (fun s=>(f.offset,s)) | none=>none) ps.toList).map (.bld z) else none
   | some (.array _ e),some z=>if (sizeT P e).isSome then (parts (fun i=>(sizeT P e).map (fun s=>(i * s,s))) ps.toList).map (.bld z) else none
   | _,_=>none)
 | .buildSlice t len ps=>bad .bad (match P.underlying t with
   | some (.slice e)=>(match zeroT P e,sizeT P e with
     | some z,some s=>if z.length == s && decide (len * s≤2 ^ 24) then (parts (fun i=>some (i * s,s)) ps.toList).map (.bsl (rep len z) (len * s) len) else none
     | _,_=>none)
   | _=>none)
 | .load t x=>bad .bad (map3 (fun x s g=>if g then .ld x s else .ld1 x) (trX x) (sizeT P t) (aggT P t))
 | .store t x y=>bad .bad (map3 .st (trX x) (trX y) (sizeT P t))
 | .nilCheck x=>bad .bad ((trX x).map .nc)
 | .binOp op t x y _=>trBin P op t x y
 | .unOp op _ x=>bad .bad ((trX x).map fun x=>match op with | .not=>.nt x | .neg=>.ng x | .xor=>.cm x | .plus=>.bad)
 | .convert s d x=>bad .bad ((trX x).map fun x=>match P.underlying s,P.underlying d with
   | some (.int _),some (.int k)=>.cvi (kn k) x
   | some (.slice e),some .string=>if isU8 P e then .b2s x else .bad
   | some .string,some (.slice e)=>if isU8 P e then .s2b x else .bad
   | some .string,some .string=>.sid x
   | some (.slice e),some (.slice _)=>if s == d && isU8 P e then .msh x else .bad
   | some (.pointer e),some .unsafePointer=>if bad 0 (sizeT P e) == 0 then .bad else .uptr x
   | some .unsafePointer,some (.pointer u)=>if (P.info? u).isSome then .cvp (pinL P u) x else .bad
   | _,_=>.bad)
 | .sliceToArrayPointer t x=>bad .bad (match P.underlying t with | some (.array n _)=>(trX x).map fun x=>.s2a x n | _=>none)
 | .makeInterface t x=>bad .bad ((trX x).map fun x=>match P.underlying t with | some (.interface _)=>.bad | some _=>.mki t x | none=>.bad)
 | .makeFunc (.func f) first cs=>if first.size == 0 then bad .bad ((trXs cs).map (.mkf f)) else .bad
 | .makeMap _ none=>.mkm
 | .makeSlice t x y=>bad .bad (match P.underlying t with
   | some (.slice e)=>(match zeroT P e,sizeT P e with
     | some z,some s=>if z.length == s && decide (0 < s) then map3 (fun x y b=>.mks x y s z b) (trX x) (trX y) (bytesT P e) else none
     | _,_=>none)
   | _=>none)
 | .slice t x lo hi mx=>(match hi,mx with | none,some _=>.bad | _,_=>bad .bad (trSl P dr t x lo hi mx))
 | .fieldAddr t x f=>bad .bad (match P.underlying t with
   | some (.struct fs)=>(match fs[f]? with
     | some f=>if bad 0 (sizeT P f.type) == 0 then none else (trX x).map (.fa · f.offset)
     | none=>none)
   | _=>none)
 | .field t x f=>bad .bad (match P.underlying t with
   | some (.struct fs)=>(match fs[f]? with
     | some f=>map3 (fun x s g=>if g then .fld x f.offset s else .fl1 x f.offset) (trX x) (sizeT P f.type) (aggT P f.type)
     | none=>none)
   | _=>none)
 | .indexAddr t x y=>bad .bad (match P.underlying t with
   | some (.slice e)=>map3 .ias (trX x) (trX y) (sizeT P e)
   | some (.array n e)=>map3 (fun x y s=>.iaa x y n s) (trX x) (trX y) (sizeT P e)
   | _=>none)
 | .index t x y=>bad .bad (match P.underlying t with
   | some .string=>map2 .ixs (trX x) (trX y)
   | _=>none)
 | .lookup t x k ok=>bad .bad (match P.underlying t with
   | some (.map kt e)=>(match flatT P kt with | some (g,ks)=>map3 (fun x k z=>.lkp g ks x k ok z) (trX x) (trX k) (zeroV P e) | none=>none)
   | _=>none)
 | .mapUpdate t m k v=>bad .bad (match P.underlying t with
   | some (.map kt _)=>(match flatT P kt with | some (g,ks)=>map3 (.mpu g ks) (trX m) (trX k) (trX v) | none=>none)
   | _=>none)
 | .insert t m k v=>bad .bad (match P.underlying t with
   | some (.map kt _)=>(match flatT P kt with | some (g,ks)=>map3 (.mpu g ks) (trX m) (trX k) (trX v) | none=>none)
   | _=>none)
 | .mapEntry t m k=>bad .bad (match P.underlying t with
   | some (.map kt e)=>(match flatT P kt with | some (g,ks)=>map3 (.mpe g ks) (trX m) (trX k) (zeroV P e) | none=>none)
   | _=>none)
 | .entryStore _ m s v=>bad .bad (map3 .ens (trX m) (trX s) (trX v))
 | .range t x=>bad .bad (match P.underlying t with | some (.map _ _)=>(trX x).map .rng | _=>none)
 | .entry x=>bad .bad ((trX x).map .ety)
 | .next x s=>if s then .bad else bad .bad ((trX x).map .nxt)
 | .extract x n=>bad .bad ((trX x).map (.ext · n))
 | .call c=>(match c.callee,trXs c.args with
   | .builtin b,some xs=>trB P ps b c.argTypes.toList xs
   | .value (.func f),some xs=>(match P.funcs[f]? with | some fn=>if fn.body.isNone && (fn.origin == fn.name || fn.origin == "") then (if fn.name == "internal/bytealg.MakeNoZero" then mnzI P fn xs else trExt fn.name xs) else .bad | none=>.bad)
   | _,_=>.bad)
 | _=>.bad
def trD (o:Oper):Option Ds:=match o.dst with | some d=>if d < nt then some (.d d) else none | none=>some .n
def trG (ops:Array Oper) (o:Oper):Option Gd:=match o.guard with
 | none=>some .n
 | some (j,b)=>match (ops[j]?).bind (·.dst) with
  | some d=>if d < 512 then some (.g d b) else none
  | none=>none
def hasBody (f:FuncId):Bool:=match P.funcs[f]? with | some fn=>fn.body.isSome && !(fn.name == "runtime.NumGoroutine") | none=>false
inductive DH where
 | op (i:I)
 | call (f:Nat) (xs:List X)
 | calv (x:X) (xs:List X)
 | dfr (x:X) (xs:List X)
 | rcv
 | inv (tbl:List (Nat × Nat)) (x:X) (xs:List X)
 | bad
def mrOk (t:TypeId) (pr:Bool):Bool:=match P.underlying t with | some (.pointer _)=>pr | some _=>!pr | none=>false
def mtab (name:String):List (Nat × Nat):=(List.range P.types.size).filterMap fun t=>match P.info? t with
 | some i=>(match i.methods.find? (·.name == name) with
   | some m=>(match m.func with
     | some (f,pr)=>if m.path.isEmpty && hasBody P f && mrOk P t pr then some (t,f) else none
     | none=>none)
   | none=>none)
 | none=>none
def trH (dr:Bool) (ps:String) (op:Op):DH:=match op with
 | .call c=>(match c.callee,trXs c.args with
  | .builtin .recover,some []=>.rcv
  | .value (.func f),some xs=>if hasBody P f then .call f xs else .op (trI P dr ps op)
  | .value (.tmp t),some xs=>if t < 512 then .calv (.t t) xs else .bad
  | .invoke x name,some xs=>(match trX x with | some x=>.inv (mtab P name) x xs | none=>.bad)
  | _,_=>.op (trI P dr ps op))
 | .defer c=>(match c.callee,trXs c.args with
  | .value (.func f),some xs=>if hasBody P f then .dfr (.c (.fn f [])) xs else .bad
  | .value (.tmp t),some xs=>if t < 512 then .dfr (.t t) xs else .bad
  | _,_=>.bad)
 | op=>.op (trI P dr ps op)
def putH (g:Gd) (d:Ds) (h:DH) (r:DR):DR:=match h with
 | .op i=>.op g d i r
 | .call f xs=>.call g d f xs r
 | .calv x xs=>.calv g d x xs r
 | .dfr x xs=>.dfr g d x xs r
 | .rcv=>.rcv g d r
 | .inv tbl x xs=>.inv g d tbl x xs r
 | .bad=>.op .n .n .bad .nil
def trO (dr:Bool) (ops:Array Oper) (o:Oper) (r:DR):DR:=
 match trG ops o,trD nt o with
 | some g,some d=>putH g d (trH P dr o.pos o.op) r
 | _,_=>.op .n .n .bad .nil
def trOs (ops:Array Oper):List Oper→DR
 | []=>.nil
 | o :: r=>trO P nt false ops o (trOs ops r)
def clsI:I→Nat
 | .mv _ | .sid _ | .pick .. | .nc _ | .bin .. | .bs .. | .bb .. | .fl1 .. | .eqs .. | .nt _ | .ng _ | .cm _ | .cvi .. | .mki .. | .mkf .. | .ext .. | .fa .. | .fld .. | .ias .. | .iaa .. | .ixs .. | .mm .. | .bld .. | .sls .. | .sla .. | .s2a ..=>0
 | .ld .. | .ld1 _ | .lens _ | .lenl _ | .lenm _ | .lkp .. | .b2s _ | .slr ..=>1
 | .al .. | .als .. | .bx .. | .bxs .. | .bsl .. | .mks ..=>2
 | _=>3
def clsH:DH→Nat
 | .op i=>clsI i
 | _=>3
def cls (o:Oper):Nat:=clsH (trH P true o.pos o.op)
def memb (n:Nat):List Nat→Bool
 | []=>false
 | m :: r=>Nat.beq m n || memb n r
def firstBy (f:Nat→Bool):List Nat→Option Nat
 | []=>none
 | m :: r=>if f m then some m else firstBy f r
def orderOf (ops:Array Oper) (b:Array Nat):Nat→List Nat→List (Bool × Nat)→Option (List (Bool × Nat))
 | 0,_,acc=>some acc.reverse
 | n + 1,done,acc=>
  let ready (i:Nat):Bool:=!(memb i done) && (match ops[i]? with | some o=>o.after.toList.all fun e=>!Region.binds .any e || memb e.on done | none=>false)
  match firstBy (fun i=>ready i && (match ops[i]? with | some o=>cls P o < 3 | none=>false)) (List.range ops.size) with
  | some i=>orderOf ops b n (i :: done) ((false,i) :: acc)
  | none=>match firstBy ready (List.range ops.size) with
   | none=>some acc.reverse
   | some i=>
    let again:=done.reverse.filter fun j=>!((b.getD i 0).testBit j) && (match ops[j]? with | some o=>cls P o == 1 | none=>false)
    orderOf ops b n (i :: done) ((again.map fun j=>(true,j)).reverse ++ ((false,i) :: acc))
def rdX:X→List Nat
 | .t t=>[t]
 | .c _=>[]
def rdO:Option X→List Nat
 | some x=>rdX x
 | none=>[]
def rdI:I→List Nat
 | .mv x | .sid x | .nc x | .nt x | .ng x | .cm x | .cvi _ x | .b2s x | .s2b x | .uptr x | .s2a x _ | .mki _ x | .ext x _ | .fa x _ | .fld x _ _ | .fl1 x _ | .lens x | .lenl x | .lenm x | .ld x _ | .ld1 x | .bx x | .bxs _ x | .ald _ x | .nopp x | .rng x | .nxt x | .clr x _ | .msh x | .ety x | .cvp _ x | .nes x | .usd x | .mnz _ x | .cpc x=>rdX x
 | .pick c x y=>rdX c ++ rdX x ++ rdX y
 | .bin _ _ x y | .bs _ x y | .bb _ x y | .eqs _ _ _ x y | .eqn _ _ x y | .ias x y _ | .iaa x y _ _ | .ixs x y | .st x y _ | .mks x y _ _ _ | .lkp _ _ x y _ _ | .mpe _ _ x y _ | .apn x y _ _ | .apz x y _ _ _ | .cpy x y _ | .dlt _ _ x y | .ast x y | .aad _ x y | .apb _ _ x y | .ust _ x y | .cnt x y | .idx x y | .cpn x y=>rdX x ++ rdX y
 | .mkf _ xs | .mm _ xs=>xs.flatMap rdX
 | .bld _ ps | .bsl _ _ _ ps=>ps.flatMap fun | .mk _ _ x=>rdX x
 | .mpu _ _ x k v=>rdX x ++ rdX k ++ rdX v
 | .ens x k v=>rdX x ++ rdX k ++ rdX v
 | .acs _ x k v=>rdX x ++ rdX k ++ rdX v
 | .slc x l h m _=>rdX x ++ rdO l ++ rdO h ++ rdO m
 | .slr x l h m _=>rdX x ++ rdO l ++ rdO h ++ rdO m
 | .sls x l h=>rdX x ++ rdO l ++ rdO h
 | .sla x l h m _ _=>rdX x ++ rdO l ++ rdO h ++ rdO m
 | .al .. | .als .. | .mkm | .nop | .bad=>[]
def rdH:DH→List Nat
 | .op i=>rdI i
 | .call _ xs=>xs.flatMap rdX
 | .calv x xs=>rdX x ++ xs.flatMap rdX
 | .dfr x xs=>rdX x ++ xs.flatMap rdX
 | .rcv=>[]
 | .inv _ x xs=>rdX x ++ xs.flatMap rdX
 | .bad=>[]
def rdG:Option Gd→List Nat
 | some (.g t _)=>[t]
 | _=>[]
def rdOf (ops:Array Oper) (o:Oper):List Nat:=rdH (trH P true o.pos o.op) ++ rdG (trG ops o)
def fitL (ops:Array Oper) (b:Array Nat) (done:List Nat) (i:Nat):Bool:=match ops[i]? with
 | some o=>!memb i done && (trG ops o).isSome && (trD nt o).isSome && ((rdOf P ops o).all fun t=>Nat.blt t 512) && (o.after.toList.all fun e=>!Region.binds .any e || memb e.on done) &&
   (List.range ops.size).all fun j=>match ops[j]? with
     | some o'=>(match o'.dst with
      | some d=>(!memb d (rdOf P ops o) || (b.getD i 0).testBit j || (b.getD j 0).testBit i) && (Nat.beq i j || match o.dst with | some d'=>!Nat.beq d' d | none=>true)
      | none=>true)
     | none=>true
 | none=>false
def fitB (ops:Array Oper) (b:Array Nat) (i:Nat):Bool:=match ops[i]? with
 | some o=>(List.range ops.size).all fun j=>match ops[j]? with
   | some o'=>(match o'.dst with
    | some d=>!memb d (rdOf P ops o) || (b.getD i 0).testBit j
    | none=>true)
   | none=>true
 | none=>false
def isNil {α:Type}:List α→Bool
 | []=>true
 | _=>false
def clsAt (ops:Array Oper) (i:Nat):Nat:=match ops[i]? with | some o=>cls P o | none=>3
def okL (ops:Array Oper) (b:Array Nat):List (Bool × Nat)→List Nat→List Nat→Bool
 | [],done,st=>isNil st && (List.range ops.size).all fun i=>memb i done
 | (true,j) :: l,done,st=>memb j done && Nat.beq (clsAt P ops j) 1 && fitB P ops b j && okL ops b l done (st.filter fun k=>!Nat.beq k j)
 | (false,i) :: l,done,st=>fitL P nt ops b done i &&
     (if clsAt P ops i < 3 then okL ops b l (i :: done) st
      else isNil st && (l.all fun q=>q.1 || (b.getD q.2 0).testBit i) && okL ops b l (i :: done) (done.filter fun j=>Nat.beq (clsAt P ops j) 1 && !((b.getD i 0).testBit j)))
def trDr (ops:Array Oper):List (Bool × Nat)→DR
 | []=>.nil
 | (false,i) :: r=>(match ops[i]? with | some o=>trO P nt true ops o (trDr ops r) | none=>.op .n .n .bad .nil)
 | (true,i) :: r=>(match ops[i]? with
     | some o=>(match trG ops o,o.dst with
      | some g,some d=>if d < nt then .rck g d (trI P true o.pos o.op) (trDr ops r) else .op .n .n .bad .nil
      | _,_=>.op .n .n .bad .nil)
     | none=>.op .n .n .bad .nil)
def frcN {α:Type}:Nat→(Nat→α)→α
 | 0,κ=>κ 0
 | n + 1,κ=>κ (n + 1)
def frcB {α:Type}:Bool→(Bool→α)→α
 | false,κ=>κ false
 | true,κ=>κ true
def frcL {α:Type}:List (Bool × Nat)→(List (Bool × Nat)→α)→α
 | [],κ=>κ []
 | (c,n) :: l,κ=>frcB c fun c=>frcN n fun n=>frcL l fun l=>κ ((c,n) :: l)
theorem frcL_eq {α:Type}:∀ (l:List (Bool × Nat)) (κ:List (Bool × Nat)→α),frcL l κ=κ l
 | [],_=>rfl
 | (c,n) :: l,κ=>by
  have h1:∀ κ:Bool→α,frcB c κ=κ c:=fun κ=>by cases c<;>rfl
  have h2:∀ κ:Nat→α,frcN n κ=κ n:=fun κ=>by cases n<;>rfl
  simp only [frcL,h1,h2,frcL_eq l]
def trR (ops:Array Oper) (draw:Bool):DR:=
 if draw then
  match orderOf P ops (Region.before ops) (ops.size + 1) [] [] with
   | some l=>frcL l fun l=>if okL P nt ops (Region.before ops) l [] [] then trDr P nt ops l else .op .n .n .bad .nil
   | none=>.op .n .n .bad .nil
 else trOs P nt ops ops.toList
def nrf:Code→Nat
 | .seq a b=>nrf a + nrf b
 | .cond _ a b=>nrf a + nrf b
 | .block _ a=>nrf a
 | .loop a=>nrf a
 | .scope a=>nrf a
 | .rangeFunc _ _ a b=>1 + nrf a + nrf b
 | _=>0
def trC:Nat→Code→DC
 | _,.skip=>.skip
 | _,.region _ ops draw=>.rg (trR P nt ops draw)
 | k,.seq a b=>.seq (trC k a) (trC (k + nrf a) b)
 | k,.cond x a b=>(match trX x with | some x=>.cond x (trC k a) (trC (k + nrf a) b) | none=>.bad)
 | k,.block id a=>.blk id (trC k a)
 | k,.loop a=>.loop (trC k a)
 | k,.rangeFunc f _ _ _=>(match trX f with | some x=>.rf x k | none=>.bad)
 | _,.exit id=>.exit id
 | k,.scope a=>.sc (trC k a)
 | _,.label _=>.skip
 | _,.goto _=>.bad
 | _,.ret=>.ret
 | _,.refuse _=>.bad
def rfs:Nat→Code→List (Nat × Array Nat × Code × Code)
 | k,.seq a b=>rfs k a ++ rfs (k + nrf a) b
 | k,.cond _ a b=>rfs k a ++ rfs (k + nrf a) b
 | k,.block _ a=>rfs k a
 | k,.loop a=>rfs k a
 | k,.scope a=>rfs k a
 | k,.rangeFunc _ ps a b=>(k,ps,a,b) :: (rfs (k + 1) a ++ rfs (k + 1 + nrf a) b)
 | _,_=>[]
end
def trRs (P:Program):ResultVar→DS
 | .tmp t=>.t t
 | .cell t ty=>if aggT P ty == some true then .c t (bad 0 (sizeT P ty)) else .c1 t
noncomputable def dX:X→XF
 | .t t=>xT t
 | .c v=>xC v
noncomputable def dXs:List X→XsF
 | []=>xsN
 | x :: r=>xsC (dX x) (dXs r)
noncomputable def dB:Option X→BdF
 | none=>bNo
 | some x=>bX (dX x)
noncomputable def dP:List Pt→PtF
 | []=>pNil
 | .mk off size x :: r=>pPt off size (dX x) (dP r)
noncomputable def dBin (op:BinOp) (k:Nat) (x y:XF):OpF:=match op with
 | .add=>oAd k x y
 | .sub=>oAr arSub k x y
 | .mul=>oLa arMul laMul k x y
 | .quo=>oQuo k x y
 | .rem=>oRem k x y
 | .and=>oAnd k x y
 | .or=>oLa arOr laOr k x y
 | .xor=>oLa arXor laXor k x y
 | .andNot=>oAr arAnn k x y
 | .shl=>oShl k x y
 | .shr=>oShr k x y
 | .eql=>oEq false k x y
 | .neq=>oEq true k x y
 | .lss=>oLt k x y
 | .leq=>oLe k x y
 | .gtr=>oGt k x y
 | .geq=>oGe k x y
noncomputable def dBs (op:BinOp) (x y:XF):OpF:=match op with
 | .add=>oCat x y
 | .eql=>oSQ false x y
 | .neq=>oSQ true x y
 | .lss=>oSS sLt x y
 | .leq=>oSS sLe x y
 | .gtr=>oSS sGt x y
 | .geq=>oSS sGe x y
 | _=>oBad
noncomputable def dI:I→OpF
 | .mv x=>oMv (dX x)
 | .sid x=>oSid (dX x)
 | .pick c x y=>oPick (dX c) (dX x) (dX y)
 | .nc x=>oNc (dX x)
 | .bin op k x y=>dBin op k (dX x) (dX y)
 | .bs op x y=>dBs op (dX x) (dX y)
 | .bb g x y=>oBB g (dX x) (dX y)
 | .eqs n g ks x y=>oEqs n (eqT g ks) (dX x) (dX y)
 | .eqn n tc x y=>oEqn n tc (dX x) (dX y)
 | .nt x=>oNt (dX x)
 | .ng x=>oNg (dX x)
 | .cm x=>oCm (dX x)
 | .cvi k x=>oCvi k (dX x)
 | .b2s x=>oB2s (dX x)
 | .s2b x=>oS2b (dX x)
 | .uptr x=>oUptr (dX x)
 | .s2a x n=>oS2a (dX x) n
 | .mki t x=>oMki t (dX x)
 | .mkf f xs=>oMkf f (dXs xs)
 | .ext x n=>oExt (dX x) n
 | .fa x o=>oFa (dX x) o
 | .fld x o n=>oFld (dX x) o n
 | .fl1 x o=>oFl1 (dX x) o
 | .ias x y s=>oIas (dX x) (dX y) s
 | .iaa x y l s=>oIaa (dX x) (dX y) l s
 | .ixs x y=>oIxs (dX x) (dX y)
 | .lens x=>oLens (dX x)
 | .lenl x=>oLenl (dX x)
 | .lenm x=>oLenm (dX x)
 | .mm b xs=>oMm b (dXs xs)
 | .ld x n=>oLd (dX x) n
 | .ld1 x=>oLd1 (dX x)
 | .st x y n=>oSt (dX x) (dX y) n
 | .al z n=>oAl z n
 | .bx x=>oBx (dX x)
 | .bxs t x=>oBxs t (dX x)
 | .bld z ps=>oBld z (dP ps)
 | .bsl z n l ps=>oBsl z n l (dP ps)
 | .mks x y s z b=>oMks (dX x) (dX y) s z b
 | .mkm=>oMkm
 | .lkp g ks x k ok z=>oLkp g ks (dX x) (dX k) ok z
 | .mpu g ks x k v=>oMpu g ks (dX x) (dX k) (dX v)
 | .mpe g ks x k z=>oMpe g ks (dX x) (dX k) z
 | .ens x s v=>oEns (dX x) (dX s) (dX v)
 | .slc x l h m s=>oSlc (dX x) (dB l) (dB h) (dB m) (match m with | none=>true | some _=>false) s
 | .slr x l h m s=>oSlr (dX x) (dB l) (dB h) (dB m) (match m with | none=>true | some _=>false) s
 | .sls x l h=>oSls (dX x) (dB l) (dB h)
 | .sla x l h m n s=>oSla (dX x) (dB l) (dB h) (dB m) n s
 | .apn x y s b=>oApn (dX x) (dX y) s b
 | .apz x y s b z=>oApz (dX x) (dX y) s b z
 | .clr x z=>oClr (dX x) z
 | .msh x=>oMsh (dX x)
 | .ety x=>oEty (dX x)
 | .cpy x y s=>oCpy (dX x) (dX y) s
 | .dlt g ks x k=>oDlt g ks (dX x) (dX k)
 | .ald k x=>oAld k (dX x)
 | .ast x y=>oAst (dX x) (dX y)
 | .acs k x y z=>oAcs k (dX x) (dX y) (dX z)
 | .aad k x y=>oAad k (dX x) (dX y)
 | .als t z=>oAls t z
 | .cvp ok x=>oCvp ok (dX x)
 | .nes x=>oMv (dX x)
 | .apb t b x y=>oApb t b (dX x) (dX y)
 | .usd x=>oUsd (dX x)
 | .ust t x y=>oUst t (dX x) (dX y)
 | .mnz t x=>oMnz t (dX x)
 | .cnt x y=>oCnt (dX x) (dX y)
 | .idx x y=>oIdx (dX x) (dX y)
 | .cpc x=>oCap (dX x)
 | .cpn x y=>oCpn (dX x) (dX y)
 | .nop=>oNop
 | .nopp x=>oNopp (dX x)
 | .bad=>oBad
 | .rng x=>oRng (dX x)
 | .nxt x=>oNxt (dX x)
noncomputable def dD:Ds→DsF
 | .n=>dN
 | .d t=>dT t
noncomputable def dG:Gd→GdF
 | .n=>gN
 | .g t b=>gG (xT t) b
noncomputable def ahead (f:SegF→SegF):Rg→Rg
 | .fin s=>.fin (f s)
 | .call s g d n xs r=>.call (f s) g d n xs r
 | .calv s g d x xs r=>.calv (f s) g d x xs r
 | .dfr s g d x xs r=>.dfr (f s) g d x xs r
 | .rcv s g d r=>.rcv (f s) g d r
 | .inv s g d tbl x xs r=>.inv (f s) g d tbl x xs r
noncomputable def dR:DR→Rg
 | .nil=>.fin sNil
 | .op g d i r=>(match g with
  | .n=>ahead (sOp (dD d) (dI i)) (dR r)
  | g=>ahead (sOpG (dG g) (dD d) (dI i)) (dR r))
 | .rck g t i r=>ahead (sAg (dG g) (xT t) (dI i)) (dR r)
 | .call g d f xs r=>.call sNil (dG g) (dD d) f (dXs xs) (dR r)
 | .calv g d x xs r=>.calv sNil (dG g) (dD d) (dX x) (dXs xs) (dR r)
 | .dfr g d x xs r=>.dfr sNil (dG g) (dD d) (dX x) (dXs xs) (dR r)
 | .rcv g d r=>.rcv sNil (dG g) (dD d) (dR r)
 | .inv g d tbl x xs r=>.inv sNil (dG g) (dD d) tbl (dX x) (dXs xs) (dR r)
noncomputable def dC:DC→C
 | .skip=>.skip
 | .rg r=>.rg (dR r)
 | .seq a b=>.seq (dC a) (dC b)
 | .cond x a b=>.cond (dX x) (dC a) (dC b)
 | .blk id a=>.blk id (dC a)
 | .loop a=>.loop (dC a)
 | .rf x li=>.rf (dX x) li
 | .exit id=>.exit id
 | .sc a=>.sc (dC a)
 | .bad=>.bad
 | .ret=>.ret
noncomputable def r1:DS→ResF
 | .t t=>fun en _ κ=>xT t en κ
 | .c t n=>fun en h κ=>xT t en (asP fun o off=>rdK o off n h fun l=>κ (.ag l))
 | .c1 t=>fun en h κ=>xT t en (asP fun o off=>rd1 o off h κ)
noncomputable def rsL:List DS→Env→H→(List AV→R)→R
 | []=>fun _ _ κ=>κ []
 | d :: r=>fun en h κ=>r1 d en h fun v=>rsL r en h fun vs=>κ (v :: vs)
noncomputable def dRs:List DS→ResF
 | [d]=>r1 d
 | ds=>fun en h κ=>rsL ds en h fun vs=>κ (.tu vs)
noncomputable def dA:List Nat→AssF
 | []=>asN0
 | t :: r=>asC t (dA r)
def liOf (f:Nat):Nat:=f * 16
def dsOk:DS→Bool
 | .t t=>Nat.blt t 512
 | .c t _=>Nat.blt t 512
 | .c1 t=>Nat.blt t 512
def rvOk (P:Program):ResultVar→Bool
 | .tmp _=>true
 | .cell _ ty=>(aggT P ty).isSome && (sizeT P ty).isSome
noncomputable def trF (P:Program) (f:FuncId):Option AFn:=match P.funcs[f]? with
 | some fn=>(match fn.body with
  | some c=>if Nat.ble fn.ntmps 512 && (fn.results.toList.map (trRs P)).all dsOk && fn.results.toList.all (rvOk P) && Nat.ble (nrf c) 16 && !(fn.name == "runtime.NumGoroutine") then some (.mk (dC (trC P fn.ntmps (liOf f) c)) (dRs (fn.results.toList.map (trRs P)))) else none
  | none=>none)
 | none=>none
noncomputable def trL (P:Program) (li:Nat):Option ALp:=match P.funcs[li / 16]? with
 | some fn=>(match fn.body with
  | some c=>(match (rfs (liOf (li / 16)) c).filter (fun x=>Nat.beq x.1 li) with
   | [(_,ps,a,b)]=>if ps.toList.all (fun t=>Nat.blt t fn.ntmps) && (trF P (li / 16)).isSome then some (.mk (dA ps.toList) (dC (trC P fn.ntmps (li + 1) a)) (dC (trC P fn.ntmps (li + 1 + nrf a) b))) else none
   | _=>none)
  | none=>none)
 | none=>none
end Go.AM

namespace Go.AM
open Go
def ch {α:Type} (d:Nat):N8 α→α
 | .mk a b c d' e f g h=>match d with | 0=>a | 1=>b | 2=>c | 3=>d' | 4=>e | 5=>f | 6=>g | _=>h
def sch {α:Type} (d:Nat) (y:α):N8 α→N8 α
 | .mk a b c d' e f g h=>match d with
  | 0=>.mk y b c d' e f g h | 1=>.mk a y c d' e f g h | 2=>.mk a b y d' e f g h | 3=>.mk a b c y e f g h
  | 4=>.mk a b c d' y f g h | 5=>.mk a b c d' e y g h | 6=>.mk a b c d' e f y h | _=>.mk a b c d' e f g y
theorem selG_eq {α:Type} (d:Nat) (κ:α→R) (t:N8 α):selG α d κ t=κ (ch d t):=by
 cases t
 match d with
 | 0=>rfl
 | 1=>rfl
 | 2=>rfl
 | 3=>rfl
 | 4=>rfl
 | 5=>rfl
 | 6=>rfl
 | d + 7=>rfl
theorem selS_eq {α:Type} (d:Nat) (ih:α→(α→R)→R) (y:α) (t:N8 α) (k:N8 α→R) (h:∀ k',ih (ch d t) k' = k' y):selS α d ih t k=k (sch d y t):=by
 cases t
 match d with
 | 0=>exact h _
 | 1=>exact h _
 | 2=>exact h _
 | 3=>exact h _
 | 4=>exact h _
 | 5=>exact h _
 | 6=>exact h _
 | d + 7=>exact h _
theorem ch_sch {α:Type} (d:Nat) (y:α) (t:N8 α):ch d (sch d y t)=y:=by
 cases t
 match d with
 | 0=>rfl
 | 1=>rfl
 | 2=>rfl
 | 3=>rfl
 | 4=>rfl
 | 5=>rfl
 | 6=>rfl
 | d + 7=>rfl
theorem ch_sch_ne {α:Type} {d e:Nat} (y:α) (t:N8 α) (hd:d < 8) (he:e < 8) (h:e≠d):ch e (sch d y t)=ch e t:=by
 cases t
 rcases d with _ | _ | _ | _ | _ | _ | _ | _ | d<;>rcases e with _ | _ | _ | _ | _ | _ | _ | _ | e<;>first | rfl | omega
theorem ch_rep {α:Type} (d:Nat) (x:α):ch d (rep8 x)=x:=by
 match d with
 | 0=>rfl
 | 1=>rfl
 | 2=>rfl
 | 3=>rfl
 | 4=>rfl
 | 5=>rfl
 | 6=>rfl
 | d + 7=>rfl
def getL (α:Type):(n:Nat)→Nat→L α n→α
 | 0,_,t=>t
 | n + 1,i,t=>getL α n (i % 8 ^ n) (ch (i / 8 ^ n) (t:N8 (L α n)))
def setL (α:Type) (x:α):(n:Nat)→Nat→L α n→L α n
 | 0,_,_=>x
 | n + 1,i,t=>(sch (i / 8 ^ n) (setL α x n (i % 8 ^ n) (ch (i / 8 ^ n) (t:N8 (L α n)))) (t:N8 (L α n)):N8 (L α n))
theorem getK_eq {α:Type} (κ:α→R):∀ (n i:Nat) (t:L α n),getK α κ n i t=κ (getL α n i t)
 | 0,_,_=>rfl
 | n + 1,i,t=>(selG_eq (α:=L α n) (i / 8 ^ n) (getK α κ n (i % 8 ^ n)) t).trans (getK_eq κ n _ _)
theorem setK_eq {α:Type} (x:α):∀ (n i:Nat) (t:L α n) (k:L α n→R),setK α x n i t k=k (setL α x n i t)
 | 0,_,_,_=>rfl
 | n + 1,i,t,k=>selS_eq (α:=L α n) (i / 8 ^ n) (setK α x n (i % 8 ^ n)) (setL α x n (i % 8 ^ n) (ch (i / 8 ^ n) (t:N8 (L α n)))) t k (fun k'=>setK_eq x n _ _ k')
theorem getL_setL {α:Type} (x:α):∀ (n i:Nat) (t:L α n),getL α n i (setL α x n i t)=x
 | 0,_,_=>rfl
 | n + 1,i,t=>(congrArg (getL α n (i % 8 ^ n)) (ch_sch (α:=L α n) (i / 8 ^ n) _ t)).trans (getL_setL x n _ _)
theorem getL_setL_ne {α:Type} (x:α):∀ (n:Nat) {i j:Nat} (t:L α n),i < 8 ^ n→j < 8 ^ n→j≠i→getL α n j (setL α x n i t)=getL α n j t
 | 0,i,j,t,hi,hj,h=>by simp at hi hj;omega
 | n + 1,i,j,t,hi,hj,h=>by
  have hp:0 < 8 ^ n:=Nat.pow_pos (by omega)
  rw [Nat.pow_succ] at hi hj
  have key:∀ t:N8 (L α n),getL α n (j % 8 ^ n) (ch (j / 8 ^ n) (sch (i / 8 ^ n) (setL α x n (i % 8 ^ n) (ch (i / 8 ^ n) t)) t))=getL α n (j % 8 ^ n) (ch (j / 8 ^ n) t):=by
   intro t
   by_cases hd:j / 8 ^ n=i / 8 ^ n
   ·rw [hd,ch_sch,getL_setL_ne x n _ (Nat.mod_lt _ hp) (Nat.mod_lt _ hp)]
    intro hm
    apply h
    rw [← Nat.div_add_mod j (8 ^ n),← Nat.div_add_mod i (8 ^ n),hd,hm]
   ·rw [ch_sch_ne _ _ (Nat.div_lt_of_lt_mul (by omega)) (Nat.div_lt_of_lt_mul (by omega)) hd]
  exact key t
theorem getL_repL {α:Type} (x:α):∀ (n i:Nat),getL α n i (repL α x n)=x
 | 0,_=>rfl
 | n + 1,i=>(congrArg (getL α n (i % 8 ^ n)) (ch_rep (i / 8 ^ n) (repL α x n))).trans (getL_repL x n _)
structure Th where
 has:Nat→Prop
 blk:Nat→Nat
 bas:Nat→Nat
 siz:Nat→Nat
 esz:Nat→Nat
 ini:Nat→Prop
 ext:Nat→Value
 ext1:∀ n,(ext n).oneCell' = true
 fr:Nat→Nat→Value
 fr1:∀ o i,(fr o i).oneCell' = true
structure Th.le (θ θ':Th):Prop where
 has:∀ o,θ.has o→θ'.has o
 blk:∀ o,θ.has o→θ'.blk o=θ.blk o
 bas:∀ o,θ.has o→θ'.bas o=θ.bas o
 siz:∀ o,θ.has o→θ'.siz o=θ.siz o
 esz:∀ o,θ.has o→θ'.esz o=θ.esz o
 ext:θ'.ext=θ.ext
 ini:θ'.ini=θ.ini
 fr:∀ o,θ.has o→θ'.fr o=θ.fr o
theorem Th.le.refl (θ:Th):θ.le θ:=⟨fun _ h=>h,fun _ _=>rfl,fun _ _=>rfl,fun _ _=>rfl,fun _ _=>rfl,rfl,rfl,fun _ _=>rfl⟩
theorem Th.le.trans {θ θ' θ'':Th} (h:θ.le θ') (h':θ'.le θ''):θ.le θ'':=
 ⟨fun o ho=>h'.has o (h.has o ho),fun o ho=>(h'.blk o (h.has o ho)).trans (h.blk o ho),fun o ho=>(h'.bas o (h.has o ho)).trans (h.bas o ho),
  fun o ho=>(h'.siz o (h.has o ho)).trans (h.siz o ho),fun o ho=>(h'.esz o (h.has o ho)).trans (h.esz o ho),h'.ext.trans h.ext,h'.ini.trans h.ini,fun o ho=>(h'.fr o (h.has o ho)).trans (h.fr o ho)⟩
def bytesOf (l:List Nat):ByteArray:=⟨(l.map UInt8.ofNat).toArray⟩
def xnat:Value→Int
 | .int _ w=>w
 | _=>0
def xlen:Value→Int
 | .string s=>s.size
 | _=>0
def xiV (e:Value) (k:Nat):Value:=if k=8 then e else if k=9 then .int .i64 (xlen e) else .int (kindOf k) (xnat e)
def xoV (e:Value) (j k r m:Nat):Value:=if k=13 then .int .i64 (xnat e + r) else if k=14 then .int .u8 (xnat e) else if k=15 then .bool (decide ((m:Int) < xnat e + r)) else .bool (decide ((ln j m:Int) < xnat e + r))
def xiOk (e:Value) (k r m:Nat):Prop:=(13≤k∧r < 4294967296∧∃ w:Nat,xnat e=(w:Int)∧w < 256)∨(k < 8∧∃ w:Nat,xnat e=(w:Int)∧w % m=r∧w < 4294967296)∨
 (8≤k∧k≤9∧r < 256∧∃ s,e = .string s∧(s == bytesOf [r])=false∧(bytesOf [r] == s)=false∧(m=0→s.size≤100)∧(0 < m→100 < s.size))
def xbV (e:Value) (k r:Nat):Value:=
 if k=20 then .int .u8 (((xnat e).toNat / 2 ^ r:Nat):Int) else if k=21 then .int .u8 (((xnat e).toNat / 2 ^ r % 2:Nat):Int) else if k=22 then .int .u8 ((48 + (xnat e).toNat / 2 ^ r % 2:Nat):Int)
 else if k=23 then .bool ((xnat e).toNat / 2 ^ r % 2 == 1) else .bool ((xnat e).toNat / 2 ^ r % 2 != 1)
def tailV (θ:Th) (o off l:Nat):Value:=
 .slice (if (θ.siz o - off) / θ.esz o=l then some ⟨θ.blk o,θ.bas o + off,none⟩ else some ⟨θ.blk o,θ.bas o + off + l * θ.esz o,none⟩) 0 ((θ.siz o - off) / θ.esz o - l)
def Th.lane (θ:Th):Nat:=(xnat (θ.ext 65535)).toNat % 4096
theorem Th.lane_lt (θ:Th):θ.lane < 4096:=Nat.mod_lt _ (by decide)
def Th.xv (θ:Th) (n:Nat):Value:=if n < 65536 then θ.ext n else θ.fr (n / 65536 - 1) (n % 65536)
theorem Th.xv1 (θ:Th) (n:Nat):(θ.xv n).oneCell' = true:=by
 unfold Th.xv
 split
 ·exact θ.ext1 n
 ·exact θ.fr1 _ _
def byV (θ:Th):AV→UInt8
 | .i _ n=>UInt8.ofNat n.toNat
 | .l _ N=>UInt8.ofNat (ln θ.lane N)
 | .xi n _ r _=>UInt8.ofNat (48 + (xnat (θ.ext n)).toNat / 2 ^ r % 2)
 | _=>0
def txV (θ:Th) (l:List AV):ByteArray:=⟨(l.map (byV θ)).toArray⟩
def lV (k n:Nat):Value:=if k=9 then .bool (n != 0) else .int (kindOf k) (n:Int)
def lOk (k N:Nat):Prop:=(k < 8∧Lim (khi k) N)∨(k=9∧Lim 2 N)
def byOk (v:AV):Prop:=(∃ n:Nat,v = .i 4 (n:Int)∧n < 256)∨(∃ N,v = .l 4 N∧Lim 256 N)∨∃ n r m,v = .xi n 22 r m
mutual
def toV (θ:Th):AV→Value
 | .i k n=>.int (kindOf k) n
 | .b c=>.bool c
 | .p o f=>.pointer (some ⟨θ.blk o,θ.bas o + f,none⟩)
 | .sl o f len cap=>.slice (some ⟨θ.blk o,θ.bas o + f,none⟩) len (match cap with | some c=>c | none=>(θ.siz o - f) / θ.esz o)
 | .np=>.pointer none
 | .ns=>.slice none 0 0
 | .s l=>.string (bytesOf l)
 | .m o=>.map (some (θ.blk o))
 | .nm=>.map none
 | .fn f caps=>.func (.func f) #[] (toVs θ caps).toArray
 | .yl o=>.func (.yield (θ.blk o)) #[] #[]
 | .nf=>.nilFunc
 | .ifc t v=>.iface t (toV θ v)
 | .ni=>.nilIface
 | .x n=>θ.xv n
 | .xi n k r m=>if k=12 then tailV θ n r m else if 20≤k then xbV (θ.ext n) k r else if 13≤k then xoV (θ.ext n) θ.lane k r m else xiV (θ.ext n) k
 | .l k N=>lV k (ln θ.lane N)
 | .q o off N=>.pointer (some ⟨θ.blk o,θ.bas o + (off + ln θ.lane N),none⟩)
 | .t l=>.string (txV θ l)
 | .f n m=>.int .i64 (xnat (θ.ext (n % 65536)) % (m:Int) + ((n / 65536:Nat):Int))
 | .z n _=>.int .i64 (xnat (θ.ext n))
 | .ag l=>.agg (toVs θ l).toArray
 | .tu l=>.tuple (toVs θ l).toArray
def toVs (θ:Th):List AV→List Value
 | []=>[]
 | v :: r=>toV θ v :: toVs θ r
end
theorem toVs_map (θ:Th):∀ l,toVs θ l=l.map (toV θ)
 | []=>rfl
 | v :: r=>by simp [toVs,toVs_map θ r]
@[simp] theorem toVs_length (θ:Th) (l:List AV):(toVs θ l).length=l.length:=by simp [toVs_map]
mutual

def Ok (θ:Th):AV→Prop
 | .p o _=>θ.has o
 | .sl o _ _ _=>θ.has o
 | .s l=>∀ x ∈ l,x < 256
 | .m o=>θ.has o
 | .fn _ caps=>Oks θ caps
 | .yl o=>θ.has o
 | .ifc _ v=>Ok θ v
 | .x n=>65536≤n→θ.has (n / 65536 - 1)
 | .xi n k r m=>(k=12∧θ.has n)∨(k≠12∧(20≤k∨xiOk (θ.ext n) k r m))
 | .l k N=>lOk k N
 | .q o _ N=>θ.has o∧Lim 16 N
 | .t l=>∀ v ∈ l,byOk v
 | .f n m=>(∃ w:Nat,xnat (θ.ext (n % 65536))=(w:Int))∧0 < m
 | .z n m=>(m=0→xnat (θ.ext n) < 0)∧(0 < m→(m:Int)≤xnat (θ.ext n))
 | .ag l=>Oks θ l∧l.all one=true
 | .tu l=>Oks θ l
 | _=>True
def Oks (θ:Th):List AV→Prop
 | []=>True
 | v :: r=>Ok θ v∧Oks θ r
end
theorem Oks_iff {θ:Th}:∀ {l:List AV},Oks θ l↔∀ v ∈ l,Ok θ v
 | []=>by simp [Oks]
 | v :: r=>by simp [Oks,Oks_iff (l:=r)]
mutual
theorem mono {θ θ':Th} (h:θ.le θ'):∀ (v:AV),Ok θ v→toV θ' v=toV θ v∧Ok θ' v
 | .i _ _,_=>⟨rfl,trivial⟩
 | .b _,_=>⟨rfl,trivial⟩
 | .p o f,hv=>⟨by simp only [toV,h.blk o hv,h.bas o hv],h.has o hv⟩
 | .sl o f len cap,hv=>⟨by simp only [toV,h.blk o hv,h.bas o hv,h.siz o hv,h.esz o hv],h.has o hv⟩
 | .np,_=>⟨rfl,trivial⟩
 | .ns,_=>⟨rfl,trivial⟩
 | .s _,hv=>⟨rfl,hv⟩
 | .m o,hv=>⟨by simp only [toV,h.blk o hv],h.has o hv⟩
 | .nm,_=>⟨rfl,trivial⟩
 | .fn _ caps,hv=>⟨by simp only [toV,(monos h caps hv).1],(monos h caps hv).2⟩
 | .yl o,hv=>⟨by simp only [toV,h.blk o hv],h.has o hv⟩
 | .nf,_=>⟨rfl,trivial⟩
 | .ifc _ v,hv=>⟨by simp only [toV,(mono h v hv).1],(mono h v hv).2⟩
 | .ni,_=>⟨rfl,trivial⟩
 | .x n,hv=>⟨by
   show θ'.xv n=θ.xv n
   unfold Th.xv
   split
   ·rw [h.ext]
   ·rename_i hn
    rw [h.fr _ (hv (by omega))],fun hn=>h.has _ (hv hn)⟩
 | .xi n k r m,hv=>by
   rcases (show (k=12∧θ.has n)∨(k≠12∧(20≤k∨xiOk (θ.ext n) k r m)) from hv) with ⟨h12,hn⟩ | ⟨h12,hv⟩
   ·subst h12
    exact ⟨by simp only [toV,tailV,if_true,h.blk n hn,h.bas n hn,h.siz n hn,h.esz n hn],.inl ⟨rfl,h.has n hn⟩⟩
   ·exact ⟨by simp only [toV,if_neg h12,Th.lane,h.ext],.inr ⟨h12,by rw [h.ext];exact hv⟩⟩
 | .l k N,hv=>⟨by simp only [toV,Th.lane,h.ext],hv⟩
 | .q o off N,hv=>⟨by simp only [toV,h.blk o hv.1,h.bas o hv.1,Th.lane,h.ext],h.has o hv.1,hv.2⟩
 | .t l,hv=>⟨by
   simp only [toV,txV]
   have:byV θ' = byV θ:=by funext v;cases v<;>simp only [byV,Th.lane,h.ext]
   rw [this],hv⟩
 | .f n m,hv=>⟨by simp only [toV,h.ext],by
   show (∃ w:Nat,xnat (θ'.ext (n % 65536))=(w:Int))∧0 < m
   rw [h.ext];exact hv⟩
 | .z n m,hv=>⟨by simp only [toV,h.ext],by
   show (m=0→xnat (θ'.ext n) < 0)∧(0 < m→(m:Int)≤xnat (θ'.ext n))
   rw [h.ext];exact hv⟩
 | .ag l,hv=>⟨by simp only [toV,(monos h l hv.1).1],(monos h l hv.1).2,hv.2⟩
 | .tu l,hv=>⟨by simp only [toV,(monos h l hv).1],(monos h l hv).2⟩
theorem monos {θ θ':Th} (h:θ.le θ'):∀ (l:List AV),Oks θ l→toVs θ' l=toVs θ l∧Oks θ' l
 | [],_=>⟨rfl,trivial⟩
 | v :: r,hv=>⟨by simp only [toVs,(mono h v hv.1).1,(monos h r hv.2).1],(mono h v hv.1).2,(monos h r hv.2).2⟩
end
theorem xi_ok {θ:Th} {n k r m:Nat} (hk:k < 8) (w:Nat) (h1:xnat (θ.ext n)=(w:Int)) (h2:w % m=r) (h3:w < 4294967296):Ok θ (.xi n k r m):=.inr ⟨by omega,.inr <| .inr <| .inl ⟨hk,w,h1,h2,h3⟩⟩
theorem xo_ok {θ:Th} {n k r m:Nat} (hk:13≤k) (w:Nat) (h1:xnat (θ.ext n)=(w:Int)) (h2:w < 256) (h3:r < 4294967296):Ok θ (.xi n k r m):=.inr ⟨by omega,.inr <| .inl ⟨hk,h3,w,h1,h2⟩⟩
theorem xb_ok {θ:Th} {n k r m:Nat} (hk:20≤k):Ok θ (.xi n k r m):=.inr ⟨by omega,.inl hk⟩
theorem xb_val {θ:Th} {n k r m:Nat} (hk:20≤k):toV θ (.xi n k r m)=xbV (θ.ext n) k r:=by
 show (if k=12 then _ else if 20≤k then _ else if 13≤k then _ else xiV _ _)=_
 rw [if_neg (by omega),if_pos hk]
theorem xo_num {θ:Th} {n k r m:Nat} (hk:13≤k) (hk2:k < 20) (h:Ok θ (.xi n k r m)):r < 4294967296∧∃ w:Nat,xnat (θ.ext n)=(w:Int)∧w < 256∧toV θ (.xi n k r m)=xoV (θ.ext n) θ.lane k r m:=by
 rcases (show (k=12∧θ.has n)∨(k≠12∧(20≤k∨xiOk (θ.ext n) k r m)) from h) with ⟨h12,_⟩ | ⟨h12,h20 | ⟨_,h2,w,h3,h4⟩ | ⟨h8,_⟩ | ⟨_,h9,_⟩⟩
 ·omega
 ·omega
 ·refine ⟨h2,w,h3,h4,?_⟩
  show (if k=12 then _ else if 20≤k then _ else if 13≤k then _ else xiV _ _)=_
  rw [if_neg h12,if_neg (by omega),if_pos hk]
 ·omega
 ·omega
theorem xi_num {θ:Th} {n k r m:Nat} (hk:k < 8) (h:Ok θ (.xi n k r m)):∃ w:Nat,toV θ (.xi n k r m) = .int (kindOf k) (w:Int)∧xnat (θ.ext n)=(w:Int)∧w % m=r∧w < 4294967296:=by
 rcases (show (k=12∧θ.has n)∨(k≠12∧(20≤k∨xiOk (θ.ext n) k r m)) from h) with ⟨h12,_⟩ | ⟨h12,h20 | ⟨h13,_⟩ | ⟨_,w,h1,h2,h3⟩ | ⟨h8,_⟩⟩
 ·omega
 ·omega
 ·omega
 ·refine ⟨w,?_,h1,h2,h3⟩
  show (if k=12 then _ else if 20≤k then _ else if 13≤k then _ else xiV _ _)=_
  rw [if_neg h12,if_neg (by omega),if_neg (by omega),xiV,if_neg (by omega),if_neg (by omega),h1]
 ·omega
theorem xi_str {θ:Th} {n r m:Nat} (h:Ok θ (.xi n 8 r m)):r < 256∧∃ s,toV θ (.xi n 8 r m) = .string s∧toV θ (.xi n 9 r m) = .int .i64 s.size∧Ok θ (.xi n 9 r m)∧(s == bytesOf [r])=false∧(bytesOf [r] == s)=false:=by
 rcases (show (8=12∧θ.has n)∨(8≠12∧(20≤8∨xiOk (θ.ext n) 8 r m)) from h) with ⟨h12,_⟩ | ⟨_,h20 | ⟨h13,_⟩ | ⟨h8,_⟩ | ⟨_,_,hr,s,h1,h2,h3,h4,h5⟩⟩
 ·omega
 ·omega
 ·omega
 ·omega
 ·exact ⟨hr,s,h1,by show (if 9=12 then _ else if 20≤9 then _ else if 13≤9 then _ else xiV _ _)=_;rw [if_neg (by decide),if_neg (by decide),if_neg (by decide),h1];rfl,.inr ⟨by omega,.inr <| .inr <| .inr ⟨by omega,by omega,hr,s,h1,h2,h3,h4,h5⟩⟩,h2,h3⟩
theorem xi_len {θ:Th} {n r m:Nat} (h:Ok θ (.xi n 9 r m)):∃ k:Nat,toV θ (.xi n 9 r m) = .int .i64 k∧(m=0→k≤100)∧(0 < m→100 < k):=by
 rcases (show (9=12∧θ.has n)∨(9≠12∧(20≤9∨xiOk (θ.ext n) 9 r m)) from h) with ⟨h12,_⟩ | ⟨_,h20 | ⟨h13,_⟩ | ⟨h8,_⟩ | ⟨_,_,hr,s,h1,h2,h3,h4,h5⟩⟩
 ·omega
 ·omega
 ·omega
 ·omega
 ·exact ⟨s.size,by show (if 9=12 then _ else if 20≤9 then _ else if 13≤9 then _ else xiV _ _)=_;rw [if_neg (by decide),if_neg (by decide),if_neg (by decide),h1];rfl,h4,h5⟩
def VR (θ:Th) (v:AV) (u:Value):Prop:=Ok θ v∧u=toV θ v
theorem VR.mono {θ θ':Th} (h:θ.le θ') {v:AV} {u:Value} (hv:VR θ v u):VR θ' v u:=⟨(AM.mono h v hv.1).2,by rw [(AM.mono h v hv.1).1];exact hv.2⟩
def ER (θ:Th) (en:Env) (tmps:Array Value):Prop:=∀ t,t < 512→VR θ (getL AV 3 t en) (tmps.getD t Go.undef)
theorem ER.mono {θ θ':Th} (h:θ.le θ') {en:Env} {tmps:Array Value} (he:ER θ en tmps):ER θ' en tmps:=fun t ht=>(he t ht).mono h
def cellO (z:List AV) (zl d:Nat) (t:L (Option AV) d) (i:Nat):Option AV:=match getL (Option AV) d i t with
 | some v=>some v
 | none=>z[i % zl]?
def meV (θ:Th):ME→MapEntry
 | .mk k v b=>{ key:=toV θ k,val:=toV θ v,born:=b }
def meOk (θ:Th):ME→Prop
 | .mk k v _=>Ok θ k∧Ok θ v
def jCode:J→Option Code
 | .no=>none
 | .ret=>some .ret
 | .exit id=>some (.exit id)
def Fz (fz:Nat × Nat) (n:Nat):Prop:=fz=(0,0)∨n≤fz.1
theorem Fz.free {fz:Nat × Nat} {n:Nat} (h:Fz fz n):∀ i,i < n→(fz.1≤i && i < fz.2)=false:=by
 intro i hi
 rcases h with rfl | h
 ·simp
 ·have:¬ (fz.1≤i):=by omega
  simp [this]
def OR (P:Program) (θ:Th) (w:World) (o:Nat):AO→Prop
 | .sm l=>∃ ty,w.heap[θ.blk o]? = some (.cells (toVs θ l).toArray ty (0,0))∧θ.bas o=0∧Oks θ l∧l.all one=true
 | .st t l=>w.heap[θ.blk o]? = some (.cells (toVs θ l).toArray t (0,0))∧θ.bas o=0∧Oks θ l∧l.all one=true
 | .bt t l=>∃ c fz,w.heap[θ.blk o]? = some (.cells c t fz)∧θ.bas o=0∧θ.esz o=1∧θ.siz o=c.size∧l.length≤c.size∧(∀ (i:Nat) (x:AV),l[i]? = some x→c[i]? = some (toV θ x)∧byOk x∧Ok θ x)∧Fz fz c.size
 | .ce n es z zl d t _ _=>∃ c ty fz,w.heap[θ.blk o]? = some (.cells c ty fz)∧n≤8 ^ d∧
   (∀ i,i < n→∃ v,cellO z zl d t i=some v∧Ok θ v∧one v=true∧c[θ.bas o + i]? = some (toV θ v))∧
   Fz fz c.size∧
   (es=0→θ.bas o=0∧c.size=n∧(zl≠0→fz=(0,0)))∧(es≠0→θ.esz o=es∧n≤θ.siz o∧θ.bas o + θ.siz o≤c.size)
 | .mp es clock=>w.heap[θ.blk o]? = some (.map (es.map (meV θ)).toArray clock)∧∀ e ∈ es,meOk θ e
 | .it m since seen st=>w.heap[θ.blk o]? = some (.mapIter (m.map θ.blk) since seen.toArray st)∧(∀ k,m=some k→θ.has k)∧θ.bas o=0
 | .lp st j fn li en ds=>∃ fu code ps a b tmps,P.funcs[fn]? = some fu∧fu.body=some code∧nrf code≤16∧(li,ps,a,b) ∈ rfs (liOf fn) code∧
   w.heap[θ.blk o]? = some (.loop { state:=st,pending:=jCode j,fn:=fn,tmps:=tmps,params:=ps,assign:=a,body:=b,defers:=θ.blk ds })∧
   ER θ en tmps∧fu.ntmps≤tmps.size∧θ.has ds
 | .df c=>w.heap[θ.blk o]? = some (.deferred (if c then some [] else none))
 | .dead=>True
theorem OR.mono {P:Program} {θ θ':Th} {w w':World} {o:Nat} (h:θ.le θ') (ho:θ.has o) (hw:w'.heap[θ.blk o]? = w.heap[θ.blk o]?):∀ {a:AO},OR P θ w o a→OR P θ' w' o a
 | .sm l,⟨ty,h1,h2,h3,h4⟩=>⟨ty,by rw [h.blk o ho,hw,(monos h l h3).1];exact h1,by rw [h.bas o ho];exact h2,(monos h l h3).2,h4⟩
 | .st t l,⟨h1,h2,h3,h4⟩=>⟨by rw [h.blk o ho,hw,(monos h l h3).1];exact h1,by rw [h.bas o ho];exact h2,(monos h l h3).2,h4⟩
 | .bt t l,⟨c,fz,h1,h2,h3,h4,h5,h6,h7⟩=>⟨c,fz,by rw [h.blk o ho,hw];exact h1,by rw [h.bas o ho];exact h2,by rw [h.esz o ho];exact h3,by rw [h.siz o ho];exact h4,h5,fun i x hx=>by
   obtain ⟨e1,e2,e3⟩:=h6 i x hx
   exact ⟨by rw [(AM.mono h x e3).1];exact e1,e2,(AM.mono h x e3).2⟩,h7⟩
 | .ce n es z zl d t top sh,⟨c,ty,fz,h1,h2,h3,h4,h5,h6⟩=>⟨c,ty,fz,by rw [h.blk o ho,hw];exact h1,h2,fun i hi=>by
   obtain ⟨v,e1,e2,e3,e4⟩:=h3 i hi
   exact ⟨v,e1,(AM.mono h v e2).2,e3,by rw [h.bas o ho,(AM.mono h v e2).1];exact e4⟩,h4,by rw [h.bas o ho];exact h5,by rw [h.bas o ho,h.siz o ho,h.esz o ho];exact h6⟩
 | .mp es clock,⟨h1,h2⟩=>by
   refine ⟨?_,fun e he=>?_⟩
   ·rw [h.blk o ho,hw,h1]
    congr 3
    refine List.map_congr_left fun e he=>?_
    obtain ⟨k,v,b⟩:=e
    have:=h2 _ he
    simp only [meV,(AM.mono h k this.1).1,(AM.mono h v this.2).1]
   ·obtain ⟨k,v,b⟩:=e
    have:=h2 _ he
    exact ⟨(AM.mono h k this.1).2,(AM.mono h v this.2).2⟩
 | .it m since seen st,⟨h1,h2,h3⟩=>by
   refine ⟨?_,fun k hk=>h.has k (h2 k hk),by rw [h.bas o ho];exact h3⟩
   rw [h.blk o ho,hw,h1]
   cases m with
   | none=>rfl
   | some m=>simp [h.blk m (h2 m rfl)]
 | .lp st j fn li en ds,⟨fu,code,ps,a,b,tmps,h1,h2,h2',h3,h4,h5,h6,h7⟩=>⟨fu,code,ps,a,b,tmps,h1,h2,h2',h3,by rw [h.blk o ho,hw,h.blk ds h7];exact h4,h5.mono h,h6,h.has ds h7⟩
 | .df c,h1=>by show _=_;rw [h.blk o ho,hw];exact h1
 | .dead,_=>trivial
def AO.wr:AO→Bool
 | .ce _ _ _ _ _ _ top _=>top
 | .dead=>false
 | _=>true
def AO.live:AO→Bool
 | .dead=>false
 | _=>true
def AO.sh:AO→List Nat
 | .ce _ _ _ _ _ _ _ sh=>sh
 | _=>[]
def AO.ext (θ:Th) (o:Nat):AO→Nat
 | .ce n _ _ _ _ _ _ _=>θ.bas o + n
 | _=>0
abbrev obj (h:H) (o:Nat):Option AO:=getL (Option AO) 7 o h
def Fresh (h:H) (nx:Nat):Prop:=∀ o a,o < 2097152→obj h o=some a→o < nx
def Glo (P:Program) (ini:Nat→Prop) (w0:World):Prop:=∀ g,P.globalNamed "math/bits.deBruijn64tab" = some g→¬ ini g∧w0.cell? ⟨g,15,none⟩=some (.int .u8 4)
structure HR (P:Program) (w0:World) (pd:List (Nat × AO)) (θ:Th) (h:H) (nx:Nat) (w:World):Prop where
 lim:nx≤2097152
 own:∀ o,θ.has o→o < nx∧(w0.heap.size≤θ.blk o∨θ.ini (θ.blk o))∧θ.blk o < w.heap.size∧∃ a,obj h o=some a∧OR P θ w o a∧∀ x ∈ a.sh,θ.has x
 apart:∀ o o' a a',o≠o'→θ.has o→θ.has o'→obj h o=some a→obj h o' = some a'→a.wr=true→a'.live=true→θ.blk o=θ.blk o'→o' ∈ a.sh∧a'.ext θ o'≤a.ext θ o∧a'.wr=false
 size:w0.heap.size≤w.heap.size
 kept:∀ b,b < w0.heap.size→¬ θ.ini b→w.heap[b]? = w0.heap[b]?
 plain:w.os=w0.os∧w.tape=w0.tape∧w.output=w0.output
 pend:∀ o a,(o,a) ∈ pd→¬ θ.has o∧o < nx∧obj h o=some a
 nodup:(pd.map (·.1)).Nodup
 fresh:Fresh h nx
 glo:Glo P θ.ini w0
end Go.AM

namespace Go.AM
open Go
def Th.put (θ:Th) (o b bs sz es:Nat):Th where
 has x:=x=o∨θ.has x
 blk x:=if x=o then b else θ.blk x
 bas x:=if x=o then bs else θ.bas x
 siz x:=if x=o then sz else θ.siz x
 esz x:=if x=o then es else θ.esz x
 ini:=θ.ini
 ext:=θ.ext
 ext1:=θ.ext1
 fr:=θ.fr
 fr1:=θ.fr1
theorem Th.le_put {θ:Th} {o:Nat} (h:¬ θ.has o) (b bs sz es:Nat):θ.le (θ.put o b bs sz es):=by
 have ne:∀ x,θ.has x→x≠o:=fun x hx e=>h (e ▸ hx)
 exact ⟨fun x hx=>.inr hx,fun x hx=>by simp [Th.put,ne x hx],fun x hx=>by simp [Th.put,ne x hx],fun x hx=>by simp [Th.put,ne x hx],fun x hx=>by simp [Th.put,ne x hx],rfl,rfl,fun _ _=>rfl⟩
@[simp] theorem Th.put_has (θ:Th) (o b bs sz es:Nat):(θ.put o b bs sz es).has o:=.inl rfl
@[simp] theorem Th.put_blk (θ:Th) (o b bs sz es:Nat):(θ.put o b bs sz es).blk o=b:=by simp [Th.put]
@[simp] theorem Th.put_bas (θ:Th) (o b bs sz es:Nat):(θ.put o b bs sz es).bas o=bs:=by simp [Th.put]
@[simp] theorem Th.put_siz (θ:Th) (o b bs sz es:Nat):(θ.put o b bs sz es).siz o=sz:=by simp [Th.put]
@[simp] theorem Th.put_esz (θ:Th) (o b bs sz es:Nat):(θ.put o b bs sz es).esz o=es:=by simp [Th.put]
abbrev setO (h:H) (o:Nat) (a:AO):H:=setL (Option AO) (some a) 7 o h
theorem obj_set (h:H) (o:Nat) (a:AO):obj (setO h o a) o=some a:=getL_setL _ _ _ _
theorem obj_set_ne (h:H) {o o':Nat} (a:AO) (ho:o < 2097152) (ho':o' < 2097152) (hn:o'≠o):obj (setO h o a) o' = obj h o':=getL_setL_ne _ 7 _ ho ho' hn
theorem put_eq (o:Nat) (a:AO) (h:H) (κ:H→R):put o a h κ=κ (setO h o a):=(put_def o a h κ).trans (setK_eq _ _ _ _ _)
theorem get_true {o:Nat} {h:H} {κ:AO→R} (e:get o h κ=true):∃ a,obj h o=some a∧κ a=true:=by
 rw [get_def,getK_eq] at e
 cases ha:getL (Option AO) 7 o h with
 | none=>rw [ha] at e;cases e
 | some a=>rw [ha] at e;exact ⟨a,ha,e⟩
def killL:List Nat→H→H
 | [],h=>h
 | o :: r,h=>killL r (setO h o .dead)
theorem killK_eq:∀ (sh:List Nat) (h:H) (κ:H→R),killK sh h κ=κ (killL sh h)
 | [],_,_=>rfl
 | o :: r,h,κ=>by
  show put o .dead h (fun h=>killK r h κ)=_
  rw [put_eq,killK_eq r]
  rfl
theorem obj_kill:∀ (sh:List Nat) (h:H) (o:Nat),o < 2097152→(∀ x ∈ sh,x < 2097152)→obj (killL sh h) o=if o ∈ sh then some .dead else obj h o
 | [],_,_,_,_=>by simp [killL]
 | x :: r,h,o,ho,hs=>by
  rw [killL,obj_kill r _ o ho (fun y hy=>hs y (List.mem_cons_of_mem _ hy))]
  by_cases hr:o ∈ r
  ·simp [hr]
  ·by_cases hx:o=x
   ·subst hx;simp [hr,obj_set]
   ·simp [hr,hx,obj_set_ne h .dead (hs x (List.mem_cons_self ..)) ho hx]
theorem br_true {c:Bool} {a b:R} (h:br c a b=true):(c=true∧a=true)∨(c=false∧b=true):=by
 cases c
 ·exact .inr ⟨rfl,h⟩
 ·exact .inl ⟨rfl,h⟩
theorem br_t {c:Bool} {a:R} (h:br c a false=true):c=true∧a=true:=by
 cases c
 ·cases h
 ·exact ⟨rfl,h⟩
theorem br_f {c:Bool} {b:R} (h:br c false b=true):c=false∧b=true:=by
 cases c
 ·exact ⟨rfl,h⟩
 ·cases h
theorem fnat_eq (n:Nat) (κ:Nat→R):fnat n κ=κ n:=by cases n<;>rfl
theorem fint_eq (n:Int) (κ:Int→R):fint n κ=κ n:=by
 cases n with
 | ofNat n=>exact fnat_eq n fun m=>κ (.ofNat m)
 | negSucc n=>exact fnat_eq n fun m=>κ (.negSucc m)
theorem fbool_eq (c:Bool) (κ:Bool→R):fbool c κ=κ c:=by cases c<;>rfl
section
variable {P:Program} {w0 w w':World} {pd:List (Nat × AO)} {θ:Th} {h:H} {nx:Nat}
theorem HR.lt32 (hr:HR P w0 pd θ h nx w) {o:Nat} (ho:θ.has o):o < 2097152:=Nat.lt_of_lt_of_le (hr.own o ho).1 hr.lim
theorem Fresh.set {h:H} {n n' o:Nat} {a:AO} (hf:Fresh h n) (hle:n≤n') (ho:o < n') (h32:o < 2097152):Fresh (setO h o a) n':=by
 intro p b hp hb
 by_cases e:p=o
 ·rw [e];exact ho
 ·rw [obj_set_ne h a h32 hp e] at hb
  exact Nat.lt_of_lt_of_le (hf p b hp hb) hle
theorem HR.same (hr:HR P w0 pd θ h nx w) (hh:w'.heap=w.heap) (hp:w'.os=w.os∧w'.tape=w.tape∧w'.output=w.output):HR P w0 pd θ h nx w' where
 lim:=hr.lim
 own o ho:=by
  obtain ⟨a1,a2,a3,a,a4,a5,a6⟩:=hr.own o ho
  exact ⟨a1,a2,by rw [hh];exact a3,a,a4,a5.mono (.refl θ) ho (by rw [hh]),a6⟩
 apart:=hr.apart
 size:=by rw [hh];exact hr.size
 kept b hb hi:=by rw [hh];exact hr.kept b hb hi
 plain:=⟨hp.1.trans hr.plain.1,hp.2.1.trans hr.plain.2.1,hp.2.2.trans hr.plain.2.2⟩
 pend:=hr.pend
 nodup:=hr.nodup
 fresh:=hr.fresh
 glo:=hr.glo
theorem HR.new (hr:HR P w0 pd θ h nx w) {ob:Obj} (hh:w'.heap=w.heap.push ob) (hp:w'.os=w.os∧w'.tape=w.tape∧w'.output=w.output) (hn:nx < 2097152)
  {a:AO} {bs sz es:Nat} (ha:OR P (θ.put nx w.heap.size bs sz es) w' nx a) (hsh:∀ x ∈ a.sh,θ.has x) :
  HR P w0 pd (θ.put nx w.heap.size bs sz es) (setO h nx a) (nx + 1) w'∧θ.le (θ.put nx w.heap.size bs sz es):=by
 have hnx:¬ θ.has nx:=fun hx=>Nat.lt_irrefl _ (hr.own nx hx).1
 have hle:=Th.le_put hnx w.heap.size bs sz es
 have hold:∀ b,b < w.heap.size→w'.heap[b]? = w.heap[b]?:=fun b hb=>by rw [hh,Array.getElem?_push_lt hb,Array.getElem?_eq_getElem hb]
 have hob:∀ o,θ.has o→obj (setO h nx a) o=obj h o:=fun o ho=>obj_set_ne h a hn (hr.lt32 ho) (fun e=>hnx (e ▸ ho))
 refine ⟨⟨by omega,?_,?_,?_,?_,?_,?_,hr.nodup,hr.fresh.set (by omega) (by omega) hn,hr.glo⟩,hle⟩
 ·intro o ho
  by_cases e:o=nx
  ·subst e
   exact ⟨by omega,.inl (by rw [Th.put_blk];exact hr.size),by rw [Th.put_blk,hh];simp,a,obj_set _ _ _,ha,fun x hx=>hle.has x (hsh x hx)⟩
  ·have ho':θ.has o:=ho.resolve_left e
   obtain ⟨a1,a2,a3,b,a4,a5,a6⟩:=hr.own o ho'
   refine ⟨by omega,by rw [hle.blk o ho'];exact a2,by rw [hle.blk o ho',hh];simp;omega,b,by rw [hob o ho'];exact a4,a5.mono hle ho' (hold _ a3),fun x hx=>hle.has x (a6 x hx)⟩
 ·intro o o' b b' hne ho ho' hb hb' hw hl heq
  by_cases e:o=nx
  ·subst e
   by_cases e':o' = o
   ·exact absurd e'.symm hne
   ·have h':θ.has o':=ho'.resolve_left e'
    rw [Th.put_blk,hle.blk o' h'] at heq
    have:=(hr.own o' h').2.2.1
    omega
  ·have h1:θ.has o:=ho.resolve_left e
   by_cases e':o' = nx
   ·subst e'
    rw [Th.put_blk,hle.blk o h1] at heq
    have:=(hr.own o h1).2.2.1
    omega
   ·have h2:θ.has o':=ho'.resolve_left e'
    rw [hob o h1] at hb
    rw [hob o' h2] at hb'
    rw [hle.blk o h1,hle.blk o' h2] at heq
    have:=hr.apart o o' b b' hne h1 h2 hb hb' hw hl heq
    refine ⟨this.1,?_⟩
    have hx:∀ (c:AO) (p:Nat),θ.has p→c.ext (θ.put nx w.heap.size bs sz es) p=c.ext θ p:=fun c p hp=>by cases c<;>simp only [AO.ext,hle.bas p hp]
    rw [hx b' o' h2,hx b o h1];exact this.2
 ·rw [hh];simp;have:=hr.size;omega
 ·intro b hb hi;rw [hold b (Nat.lt_of_lt_of_le hb hr.size)];exact hr.kept b hb hi
 ·exact ⟨hp.1.trans hr.plain.1,hp.2.1.trans hr.plain.2.1,hp.2.2.trans hr.plain.2.2⟩
 ·intro o b hb
  obtain ⟨p1,p2,p3⟩:=hr.pend o b hb
  exact ⟨fun hx=>hx.elim (fun e=>by omega) p1,by omega,by rw [obj_set_ne h a hn (Nat.lt_of_lt_of_le p2 hr.lim) (by omega)];exact p3⟩
theorem HR.upd (hr:HR P w0 pd θ h nx w) {o:Nat} {a a':AO} (ho:θ.has o) (ha:obj h o=some a) (hw:a.wr=true) (hsz:w'.heap.size=w.heap.size)
  (hh:∀ b,b≠θ.blk o→w'.heap[b]? = w.heap[b]?) (hp:w'.os=w.os∧w'.tape=w.tape∧w'.output=w.output) (ha':OR P θ w' o a') (hs':∀ x ∈ a'.sh,θ.has x) :
  HR P w0 pd θ (killL a.sh (setO h o a')) nx w':=by
 have hsh:∀ x ∈ a.sh,θ.has x:=by
  obtain ⟨_,_,_,b,h1,_,h2⟩:=hr.own o ho
  rw [ha] at h1;injection h1 with h1;subst h1;exact h2
 have hob:∀ p,p < 2097152→obj (killL a.sh (setO h o a')) p=if p ∈ a.sh then some .dead else obj (setO h o a') p:=fun p hp=>obj_kill _ _ _ hp (fun x hx=>hr.lt32 (hsh x hx))
 refine ⟨hr.lim,?_,?_,by rw [hsz];exact hr.size,?_,⟨hp.1.trans hr.plain.1,hp.2.1.trans hr.plain.2.1,hp.2.2.trans hr.plain.2.2⟩,?_,hr.nodup,fun p b hp hb=>by
  rw [hob p hp] at hb
  split at hb
  ·rename_i hm;exact (hr.own p (hsh p hm)).1
  ·exact hr.fresh.set (Nat.le_refl _) (hr.own o ho).1 (hr.lt32 ho) p b hp hb,hr.glo⟩
 ·intro p hpp
  obtain ⟨a1,a2,a3,b,a4,a5,a6⟩:=hr.own p hpp
  refine ⟨a1,a2,by rw [hsz];exact a3,?_⟩
  rw [hob p (hr.lt32 hpp)]
  by_cases hm:p ∈ a.sh
  ·exact ⟨.dead,by simp [hm],trivial,fun x hx=>by simp [AO.sh] at hx⟩
  ·by_cases e:p=o
   ·subst e
    exact ⟨a',by simp [hm,obj_set],ha',hs'⟩
   ·rw [if_neg hm,obj_set_ne h a' (hr.lt32 ho) (hr.lt32 hpp) e]
    by_cases hb:θ.blk p=θ.blk o
    ·cases hl:b.live with
     | true=>exact absurd (hr.apart o p a b (fun e'=>e e'.symm) ho hpp ha a4 hw hl hb.symm).1 hm
     | false=>
      cases b<;>simp [AO.live] at hl
      exact ⟨.dead,a4,trivial,fun x hx=>by simp [AO.sh] at hx⟩
    ·exact ⟨b,a4,a5.mono (.refl θ) hpp (hh _ hb),a6⟩
 ·intro p q b b' hne h1 h2 hb hb' hbw hl heq
  have get:∀ (r:Nat) (c:AO),θ.has r→obj (killL a.sh (setO h o a')) r=some c→c.live=true→r ∉ a.sh∧((r=o∧c=a')∨(r≠o∧obj h r=some c)):=by
   intro r c hrr hc hcl
   rw [hob r (hr.lt32 hrr)] at hc
   by_cases hm:r ∈ a.sh
   ·rw [if_pos hm] at hc;injection hc with hc;subst hc;simp [AO.live] at hcl
   ·rw [if_neg hm] at hc
    refine ⟨hm,?_⟩
    by_cases e:r=o
    ·subst e;rw [obj_set] at hc;injection hc with hc;exact .inl ⟨rfl,hc.symm⟩
    ·rw [obj_set_ne h a' (hr.lt32 ho) (hr.lt32 hrr) e] at hc;exact .inr ⟨e,hc⟩
  have hbl:b.live=true:=by cases b<;>first | rfl | simp [AO.wr] at hbw
  obtain ⟨hm1,g1⟩:=get p b h1 hb hbl
  obtain ⟨hm2,g2⟩:=get q b' h2 hb' hl
  rcases g1 with ⟨rfl,rfl⟩ | ⟨e1,g1⟩
  ·rcases g2 with ⟨rfl,rfl⟩ | ⟨e2,g2⟩
   ·exact absurd rfl hne
   ·exact absurd (hr.apart _ q a b' hne h1 h2 ha g2 hw hl heq).1 hm2
  ·rcases g2 with ⟨rfl,rfl⟩ | ⟨e2,g2⟩
   ·exact absurd (hr.apart _ p a b (fun e=>hne e.symm) h2 h1 ha g1 hw hbl heq.symm).1 hm1
   ·exact hr.apart p q b b' hne h1 h2 g1 g2 hbw hl heq
 ·intro b hb hi
  have:=(hr.own o ho).2.1
  rw [hh b (fun e=>by subst e;exact this.elim (fun h=>by omega) hi)];exact hr.kept b hb hi
 ·intro p b hb
  obtain ⟨p1,p2,p3⟩:=hr.pend p b hb
  refine ⟨p1,p2,?_⟩
  rw [hob p (Nat.lt_of_lt_of_le p2 hr.lim),if_neg (fun hm=>p1 (hsh p hm)),obj_set_ne h a' (hr.lt32 ho) (Nat.lt_of_lt_of_le p2 hr.lim) (fun e=>p1 (e ▸ ho))]
  exact p3
end
end Go.AM

namespace Go.AM
open Go
theorem dropL_eq {α:Type}:∀ (n:Nat) (l:List α),dropL α n l=l.drop n
 | 0,l=>rfl
 | n + 1,[]=>rfl
 | n + 1,_ :: r=>dropL_eq n r
theorem takeK_eq {α:Type}:∀ (n:Nat) (l:List α) (κ:List α→R),takeK α n l κ=if n≤l.length then κ (l.take n) else false
 | 0,l,κ=>rfl
 | n + 1,[],κ=>by simp [takeK]
 | n + 1,x :: r,κ=>by
  show takeK α n r (fun l=>κ (x :: l))=_
  rw [takeK_eq n r]
  simp
theorem nthK_eq {α:Type} (κ:α→R):∀ (l:List α) (n:Nat),nthK α κ l n=match l[n]? with | some x=>κ x | none=>false
 | [],n=>by simp [nthK]
 | x :: r,0=>rfl
 | x :: r,n + 1=>by
  show nthK α κ r n=_
  rw [nthK_eq κ r n]
  simp
theorem lenN_eq {α:Type}:∀ l:List α,lenN α l=l.length
 | []=>rfl
 | x :: r=>congrArg Nat.succ (lenN_eq r)
theorem appK_eq {α:Type} (b:List α):∀ (a:List α) (κ:List α→R),appK α a b κ=κ (a ++ b)
 | [],_=>rfl
 | x :: r,κ=>appK_eq b r fun l=>κ (x :: l)
theorem ovrK_eq:∀ (vs l:List AV) (κ:List AV→R),ovrK vs l κ=if vs.length≤l.length then κ (vs ++ l.drop vs.length) else false
 | [],l,κ=>by simp [ovrK]
 | v :: vs,[],κ=>by simp [ovrK]
 | v :: vs,x :: l,κ=>by
  show ovrK vs l (fun l=>κ (v :: l))=_
  rw [ovrK_eq vs l]
  simp
theorem putLK_eq (vs:List AV):∀ (off:Nat) (l:List AV) (κ:List AV→R),putLK vs off l κ=if off + vs.length≤l.length then κ (l.take off ++ vs ++ l.drop (off + vs.length)) else false
 | 0,l,κ=>by
  show ovrK vs l κ=_
  rw [ovrK_eq]
  simp
 | off + 1,[],κ=>by
  show false=_
  rw [if_neg (by simp)]
 | off + 1,x :: l,κ=>by
  show putLK vs off l (fun l=>κ (x :: l))=_
  rw [putLK_eq vs off l]
  have:off + 1 + vs.length=(off + vs.length) + 1:=by omega
  simp [this]
theorem cellK_eq (z:List AV) (zl d:Nat) (t:L (Option AV) d) (κ:AV→R) (i:Nat):cellK z zl d t κ i=match cellO z zl d t i with | some v=>κ v | none=>false:=by
 unfold cellK cellO
 rw [getK_eq]
 cases getL (Option AV) d i t with
 | some v=>rfl
 | none=>
  refine (nthK_eq κ z (i % zl)).trans ?_
  cases z[i % zl]?<;>rfl
theorem cellsT_true {z:List AV} {zl d:Nat} {t:L (Option AV) d}:∀ {n i:Nat} {κ:List AV→R},cellsT z zl d t n i κ=true→
  ∃ vs,vs.length=n∧(∀ j v,vs[j]? = some v→cellO z zl d t (i + j)=some v)∧∀ κ',cellsT z zl d t n i κ' = κ' vs
 | 0,i,κ,e=>⟨[],rfl,fun j v h=>by simp at h,fun _=>rfl⟩
 | n + 1,i,κ,e=>by
  have step:∀ κ',cellsT z zl d t (n + 1) i κ' = cellK z zl d t (fun v=>fnat (Nat.succ i) fun j=>cellsT z zl d t n j fun vs=>κ' (v :: vs)) i:=fun _=>rfl
  rw [step,cellK_eq] at e
  cases hc:cellO z zl d t i with
  | none=>rw [hc] at e;cases e
  | some v=>
   rw [hc] at e
   simp only [fnat_eq] at e
   obtain ⟨vs,h1,h2,h3⟩:=cellsT_true e
   refine ⟨v :: vs,by simp [h1],fun j u h=>?_,fun κ'=>?_⟩
   ·cases j with
    | zero=>simp at h;subst h;exact hc
    | succ j=>have:=h2 j u (by simpa using h);rwa [show i + (j + 1)=i.succ + j by omega]
   ·rw [step,cellK_eq,hc]
    simp only [fnat_eq]
    exact h3 _
def setsF (d:Nat):List AV→Nat→L (Option AV) d→L (Option AV) d
 | [],_,t=>t
 | v :: vs,i,t=>setsF d vs (i + 1) (setL (Option AV) (some v) d i t)
theorem setsT_eq (d:Nat):∀ (vs:List AV) (i:Nat) (t:L (Option AV) d) (κ:L (Option AV) d→R),setsT d vs i t κ=κ (setsF d vs i t)
 | [],_,_,_=>rfl
 | v :: vs,i,t,κ=>by
  show setK (Option AV) (some v) d i t (fun t=>fnat (Nat.succ i) fun j=>setsT d vs j t κ)=_
  rw [setK_eq,fnat_eq,setsT_eq d vs]
  rfl
theorem getL_setsF (d:Nat):∀ (vs:List AV) (i:Nat) (t:L (Option AV) d) (j:Nat),i + vs.length≤8 ^ d→j < 8 ^ d→
  getL (Option AV) d j (setsF d vs i t)=if i≤j∧j < i + vs.length then vs[j - i]? else getL (Option AV) d j t
 | [],i,t,j,_,_=>by simp [setsF];omega
 | v :: vs,i,t,j,h,hj=>by
  simp only [List.length_cons] at h
  rw [setsF,getL_setsF d vs (i + 1) _ j (by omega) hj]
  by_cases h1:i=j
  ·subst h1
   rw [if_neg (by omega),if_pos (by simp),getL_setL]
   simp
  ·by_cases h2:i + 1≤j∧j < i + 1 + vs.length
   ·rw [if_pos h2,if_pos (by simp;omega)]
    rw [show j - i=(j - (i + 1)) + 1 by omega]
    simp
   ·rw [if_neg h2,if_neg (by simp;omega),getL_setL_ne _ _ _ (by omega) hj (by omega)]
theorem cellO_setsF {z:List AV} {zl d:Nat} {t:L (Option AV) d} {vs:List AV} {i j:Nat} (h:i + vs.length≤8 ^ d) (hj:j < 8 ^ d) :
  cellO z zl d (setsF d vs i t) j=if i≤j∧j < i + vs.length then vs[j - i]? else cellO z zl d t j:=by
 unfold cellO
 rw [getL_setsF d vs i t j h hj]
 by_cases h1:i≤j∧j < i + vs.length
 ·rw [if_pos h1,if_pos h1]
  have:j - i < vs.length:=by omega
  simp [List.getElem?_eq_getElem this]
 ·rw [if_neg h1,if_neg h1]
theorem toV_one {θ:Th}:∀ {v:AV},one v=true→(toV θ v).oneCell' = true
 | .i _ _,_=>rfl
 | .b _,_=>rfl
 | .p _ _,_=>rfl
 | .sl _ _ _ _,_=>rfl
 | .np,_=>rfl
 | .ns,_=>rfl
 | .s _,_=>rfl
 | .m _,_=>rfl
 | .nm,_=>rfl
 | .fn _ _,_=>rfl
 | .yl _,_=>rfl
 | .nf,_=>rfl
 | .ifc _ _,_=>rfl
 | .ni,_=>rfl
 | .l k N,_=>by show (lV k _).oneCell' = true;unfold lV;split<;>rfl
 | .q _ _ _,_=>rfl
 | .t _,_=>rfl
 | .f _ _,_=>rfl
 | .z _ _,_=>rfl
 | .x n,_=>θ.xv1 n
 | .xi n k r m,_=>by
   show (if k=12 then tailV θ n r m else if 20≤k then xbV (θ.ext n) k r else if 13≤k then xoV (θ.ext n) θ.lane k r m else xiV (θ.ext n) k).oneCell' = true
   split
   ·rfl
   split
   ·unfold xbV
    split
    ·rfl
    split
    ·rfl
    split
    ·rfl
    split<;>rfl
   split
   ·unfold xoV
    split
    ·rfl
    split
    ·rfl
    split<;>rfl
   ·unfold xiV
    split
    ·exact θ.ext1 n
    ·split<;>rfl
theorem toVs_get {θ:Th} {l:List AV} {j:Nat}:(toVs θ l)[j]? = (l[j]?).map (toV θ):=by rw [toVs_map];simp
theorem toVs_one {θ:Th} {l:List AV} (h:l.all one=true):∀ u ∈ toVs θ l,u.oneCell' = true:=by
 intro u hu
 rw [toVs_map] at hu
 obtain ⟨v,hv,rfl⟩:=List.mem_map.1 hu
 exact toV_one (by simpa using List.all_eq_true.1 h v hv)
theorem toVs_append {θ:Th} (a b:List AV):toVs θ (a ++ b)=toVs θ a ++ toVs θ b:=by simp [toVs_map]
theorem Oks_append {θ:Th} {a b:List AV}:Oks θ (a ++ b)↔Oks θ a∧Oks θ b:=by
 simp only [Oks_iff,List.mem_append]
 exact ⟨fun h=>⟨fun v hv=>h v (.inl hv),fun v hv=>h v (.inr hv)⟩,fun h v hv=>hv.elim (h.1 v) (h.2 v)⟩
theorem Oks_take {θ:Th} {a:List AV} (n:Nat) (h:Oks θ a):Oks θ (a.take n):=Oks_iff.2 fun v hv=>Oks_iff.1 h v (List.mem_of_mem_take hv)
theorem Oks_drop {θ:Th} {a:List AV} (n:Nat) (h:Oks θ a):Oks θ (a.drop n):=Oks_iff.2 fun v hv=>Oks_iff.1 h v (List.mem_of_mem_drop hv)
theorem all_take {α:Type} {p:α→Bool} {l:List α} (n:Nat) (h:l.all p=true):(l.take n).all p=true:=List.all_eq_true.2 fun v hv=>List.all_eq_true.1 h v (List.mem_of_mem_take hv)
theorem all_drop {α:Type} {p:α→Bool} {l:List α} (n:Nat) (h:l.all p=true):(l.drop n).all p=true:=List.all_eq_true.2 fun v hv=>List.all_eq_true.1 h v (List.mem_of_mem_drop hv)
theorem setCells_blk (b:Nat) (ty:TypeId) (fz:Nat × Nat):∀ (vs:List Value) (o:Nat) (w:World) (cur:Array Value),w.heap[b]? = some (.cells cur ty fz)→o + vs.length≤cur.size→
  ∃ cur',(w.setCells b o vs).heap[b]? = some (.cells cur' ty fz)∧cur'.size=cur.size∧∀ i,cur'[i]? = if o≤i∧i < o + vs.length then vs[i - o]? else cur[i]?
 | [],o,w,cur,h,_=>⟨cur,h,rfl,fun i=>by rw [if_neg (by simp)]⟩
 | v :: r,o,w,cur,h,hl=>by
  have hb:b < w.heap.size:=(Array.getElem?_eq_some_iff.1 h).1
  have h1:(w.setCell ⟨b,o,none⟩ v).heap[b]? = some (.cells (cur.setIfInBounds o v) ty fz):=by
   simp [World.setCell,Array.getElem?_modify,h]
  simp only [List.length_cons] at hl
  obtain ⟨cur',h2,h3,h4⟩:=setCells_blk b ty fz r (o + 1) _ _ h1 (by simp;omega)
  refine ⟨cur',h2,by simpa using h3,fun i=>?_⟩
  rw [h4 i]
  simp only [List.length_cons]
  by_cases e:i=o
  ·subst e
   rw [if_neg (by omega),if_pos (by omega),Array.getElem?_setIfInBounds_self_of_lt (by omega)]
   simp
  ·by_cases e2:o + 1≤i∧i < o + 1 + r.length
   ·rw [if_pos e2,if_pos (by omega),show i - o=(i - (o + 1)) + 1 by omega];simp
   ·rw [if_neg e2,if_neg (by omega),Array.getElem?_setIfInBounds_ne (Ne.symm e)]
theorem setCells_other (b:Nat):∀ (vs:List Value) (o:Nat) (w:World) (k:Nat),k≠b→(w.setCells b o vs).heap[k]? = w.heap[k]?
 | [],_,_,_,_=>rfl
 | v :: r,o,w,k,hk=>by
  rw [World.setCells,setCells_other b r (o + 1) _ k hk]
  exact heap_setCell_other w ⟨b,o,none⟩ k v hk
theorem setCells_plain (b:Nat):∀ (vs:List Value) (o:Nat) (w:World),((w.setCells b o vs).os=w.os∧(w.setCells b o vs).tape=w.tape∧(w.setCells b o vs).output=w.output)∧(w.setCells b o vs).heap.size=w.heap.size
 | [],_,_=>⟨⟨rfl,rfl,rfl⟩,rfl⟩
 | v :: r,o,w=>by
  obtain ⟨⟨h1,h2,h3⟩,h4⟩:=setCells_plain b r (o + 1) (w.setCell ⟨b,o,none⟩ v)
  exact ⟨⟨h1,h2,h3⟩,by rw [World.setCells,h4];simp [World.setCell]⟩
def Ext (h h':H):Prop:=∀ o a,obj h o=some a→obj h' o=some a
theorem Ext.refl (h:H):Ext h h:=fun _ _ e=>e
theorem get_is {o:Nat} {h:H} {a:AO} (ha:obj h o=some a) (κ:AO→R):get o h κ=κ a:=by
 rw [get_def,getK_eq]
 show opt AO κ (obj h o)=κ a
 rw [ha]
 rfl
section
variable {P:Program} {w0 w w':World} {pd:List (Nat × AO)} {θ:Th} {h:H} {nx:Nat}
theorem HR.obj_ (hr:HR P w0 pd θ h nx w) {o:Nat} {a:AO} (ho:θ.has o) (ha:obj h o=some a):OR P θ w o a:=by
 obtain ⟨_,_,_,b,h1,h2,_⟩:=hr.own o ho
 rw [ha] at h1;injection h1 with h1;subst h1;exact h2
theorem rd_ok (hr:HR P w0 pd θ h nx w) {o off n:Nat} {κ:List AV→R} (ho:θ.has o) (e:rdK o off n h κ=true) :
  ∃ vs,vs.length=n∧(∀ h',Ext h h'→∀ κ',rdK o off n h' κ' = κ' vs)∧κ vs=true∧Oks θ vs∧vs.all one=true∧
   ∀ j v,(toVs θ vs)[j]? = some v→w.cell? ⟨θ.blk o,θ.bas o + off + j,none⟩=some v:=by
 obtain ⟨a,ha,e1⟩:=get_true e
 have hor:=hr.obj_ ho ha
 cases a with
 | sm l=>
  obtain ⟨ty,h1,h2,h3,h4⟩:=hor
  simp only [dropL_eq,takeK_eq,List.length_drop] at e1
  split at e1
  ·rename_i hn
   refine ⟨(l.drop off).take n,by simp;omega,fun h' hx κ'=>?_,e1,Oks_take n (Oks_drop off h3),all_take n (all_drop off h4),fun j v hj=>?_⟩
   ·unfold rdK
    rw [get_is (hx o _ ha)]
    simp only [dropL_eq,takeK_eq,List.length_drop]
    rw [if_pos hn]
   ·rw [cell_of_row w _ _ _ _ _ h1,h2]
    rw [toVs_get,List.getElem?_take] at hj
    split at hj
    ·rw [List.getElem?_drop] at hj
     simp [toVs_get,hj]
    ·simp at hj
  ·cases e1
 | st t0 l=>
  obtain ⟨h1,h2,h3,h4⟩:=hor
  simp only [dropL_eq,takeK_eq,List.length_drop] at e1
  split at e1
  ·rename_i hn
   refine ⟨(l.drop off).take n,by simp;omega,fun h' hx κ'=>?_,e1,Oks_take n (Oks_drop off h3),all_take n (all_drop off h4),fun j v hj=>?_⟩
   ·unfold rdK
    rw [get_is (hx o _ ha)]
    simp only [dropL_eq,takeK_eq,List.length_drop]
    rw [if_pos hn]
   ·rw [cell_of_row w _ _ _ _ _ h1,h2]
    rw [toVs_get,List.getElem?_take] at hj
    split at hj
    ·rw [List.getElem?_drop] at hj
     simp [toVs_get,hj]
    ·simp at hj
  ·cases e1
 | bt t0 l=>cases e1
 | ce N es z zl d t top sh=>
  obtain ⟨c,ty,fz,h1,h2,h3,h4,h5,h6⟩:=hor
  obtain ⟨hle,e2⟩:=br_t e1
  have hle:off + n≤N:=Nat.le_of_ble_eq_true hle
  obtain ⟨vs,k1,k2,k3⟩:=cellsT_true e2
  have kk:∀ j v,vs[j]? = some v→Ok θ v∧one v=true∧c[θ.bas o + off + j]? = some (toV θ v):=by
   intro j v hj
   have hjl:j < n:=by rw [← k1];exact (List.getElem?_eq_some_iff.1 hj).1
   obtain ⟨u,q1,q2,q3,q4⟩:=h3 (off + j) (by omega)
   rw [k2 j v hj] at q1;injection q1 with q1;subst q1
   exact ⟨q2,q3,by rw [← q4,Nat.add_assoc]⟩
  refine ⟨vs,k1,fun h' hx κ'=>?_,by rw [k3] at e2;exact e2,Oks_iff.2 fun v hv=>?_,List.all_eq_true.2 fun v hv=>?_,fun j v hj=>?_⟩
  ·unfold rdK
   rw [get_is (hx o _ ha)]
   show br (Nat.ble (off + n) N) _ false=_
   rw [Nat.ble_eq_true_of_le hle]
   exact k3 κ'
  ·obtain ⟨j,hj⟩:=List.getElem?_of_mem hv
   exact (kk j v hj).1
  ·obtain ⟨j,hj⟩:=List.getElem?_of_mem hv
   exact (kk j v hj).2.1
  ·rw [toVs_get] at hj
   cases hv:vs[j]? with
   | none=>rw [hv] at hj;cases hj
   | some u=>
    rw [hv] at hj;injection hj with hj;subst hj
    rw [cell_of_row w _ _ _ _ _ h1];exact (kk j u hv).2.2
 | mp es c=>cases e1
 | it m s1 s2 s3=>cases e1
 | lp a b c d e f=>cases e1
 | df b=>cases e1
 | dead=>cases e1
theorem rd1_ok (hr:HR P w0 pd θ h nx w) {o off:Nat} {κ:AV→R} (ho:θ.has o) (e:rd1 o off h κ=true) :
  ∃ v,(∀ h',Ext h h'→∀ κ',rd1 o off h' κ' = κ' v)∧κ v=true∧Ok θ v∧one v=true∧w.cell? ⟨θ.blk o,θ.bas o + off,none⟩=some (toV θ v):=by
 obtain ⟨a,ha,e1⟩:=get_true e
 have hor:=hr.obj_ ho ha
 cases a with
 | sm l=>
  obtain ⟨ty,h1,h2,h3,h4⟩:=hor
  simp only [nthK_eq] at e1
  cases hl:l[off]? with
  | none=>rw [hl] at e1;cases e1
  | some v=>
   rw [hl] at e1
   have hm:=List.mem_of_getElem? hl
   refine ⟨v,fun h' hx κ'=>?_,e1,Oks_iff.1 h3 v hm,List.all_eq_true.1 h4 v hm,?_⟩
   ·unfold rd1
    rw [get_is (hx o _ ha)]
    simp only [nthK_eq,hl]
   ·rw [cell_of_row w _ _ _ _ _ h1,h2];simp [toVs_get,hl]
 | st t0 l=>
  obtain ⟨h1,h2,h3,h4⟩:=hor
  simp only [nthK_eq] at e1
  cases hl:l[off]? with
  | none=>rw [hl] at e1;cases e1
  | some v=>
   rw [hl] at e1
   have hm:=List.mem_of_getElem? hl
   refine ⟨v,fun h' hx κ'=>?_,e1,Oks_iff.1 h3 v hm,List.all_eq_true.1 h4 v hm,?_⟩
   ·unfold rd1
    rw [get_is (hx o _ ha)]
    simp only [nthK_eq,hl]
   ·rw [cell_of_row w _ _ _ _ _ h1,h2];simp [toVs_get,hl]
 | bt t0 l=>cases e1
 | ce N es z zl d t top sh=>
  obtain ⟨c,ty,fz,h1,h2,h3,h4,h5,h6⟩:=hor
  obtain ⟨hlt,e2⟩:=br_t e1
  have hlt:off < N:=by simpa [Nat.blt_eq] using hlt
  obtain ⟨v,q1,q2,q3,q4⟩:=h3 off hlt
  rw [cellK_eq,q1] at e2
  refine ⟨v,fun h' hx κ'=>?_,e2,q2,q3,by rw [cell_of_row w _ _ _ _ _ h1];exact q4⟩
  unfold rd1
  rw [get_is (hx o _ ha)]
  show br (Nat.blt off N) _ false=_
  rw [show Nat.blt off N=true by simpa [Nat.blt_eq] using hlt]
  show cellK z zl d t κ' off=_
  rw [cellK_eq,q1]
 | mp es c=>cases e1
 | it m s1 s2 s3=>cases e1
 | lp a b c d e f=>cases e1
 | df b=>cases e1
 | dead=>cases e1
theorem setL_same {α:Type} (x:α):∀ (n i:Nat) (t:L α n),getL α n i t=x→i < 8 ^ n→setL α x n i t=t
 | 0,_,_,h,_=>h.symm
 | n + 1,i,t,h,hi=>by
  have hp:0 < 8 ^ n:=Nat.pow_pos (by omega)
  rw [Nat.pow_succ] at hi
  have hd:i / 8 ^ n < 8:=Nat.div_lt_of_lt_mul (by omega)
  have ih:=setL_same x n (i % 8 ^ n) (ch (i / 8 ^ n) (t:N8 (L α n))) h (Nat.mod_lt _ hp)
  show sch (i / 8 ^ n) (setL α x n (i % 8 ^ n) (ch (i / 8 ^ n) (t:N8 (L α n)))) (t:N8 (L α n))=t
  rw [ih]
  have key:∀ (d:Nat) (t:N8 (L α n)),d < 8→sch d (ch d t) t=t:=by
   intro d t hd
   cases t
   rcases d with _ | _ | _ | _ | _ | _ | _ | _ | d<;>first | rfl | omega
  exact key _ _ hd
def Fit (w:World) (b o n:Nat):Prop:=∃ cur ty fz,w.heap[b]? = some (.cells cur ty fz)∧o + n≤cur.size∧∀ i,i < cur.size→(fz.1≤i && i < fz.2)=false
theorem Fit.store {b o:Nat} {vs:List Value} (hf:Fit w b o vs.length) (h1:∀ v ∈ vs,v.oneCell' = true) (P:Program) :
  (storeCells ⟨b,o,none⟩ vs 0).run P w = .ok () (w.setCells b o vs):=by
 obtain ⟨cur,ty,fz,e1,e2,e3⟩:=hf
 have:=run_storeCells_cells (P:=P) b o vs 0 w (fun j hj=>by rw [cell_of_row w _ _ _ _ _ e1,Array.getElem?_eq_getElem (by omega)];rfl)
  (fun j hj=>by simp only [World.frozen?,e1];exact e3 _ (by omega)) h1
 simpa using this
theorem wr_ok (hr:HR P w0 pd θ h nx w) {o off:Nat} {vs:List AV} {κ:H→R} (ho:θ.has o) (hv:Oks θ vs) (hv1:vs.all one=true) (e:wrK o off vs h κ=true) :
  ∃ h',κ h' = true∧HR P w0 pd θ h' nx (w.setCells (θ.blk o) (θ.bas o + off) (toVs θ vs))∧Fit w (θ.blk o) (θ.bas o + off) (toVs θ vs).length:=by
 obtain ⟨a,ha,e1⟩:=get_true e
 have hor:=hr.obj_ ho ha
 cases a with
 | sm l=>
  obtain ⟨ty,h1,h2,h3,h4⟩:=hor
  simp only [putLK_eq,put_eq] at e1
  split at e1
  ·rename_i hn
   have hsz:θ.bas o + off + (toVs θ vs).length≤(toVs θ l).toArray.size:=by rw [h2];simp;omega
   obtain ⟨cur',k1,k2,k3⟩:=setCells_blk (θ.blk o) ty (0,0) (toVs θ vs) (θ.bas o + off) w _ h1 hsz
   refine ⟨_,e1,?_,⟨_,_,_,h1,hsz,fun i _=>by simp⟩⟩
   have hcur:cur' = (toVs θ (l.take off ++ vs ++ l.drop (off + vs.length))).toArray:=by
    apply Array.ext_getElem?
    intro i
    rw [k3 i,h2]
    simp only [Nat.zero_add,toVs_length,List.getElem?_toArray]
    rw [toVs_get,toVs_get,toVs_get]
    have hto:(l.take off).length=off:=by simp;omega
    by_cases c1:off≤i∧i < off + vs.length
    ·rw [if_pos c1,List.append_assoc,List.getElem?_append_right (by omega),hto,List.getElem?_append_left (by omega)]
    ·rw [if_neg c1]
     by_cases c2:i < off
     ·rw [List.append_assoc,List.getElem?_append_left (by omega),List.getElem?_take_of_lt c2]
     ·rw [List.append_assoc,List.getElem?_append_right (by omega),hto,List.getElem?_append_right (by omega),List.getElem?_drop]
      congr 2
      omega
   have hup:=HR.upd hr ho ha rfl (w':=w.setCells (θ.blk o) (θ.bas o + off) (toVs θ vs)) (a':=.sm (l.take off ++ vs ++ l.drop (off + vs.length))) (setCells_plain _ _ _ _).2 (fun b hb=>setCells_other _ _ _ _ b hb) (setCells_plain _ _ _ _).1
    ⟨ty,by rw [k1,hcur],h2,Oks_append.2 ⟨Oks_append.2 ⟨Oks_take _ h3,hv⟩,Oks_drop _ h3⟩,by simp only [List.all_append,all_take _ h4,hv1,all_drop _ h4,Bool.and_self]⟩ (fun x hx=>by cases hx)
   exact hup
  ·cases e1
 | st t0 l=>
  obtain ⟨h1,h2,h3,h4⟩:=hor
  simp only [putLK_eq,put_eq] at e1
  split at e1
  ·rename_i hn
   have hsz:θ.bas o + off + (toVs θ vs).length≤(toVs θ l).toArray.size:=by rw [h2];simp;omega
   obtain ⟨cur',k1,k2,k3⟩:=setCells_blk (θ.blk o) t0 (0,0) (toVs θ vs) (θ.bas o + off) w _ h1 hsz
   refine ⟨_,e1,?_,⟨_,_,_,h1,hsz,fun i _=>by simp⟩⟩
   have hcur:cur' = (toVs θ (l.take off ++ vs ++ l.drop (off + vs.length))).toArray:=by
    apply Array.ext_getElem?
    intro i
    rw [k3 i,h2]
    simp only [Nat.zero_add,toVs_length,List.getElem?_toArray]
    rw [toVs_get,toVs_get,toVs_get]
    have hto:(l.take off).length=off:=by simp;omega
    by_cases c1:off≤i∧i < off + vs.length
    ·rw [if_pos c1,List.append_assoc,List.getElem?_append_right (by omega),hto,List.getElem?_append_left (by omega)]
    ·rw [if_neg c1]
     by_cases c2:i < off
     ·rw [List.append_assoc,List.getElem?_append_left (by omega),List.getElem?_take_of_lt c2]
     ·rw [List.append_assoc,List.getElem?_append_right (by omega),hto,List.getElem?_append_right (by omega),List.getElem?_drop]
      congr 2
      omega
   have hup:=HR.upd hr ho ha rfl (w':=w.setCells (θ.blk o) (θ.bas o + off) (toVs θ vs)) (a':=.st t0 (l.take off ++ vs ++ l.drop (off + vs.length))) (setCells_plain _ _ _ _).2 (fun b hb=>setCells_other _ _ _ _ b hb) (setCells_plain _ _ _ _).1
    ⟨by rw [k1,hcur],h2,Oks_append.2 ⟨Oks_append.2 ⟨Oks_take _ h3,hv⟩,Oks_drop _ h3⟩,by simp only [List.all_append,all_take _ h4,hv1,all_drop _ h4,Bool.and_self]⟩ (fun x hx=>by cases hx)
   exact hup
  ·cases e1
 | bt t0 l=>cases e1
 | ce N es z zl d t top sh=>
  obtain ⟨c,ty,fz,h1,h2,h3,h4,h5,h6⟩:=hor
  obtain ⟨htop,e1⟩:=br_t e1
  obtain ⟨hle,e1⟩:=br_t e1
  have hle:off + vs.length≤N:=by have:=Nat.le_of_ble_eq_true hle;rwa [lenN_eq] at this
  rw [setsT_eq,put_eq,killK_eq] at e1
  have hsz:N=0∨θ.bas o + N≤c.size:=by
   cases N with
   | zero=>exact .inl rfl
   | succ m=>
    obtain ⟨v,_,_,_,q⟩:=h3 m (by omega)
    have:=(Array.getElem?_eq_some_iff.1 q).1
    exact .inr (by omega)
  have hbs:θ.bas o + off + (toVs θ vs).length≤c.size:=by
   rw [toVs_length]
   rcases hsz with hz | hz
   ·subst hz
    have h0:off=0∧vs.length=0:=by omega
    rcases Nat.eq_zero_or_pos es with hes | hes
    ·have:=(h5 hes).1;omega
    ·have:=(h6 (by omega)).2.2;omega
   ·omega
  obtain ⟨cur',k1,k2,k3⟩:=setCells_blk (θ.blk o) ty fz (toVs θ vs) (θ.bas o + off) w _ h1 hbs
  refine ⟨_,e1,?_,⟨_,_,_,h1,hbs,h4.free⟩⟩
  have hx:=HR.upd hr ho ha htop (w':=w.setCells (θ.blk o) (θ.bas o + off) (toVs θ vs)) (a':=.ce N es z zl d (setsF d vs off t) true []) (setCells_plain _ _ _ _).2 (fun b hb=>setCells_other _ _ _ _ b hb) (setCells_plain _ _ _ _).1
   ⟨cur',ty,fz,k1,h2,fun i hi=>?_,by rw [k2];exact h4,by rw [k2];exact h5,by rw [k2];exact h6⟩ (fun x hx=>by cases hx)
  ·exact hx
  ·rw [cellO_setsF (by omega) (by omega),k3]
   by_cases c1:off≤i∧i < off + vs.length
   ·rw [if_pos c1,if_pos (by rw [toVs_length];omega),show θ.bas o + i - (θ.bas o + off)=i - off by omega,toVs_get]
    have hl:i - off < vs.length:=by omega
    refine ⟨vs[i - off],List.getElem?_eq_getElem hl,Oks_iff.1 hv _ (List.getElem_mem hl),List.all_eq_true.1 hv1 _ (List.getElem_mem hl),by rw [List.getElem?_eq_getElem hl];rfl⟩
   ·rw [if_neg c1,if_neg (by rw [toVs_length];omega)]
    exact h3 i hi
 | mp es c=>cases e1
 | it m s1 s2 s3=>cases e1
 | lp a b c d e f=>cases e1
 | df b=>cases e1
 | dead=>cases e1
end
end Go.AM

namespace Go.AM
open Go
theorem asK_true {k:Nat} {κ:Int→R} {v:AV} (e:asK k κ v=true):∃ n,v = .i k n∧κ n=true:=by
 cases v<;>first | (cases e;done) | skip
 rename_i k' n
 obtain ⟨h1,h2⟩:=br_t e
 have:=Nat.eq_of_beq_eq_true h1
 subst this
 exact ⟨n,rfl,h2⟩
theorem asK_i (k:Nat) (κ:Int→R) (n:Int):asK k κ (.i k n)=κ n:=by
 show br (Nat.beq k k) (κ n) false=_
 rw [Nat.beq_refl];rfl
theorem asI_true {κ:Nat→Int→R} {v:AV} (e:asI κ v=true):∃ k n,v = .i k n∧κ k n=true:=by
 cases v<;>first | (cases e;done) | skip
 exact ⟨_,_,rfl,e⟩
theorem asN_true {κ:Nat→R} {v:AV} (e:asN κ v=true):∃ k n,v = .i k (.ofNat n)∧κ n=true:=by
 cases v<;>first | (cases e;done) | skip
 rename_i k n
 cases n with
 | ofNat n=>exact ⟨k,n,rfl,e⟩
 | negSucc n=>cases e
theorem asB_true {κ:Bool→R} {v:AV} (e:asB κ v=true):∃ c,v = .b c∧κ c=true:=by
 cases v<;>first | (cases e;done) | skip
 exact ⟨_,rfl,e⟩
theorem asP_true {κ:Nat→Nat→R} {v:AV} (e:asP κ v=true):∃ o i,v = .p o i∧κ o i=true:=by
 cases v<;>first | (cases e;done) | skip
 exact ⟨_,_,rfl,e⟩
theorem asS_true {κ:List Nat→R} {v:AV} (e:asS κ v=true):∃ l,v = .s l∧κ l=true:=by
 cases v<;>first | (cases e;done) | skip
 exact ⟨_,rfl,e⟩
theorem asM_true {κ:Nat→R} {v:AV} (e:asM κ v=true):∃ o,v = .m o∧κ o=true:=by
 cases v<;>first | (cases e;done) | skip
 exact ⟨_,rfl,e⟩
theorem asTu_true {κ:List AV→R} {v:AV} (e:asTu κ v=true):∃ l,v = .tu l∧κ l=true:=by
 cases v<;>first | (cases e;done) | skip
 exact ⟨_,rfl,e⟩
theorem asAg_true {κ:List AV→R} {v:AV} (e:asAg κ v=true):∃ l,v = .ag l∧κ l=true:=by
 cases v<;>first | (cases e;done) | skip
 exact ⟨_,rfl,e⟩
theorem asSl_true {κ:Nat→Nat→Nat→Option Nat→R} {v:AV} (e:asSl κ v=true):∃ o off len cap,v = .sl o off len cap∧κ o off len cap=true:=by
 cases v<;>first | (cases e;done) | skip
 exact ⟨_,_,_,_,rfl,e⟩
def cellsV:AV→List AV
 | .ag l=>l
 | v=>[v]
theorem cells_one {u:Value} (h:u.oneCell' = true):u.cells.toList=[u]:=by
 cases u<;>first | rfl | cases h
theorem cellsK_true {κ:List AV→R} {v:AV} (e:cellsK κ v=true):(∀ κ',cellsK κ' v=κ' (cellsV v))∧κ (cellsV v)=true∧
  ∀ {θ:Th} {u:Value},VR θ v u→Oks θ (cellsV v)∧(cellsV v).all one=true∧u.cells.toList=toVs θ (cellsV v):=by
 cases v<;>first
  | (cases e;done)
  | exact ⟨fun _=>rfl,e,fun {θ u} h=>⟨⟨h.1,trivial⟩,rfl,by rw [h.2];rfl⟩⟩
  | exact ⟨fun _=>rfl,e,fun {θ u} h=>⟨⟨h.1,trivial⟩,rfl,by rw [h.2];exact cells_one (θ.xv1 _)⟩⟩
  | exact ⟨fun _=>rfl,e,fun {θ u} h=>⟨⟨h.1,trivial⟩,rfl,by rw [h.2];exact cells_one (toV_one rfl)⟩⟩
  | exact ⟨fun _=>rfl,e,fun {θ u} h=>⟨h.1.1,h.1.2,by rw [h.2];simp [toV,Value.cells,cellsV]⟩⟩
section
variable {θ:Th} {u:Value}
theorem VR.i {k:Nat} {n:Int} (h:VR θ (.i k n) u):u = .int (kindOf k) n:=h.2
theorem VR.b {c:Bool} (h:VR θ (.b c) u):u = .bool c:=h.2
theorem VR.p {o i:Nat} (h:VR θ (.p o i) u):u = .pointer (some ⟨θ.blk o,θ.bas o + i,none⟩)∧θ.has o:=⟨h.2,h.1⟩
theorem VR.s {l:List Nat} (h:VR θ (.s l) u):u = .string (bytesOf l)∧∀ x ∈ l,x < 256:=⟨h.2,h.1⟩
theorem VR.m {o:Nat} (h:VR θ (.m o) u):u = .map (some (θ.blk o))∧θ.has o:=⟨h.2,h.1⟩
theorem VR.ag {l:List AV} (h:VR θ (.ag l) u):u = .agg (toVs θ l).toArray∧Oks θ l∧l.all one=true:=⟨h.2,h.1⟩
theorem VR.tu {l:List AV} (h:VR θ (.tu l) u):u = .tuple (toVs θ l).toArray∧Oks θ l:=⟨h.2,h.1⟩
theorem VR.sls {o off len c:Nat} (h:VR θ (.sl o off len (some c)) u):u = .slice (some ⟨θ.blk o,θ.bas o + off,none⟩) len c∧θ.has o:=⟨h.2,h.1⟩
theorem VR.sln {o off len:Nat} (h:VR θ (.sl o off len none) u):u = .slice (some ⟨θ.blk o,θ.bas o + off,none⟩) len ((θ.siz o - off) / θ.esz o)∧θ.has o:=⟨h.2,h.1⟩
theorem VR.sl {o off len:Nat} {cap:Option Nat} (h:VR θ (.sl o off len cap) u):θ.has o∧∃ c,u = .slice (some ⟨θ.blk o,θ.bas o + off,none⟩) len c:=by
 cases cap with
 | some c=>exact ⟨h.1,c,h.2⟩
 | none=>exact ⟨h.1,_,h.2⟩
theorem vr_i (θ:Th) (k:Nat) (n:Int):VR θ (.i k n) (.int (kindOf k) n):=⟨trivial,rfl⟩
theorem vr_b (θ:Th) (c:Bool):VR θ (.b c) (.bool c):=⟨trivial,rfl⟩
end
theorem kind_kn (k:IntKind):kindOf (kn k)=k:=by cases k<;>rfl
theorem omap_some {α β:Type} {f:α→Option β}:∀ {l:List α} {r:List β},omap f l=some r→l.length=r.length∧∀ (i:Nat) (x:α),l[i]? = some x→∃ y,r[i]? = some y∧f x=some y
 | [],r,h=>by cases h;exact ⟨rfl,fun i x h=>by simp at h⟩
 | x :: l,r,h=>by
  unfold omap at h
  split at h
  ·rename_i y s hy hs
   injection h with h;subst h
   obtain ⟨h1,h2⟩:=omap_some hs
   refine ⟨by simp [h1],fun i z hz=>?_⟩
   cases i with
   | zero=>simp at hz;subst hz;exact ⟨y,rfl,hy⟩
   | succ i=>exact h2 i z (by simpa using hz)
  ·cases h
theorem omap_map {α β γ:Type} {f:α→Option β} {g:β→γ} {k:α→γ} {l:List α} {r:List β} (h:omap f l=some r) (hg:∀ x y,x ∈ l→f x=some y→g y=k x):r.map g=l.map k:=by
 obtain ⟨h1,h2⟩:=omap_some h
 apply List.ext_getElem?
 intro i
 simp only [List.getElem?_map]
 cases hl:l[i]? with
 | none=>
  have:r[i]? = none:=by
   rw [List.getElem?_eq_none_iff] at hl ⊢;omega
  rw [this];rfl
 | some x=>
  obtain ⟨y,hy,hf⟩:=h2 i x hl
  rw [hy]
  simp [hg x y (List.mem_of_getElem? hl) hf]
theorem bytesOf_toNat (s:ByteArray):bytesOf (s.data.toList.map (·.toNat))=s:=by
 unfold bytesOf
 rw [List.map_map]
 have:(UInt8.ofNat ∘ fun x:UInt8=>x.toNat)=id:=by funext x;simp
 rw [this];simp
theorem ofV_ok (θ:Th):∀ {n:Nat} {v:Value} {x:AV},ofV n v=some x→VR θ x v
 | 0,_,_,h=>by simp [ofV] at h
 | n + 1,v,x,h=>by
  unfold ofV at h
  split at h
  ·injection h with h;subst h;exact ⟨trivial,rfl⟩
  ·injection h with h;subst h;exact ⟨trivial,by simp [toV,kind_kn]⟩
  ·injection h with h;subst h
   refine ⟨fun x hx=>?_,by simp [toV,bytesOf_toNat]⟩
   obtain ⟨y,_,rfl⟩:=List.mem_map.1 hx
   exact y.toNat_lt
  ·injection h with h;subst h;exact ⟨trivial,rfl⟩
  ·injection h with h;subst h;exact ⟨trivial,rfl⟩
  ·injection h with h;subst h;exact ⟨trivial,rfl⟩
  ·injection h with h;subst h;exact ⟨trivial,rfl⟩
  ·injection h with h;subst h;exact ⟨trivial,rfl⟩
  ·rename_i t v
   cases hv:ofV n v with
   | none=>rw [hv] at h;cases h
   | some y=>
    rw [hv] at h;injection h with h;subst h
    have:=ofV_ok θ hv
    exact ⟨this.1,by rw [this.2];rfl⟩
  ·rename_i cs
   split at h
   ·rename_i l hl
    split at h
    ·rename_i h1
     injection h with h;subst h
     refine ⟨⟨Oks_iff.2 fun y hy=>?_,h1⟩,?_⟩
     ·obtain ⟨i,hi⟩:=List.getElem?_of_mem hy
      obtain ⟨k1,k2⟩:=omap_some hl
      have hlt:i < cs.toList.length:=by rw [k1];exact (List.getElem?_eq_some_iff.1 hi).1
      obtain ⟨z,q1,q2⟩:=k2 i _ (List.getElem?_eq_getElem hlt)
      rw [hi] at q1;injection q1 with q1;subst q1
      exact (ofV_ok θ q2).1
     ·have:=omap_map (g:=toV θ) (k:=id) hl (fun x y _ hf=>(ofV_ok θ hf).2.symm)
      simp only [toV,toVs_map,this,List.map_id,Array.toArray_toList]
    ·cases h
   ·cases h
  ·rename_i cs
   cases hl:omap (ofV n) cs.toList with
   | none=>rw [hl] at h;cases h
   | some l=>
    rw [hl] at h;injection h with h;subst h
    refine ⟨Oks_iff.2 fun y hy=>?_,?_⟩
    ·obtain ⟨i,hi⟩:=List.getElem?_of_mem hy
     obtain ⟨k1,k2⟩:=omap_some hl
     have hlt:i < cs.toList.length:=by rw [k1];exact (List.getElem?_eq_some_iff.1 hi).1
     obtain ⟨z,q1,q2⟩:=k2 i _ (List.getElem?_eq_getElem hlt)
     rw [hi] at q1;injection q1 with q1;subst q1
     exact (ofV_ok θ q2).1
    ·have:=omap_map (g:=toV θ) (k:=id) hl (fun x y _ hf=>(ofV_ok θ hf).2.symm)
     simp only [toV,toVs_map,this,List.map_id,Array.toArray_toList]
  ·cases h
def XOk (x:XF) (y:Operand):Prop:=∀ en,∃ v,(∀ κ,x en κ=κ v)∧∀ θ (a:Act),ER θ en a.tmps→VR θ v (a.eval y)
theorem x_ok {y:Operand} {x:X} (h:trX y=some x):XOk (dX x) y:=by
 intro en
 unfold trX at h
 split at h
 ·rename_i t
  split at h
  ·rename_i ht
   injection h with h;subst h
   exact ⟨getL AV 3 t en,fun κ=>getK_eq κ 3 t en,fun θ a hE=>hE t ht⟩
  ·cases h
 ·rename_i v
  cases hv:ofV 40 v with
  | none=>rw [hv] at h;cases h
  | some y=>
   rw [hv] at h;injection h with h;subst h
   exact ⟨y,fun _=>rfl,fun θ a _=>ofV_ok θ hv⟩
 ·injection h with h;subst h
  exact ⟨.fn _ [],fun _=>rfl,fun θ a _=>⟨trivial,rfl⟩⟩
 ·cases h
def XsOk (xs:XsF) (ys:List Operand):Prop:=∀ en,∃ vs,(∀ κ,xs en κ=κ vs)∧vs.length=ys.length∧∀ θ (a:Act),ER θ en a.tmps→Oks θ vs∧ys.map a.eval=toVs θ vs
theorem xs_ok:∀ {ys:List Operand} {xs:List X},omap trX ys=some xs→XsOk (dXs xs) ys
 | [],xs,h=>by
  cases h
  exact fun en=>⟨[],fun _=>rfl,rfl,fun _ _ _=>⟨trivial,rfl⟩⟩
 | y :: ys,xs,h=>by
  unfold omap at h
  split at h
  ·rename_i x r hx hr
   injection h with h;subst h
   intro en
   obtain ⟨v,h1,h2⟩:=x_ok hx en
   obtain ⟨vs,k1,k3,k2⟩:=xs_ok hr en
   refine ⟨v :: vs,fun κ=>?_,by simp [k3],fun θ a hE=>?_⟩
   ·show dX x en (fun v=>dXs r en fun vs=>κ (v :: vs))=_
    rw [h1,k1]
   ·exact ⟨⟨(h2 θ a hE).1,(k2 θ a hE).1⟩,by simp only [List.map_cons,toVs,(h2 θ a hE).2,(k2 θ a hE).2]⟩
  ·cases h
theorem khi_le (k:Nat):khi k≤2 ^ (kindOf k).bits:=by
 rcases k with _ | _ | _ | _ | _ | _ | _ | k<;>simp [khi,kindOf,IntKind.bits]
theorem wrap_nat {k m:Nat} (h:m < khi k):(kindOf k).wrap (.ofNat m) = .ofNat m:=by
 rcases k with _ | _ | _ | _ | _ | _ | _ | k<;>simp only [khi,kindOf] at h ⊢<;>simp only [IntKind.wrap,IntKind.bits,IntKind.signed,Int.ofNat_eq_natCast]<;>simp<;>omega
theorem wrap_neg {k m:Nat} (h:m < klo k):(kindOf k).wrap (.negSucc m) = .negSucc m:=by
 rcases k with _ | _ | _ | _ | k<;>simp only [klo,kindOf] at h ⊢<;>first | omega | (simp only [IntKind.wrap,IntKind.bits,IntKind.signed,Int.negSucc_eq];simp;omega)
theorem wrN_eq (k m:Nat) (κ:Int→R):wrN k m κ=κ ((kindOf k).wrap (.ofNat m)):=by
 unfold wrN
 rw [fnat_eq]
 cases h:Nat.blt m (khi k) with
 | true=>rw [wrap_nat (by simpa [Nat.blt_eq] using h)];rfl
 | false=>exact fint_eq _ _
theorem wrG_eq (k m:Nat) (κ:Int→R):wrG k m κ=κ ((kindOf k).wrap (.negSucc m)):=by
 unfold wrG
 rw [fnat_eq]
 cases h:Nat.blt m (klo k) with
 | true=>rw [wrap_neg (by simpa [Nat.blt_eq] using h)];rfl
 | false=>exact fint_eq _ _
theorem wrap_eq (k:Nat) (n:Int) (κ:Int→R):wrap k n κ=κ ((kindOf k).wrap n):=by
 cases n with
 | ofNat m=>exact wrN_eq k m κ
 | negSucc m=>exact wrG_eq k m κ
theorem arAdd_eq (k:Nat) (a b:Int) (κ:Int→R):arAdd k a b κ=κ ((kindOf k).wrap (a + b)):=by
 unfold arAdd
 cases a<;>cases b<;>simp only [sgn]<;>first | exact wrN_eq _ _ _ | exact wrap_eq _ _ _
theorem arSub_eq (k:Nat) (a b:Int) (κ:Int→R):arSub k a b κ=κ ((kindOf k).wrap (a - b)):=by
 unfold arSub
 cases a<;>cases b<;>simp only [sgn]<;>try exact wrap_eq _ _ _
 rename_i m n
 cases h:Nat.ble n m with
 | false=>exact wrap_eq _ _ _
 | true=>
  have h:=Nat.le_of_ble_eq_true h
  refine (wrN_eq _ _ _).trans ?_
  congr 2
  show ((Nat.sub m n:Nat):Int)=(m:Int) - (n:Int)
  have:Nat.sub m n=m - n:=rfl
  rw [this];omega
theorem arMul_eq (k:Nat) (a b:Int) (κ:Int→R):arMul k a b κ=κ ((kindOf k).wrap (a * b)):=by
 unfold arMul
 cases a<;>cases b<;>simp only [sgn]<;>first | exact wrN_eq _ _ _ | exact wrap_eq _ _ _
theorem isZ_true {b:Int} {nz:R} (e:isZ b false nz=true):b≠0∧nz=true:=by
 cases b with
 | ofNat n=>
  obtain ⟨h1,h2⟩:=br_f e
  refine ⟨fun h=>?_,h2⟩
  have:n=0:=by have h:(n:Int)=0:=h;omega
  subst this
  simp at h1
 | negSucc n=>exact ⟨by simp,e⟩
theorem isZ_eq {b:Int} (h:b≠0) (nz:R):isZ b false nz=nz:=by
 cases b with
 | ofNat n=>
  show br (Nat.beq n 0) false nz=nz
  have:Nat.beq n 0=false:=by
   cases n with
   | zero=>exact absurd rfl h
   | succ n=>rfl
  rw [this];rfl
 | negSucc n=>rfl
theorem arQuo_eq (k:Nat) (a b:Int) (κ:Int→R) (h:b≠0):arQuo k a b κ=κ ((kindOf k).wrap (a.tdiv b)):=by
 unfold arQuo
 rw [isZ_eq h]
 cases a<;>cases b<;>simp only [sgn]<;>first | exact wrN_eq _ _ _ | exact wrap_eq _ _ _
theorem arRem_eq (k:Nat) (a b:Int) (κ:Int→R) (h:b≠0):arRem k a b κ=κ (a.tmod b):=by
 unfold arRem
 rw [isZ_eq h]
 cases a<;>cases b<;>simp only [sgn]<;>first | exact fnat_eq _ _ | exact fint_eq _ _
theorem khi_pow (k:Nat):∃ n,khi k=2 ^ n∧n≤(kindOf k).bits:=by
 rcases k with _ | _ | _ | _ | _ | _ | _ | k
 ·exact ⟨7,rfl,by decide⟩
 ·exact ⟨15,rfl,by decide⟩
 ·exact ⟨31,rfl,by decide⟩
 ·exact ⟨63,rfl,by decide⟩
 ·exact ⟨8,rfl,by decide⟩
 ·exact ⟨16,rfl,by decide⟩
 ·exact ⟨32,rfl,by decide⟩
 ·exact ⟨64,rfl,by show 64≤IntKind.u64.bits;decide⟩
theorem ofInt_nat {w m:Nat}:BitVec.ofInt w (.ofNat m)=BitVec.ofNat w m:=by
 apply BitVec.eq_of_toNat_eq
 simp
theorem arBit_eq {op:BinOp} {f:Nat→Nat→Nat} {k:Nat} (hf:∀ m n,m < khi k→n < khi k→bitsI op (kindOf k) (.ofNat m) (.ofNat n) = .ofNat (f m n)) (a b:Int) (κ:Int→R) :
  arBit op f k a b κ=κ (bitsI op (kindOf k) a b):=by
 unfold arBit
 cases a<;>cases b<;>simp only [sgn]<;>try exact fint_eq _ _
 rename_i m n
 cases h1:Nat.blt m (khi k) with
 | false=>exact fint_eq _ _
 | true=>
  cases h2:Nat.blt n (khi k) with
  | false=>exact fint_eq _ _
  | true=>
   show fnat (f m n) (fun r=>κ (.ofNat r))=_
   rw [fnat_eq,hf m n (by simpa [Nat.blt_eq] using h1) (by simpa [Nat.blt_eq] using h2)]
section
variable {k m n:Nat}
theorem toNat_lo (h:m < khi k):(BitVec.ofNat (kindOf k).bits m).toNat=m:=by
 rw [BitVec.toNat_ofNat,Nat.mod_eq_of_lt (Nat.lt_of_lt_of_le h (khi_le k))]
theorem bits_and (h1:m < khi k) (h2:n < khi k):bitsI .and (kindOf k) (.ofNat m) (.ofNat n) = .ofNat (Nat.land m n):=by
 have e:(BitVec.ofNat (kindOf k).bits m &&& BitVec.ofNat (kindOf k).bits n).toNat=Nat.land m n:=by rw [BitVec.toNat_and,toNat_lo h1,toNat_lo h2];rfl
 simp only [bitsI,ofInt_nat,e]
 exact wrap_nat (Nat.lt_of_le_of_lt Nat.and_le_left h1)
theorem bits_or (h1:m < khi k) (h2:n < khi k):bitsI .or (kindOf k) (.ofNat m) (.ofNat n) = .ofNat (Nat.lor m n):=by
 have e:(BitVec.ofNat (kindOf k).bits m ||| BitVec.ofNat (kindOf k).bits n).toNat=Nat.lor m n:=by rw [BitVec.toNat_or,toNat_lo h1,toNat_lo h2];rfl
 simp only [bitsI,ofInt_nat,e]
 obtain ⟨q,hq,_⟩:=khi_pow k
 rw [hq] at h1 h2
 exact wrap_nat (by rw [hq];exact Nat.or_lt_two_pow h1 h2)
theorem bits_xor (h1:m < khi k) (h2:n < khi k):bitsI .xor (kindOf k) (.ofNat m) (.ofNat n) = .ofNat (Nat.xor m n):=by
 have e:(BitVec.ofNat (kindOf k).bits m ^^^ BitVec.ofNat (kindOf k).bits n).toNat=Nat.xor m n:=by rw [BitVec.toNat_xor,toNat_lo h1,toNat_lo h2];rfl
 simp only [bitsI,ofInt_nat,e]
 obtain ⟨q,hq,_⟩:=khi_pow k
 rw [hq] at h1 h2
 exact wrap_nat (by rw [hq];exact Nat.xor_lt_two_pow h1 h2)
theorem bits_anot (h1:m < khi k) (h2:n < khi k):bitsI .andNot (kindOf k) (.ofNat m) (.ofNat n) = .ofNat (Nat.xor m (Nat.land m n)):=by
 have e0:∀ a b:BitVec (kindOf k).bits,a &&& ~~~b=a ^^^ (a &&& b):=by
  intro a b
  apply BitVec.eq_of_getLsbD_eq
  intro i hi
  simp only [BitVec.getLsbD_and,BitVec.getLsbD_xor,BitVec.getLsbD_not,hi,decide_true,Bool.true_and]
  cases a.getLsbD i<;>cases b.getLsbD i<;>rfl
 have e:(BitVec.ofNat (kindOf k).bits m &&& ~~~BitVec.ofNat (kindOf k).bits n).toNat=Nat.xor m (Nat.land m n):=by rw [e0,BitVec.toNat_xor,BitVec.toNat_and,toNat_lo h1,toNat_lo h2];rfl
 simp only [bitsI,ofInt_nat,e]
 obtain ⟨q,hq,_⟩:=khi_pow k
 have h3:Nat.land m n < khi k:=Nat.lt_of_le_of_lt Nat.and_le_left h1
 rw [hq] at h1 h3
 exact wrap_nat (by rw [hq];exact Nat.xor_lt_two_pow h1 h3)
end
theorem arAnd_eq (k:Nat) (a b:Int) (κ:Int→R):arAnd k a b κ=κ (bitsI .and (kindOf k) a b):=arBit_eq (fun _ _ h1 h2=>bits_and h1 h2) a b κ
theorem arOr_eq (k:Nat) (a b:Int) (κ:Int→R):arOr k a b κ=κ (bitsI .or (kindOf k) a b):=arBit_eq (fun _ _ h1 h2=>bits_or h1 h2) a b κ
theorem arXor_eq (k:Nat) (a b:Int) (κ:Int→R):arXor k a b κ=κ (bitsI .xor (kindOf k) a b):=arBit_eq (fun _ _ h1 h2=>bits_xor h1 h2) a b κ
theorem arAnn_eq (k:Nat) (a b:Int) (κ:Int→R):arAnn k a b κ=κ (bitsI .andNot (kindOf k) a b):=arBit_eq (fun _ _ h1 h2=>bits_anot h1 h2) a b κ
theorem kbit_eq (k:Nat):kbit k=(kindOf k).bits:=by rcases k with _ | _ | _ | _ | _ | _ | _ | k<;>rfl
theorem shl_eq (k:Nat) (a:Int) (n:Nat) (κ:Int→R):shl k a n κ=κ ((kindOf k).wrap (a * 2 ^ min n (kindOf k).bits)):=by
 unfold shl
 rw [wrap_eq,kbit_eq]
 congr 2
theorem shr_eq (k:Nat) (a:Int) (n:Nat) (κ:Int→R):shr k a n κ=κ (a.fdiv (2 ^ min n (kindOf k).bits)):=by
 unfold shr
 rw [kbit_eq]
 cases a with
 | ofNat m=>
  refine (fnat_eq _ _).trans ?_
  congr 1
  have:((2:Int) ^ min n (kindOf k).bits)=((2 ^ min n (kindOf k).bits:Nat):Int):=by simp
  rw [this,Int.fdiv_eq_ediv_of_nonneg _ (Int.natCast_nonneg _)]
  rfl
 | negSucc m=>
  refine (fint_eq _ _).trans ?_
  congr 2
theorem cmLt_eq (a b:Int) (κ:Bool→R):cmLt a b κ=κ (decide (a < b)):=by
 unfold cmLt
 cases a with
 | ofNat m=>cases b with
  | ofNat n=>
   show κ (Nat.blt m n)=_
   congr 1
   rw [Bool.eq_iff_iff]
   simp [Nat.blt_eq]
  | negSucc n=>show κ false=_;congr 1
 | negSucc m=>cases b with
  | ofNat n=>show κ true=_;congr 1;symm;rw [decide_eq_true_iff];simp only [Int.ofNat_eq_natCast,Int.negSucc_eq];omega
  | negSucc n=>rfl
theorem cmLe_eq (a b:Int) (κ:Bool→R):cmLe a b κ=κ (decide (a≤b)):=by
 unfold cmLe
 cases a with
 | ofNat m=>cases b with
  | ofNat n=>
   show κ (Nat.ble m n)=_
   congr 1
   rw [Bool.eq_iff_iff]
   simp
  | negSucc n=>show κ false=_;congr 1;symm;rw [decide_eq_false_iff_not];simp only [Int.ofNat_eq_natCast,Int.negSucc_eq];omega
 | negSucc m=>cases b with
  | ofNat n=>show κ true=_;congr 1
  | negSucc n=>rfl
theorem cmEq_eq (a b:Int) (κ:Bool→R):cmEq a b κ=κ (a == b):=by
 unfold cmEq
 cases a with
 | ofNat m=>cases b with
  | ofNat n=>
   show κ (Nat.beq m n)=_
   congr 1
   rw [Bool.eq_iff_iff]
   simp only [beq_iff_eq,Int.ofNat_eq_natCast,Int.natCast_inj]
   exact ⟨Nat.eq_of_beq_eq_true,fun h=>h ▸ Nat.beq_refl _⟩
  | negSucc n=>show κ false=_;congr 1
 | negSucc m=>cases b with
  | ofNat n=>show κ false=_;congr 1
  | negSucc n=>
   show κ (decide (Int.negSucc m=Int.negSucc n))=_
   congr 1
theorem not'_eq (c:Bool):not' c = !c:=by cases c<;>rfl
theorem or'_eq (c d:Bool):or' c d=(c || d):=by cases c<;>rfl
theorem eqB_eq (c d:Bool):eqB c d=(c == d):=by cases c<;>cases d<;>rfl
theorem negc_eq (neg c:Bool):eqB neg (not' c)=(if neg then !c else c):=by cases neg<;>cases c<;>rfl
theorem kB_eq (κ:K) (h:H) (nx:Nat) (c:Bool):kB κ h nx c=κ (.b c) h nx:=fbool_eq _ _
theorem eqL_eq:∀ (a b:List Nat),eqL a b=decide (a=b)
 | [],[]=>rfl
 | [],_ :: _=>rfl
 | _ :: _,[]=>rfl
 | x :: a,y :: b=>by
  show (@Bool.rec (fun _=>Bool) false (eqL a b) (Nat.beq x y))=_
  rw [eqL_eq a b]
  by_cases h:x=y
  ·subst h;simp
  ·have:Nat.beq x y=false:=by cases hb:Nat.beq x y with
    | false=>rfl
    | true=>exact absurd (Nat.eq_of_beq_eq_true hb) h
   rw [this];simp [h]
theorem bytes_toList (l:List Nat):(bytesOf l).toList=l.map UInt8.ofNat:=by
 rw [Go.ByteArray.toList_eq];simp [bytesOf]
theorem ofNat_inj {a b:Nat} (ha:a < 256) (hb:b < 256):UInt8.ofNat a=UInt8.ofNat b↔a=b:=by
 refine ⟨fun h=>?_,fun h=>h ▸ rfl⟩
 have:=congrArg UInt8.toNat h
 simpa [Nat.mod_eq_of_lt ha,Nat.mod_eq_of_lt hb] using this
theorem map_inj:∀ {a b:List Nat},(∀ x ∈ a,x < 256)→(∀ x ∈ b,x < 256)→(a.map UInt8.ofNat=b.map UInt8.ofNat↔a=b)
 | [],[],_,_=>by simp
 | [],_ :: _,_,_=>by simp
 | _ :: _,[],_,_=>by simp
 | x :: a,y :: b,ha,hb=>by
  simp only [List.map_cons,List.cons.injEq,ofNat_inj (ha x (by simp)) (hb y (by simp)),map_inj (fun z hz=>ha z (List.mem_cons_of_mem _ hz)) (fun z hz=>hb z (List.mem_cons_of_mem _ hz))]
theorem str_eq {a b:List Nat} (ha:∀ x ∈ a,x < 256) (hb:∀ x ∈ b,x < 256):((bytesOf a).toList == (bytesOf b).toList)=eqL a b:=by
 rw [bytes_toList,bytes_toList,eqL_eq,Bool.eq_iff_iff]
 simp [map_inj ha hb]
theorem ltL_eq:∀ {a b:List Nat},(∀ x ∈ a,x < 256)→(∀ x ∈ b,x < 256)→Op.bytesLess (a.map UInt8.ofNat) (b.map UInt8.ofNat)=ltL a b
 | [],[],_,_=>rfl
 | [],_ :: _,_,_=>rfl
 | _ :: _,[],_,_=>rfl
 | x :: a,y :: b,ha,hb=>by
  have hx:=ha x (by simp)
  have hy:=hb y (by simp)
  show (decide (UInt8.ofNat x < UInt8.ofNat y) || (UInt8.ofNat x == UInt8.ofNat y && Op.bytesLess (a.map UInt8.ofNat) (b.map UInt8.ofNat))) =
   (@Bool.rec (fun _=>Bool) (@Bool.rec (fun _=>Bool) false (ltL a b) (Nat.beq x y)) true (Nat.blt x y))
  rw [ltL_eq (fun z hz=>ha z (by simp [hz])) (fun z hz=>hb z (by simp [hz]))]
  have h1:decide (UInt8.ofNat x < UInt8.ofNat y)=Nat.blt x y:=by
   rw [Bool.eq_iff_iff,decide_eq_true_iff,UInt8.lt_iff_toNat_lt]
   simp [Nat.mod_eq_of_lt hx,Nat.mod_eq_of_lt hy,Nat.blt_eq]
  have h2:(UInt8.ofNat x == UInt8.ofNat y)=Nat.beq x y:=by
   rw [Bool.eq_iff_iff,beq_iff_eq,ofNat_inj hx hy]
   simp
  rw [h1,h2]
  cases Nat.blt x y<;>cases Nat.beq x y<;>rfl
theorem str_lt {a b:List Nat} (ha:∀ x ∈ a,x < 256) (hb:∀ x ∈ b,x < 256):Op.bytesLess (bytesOf a).toList (bytesOf b).toList=ltL a b:=by
 rw [bytes_toList,bytes_toList,ltL_eq ha hb]
theorem bytes_size (l:List Nat):(bytesOf l).size=l.length:=by
 show ((l.map UInt8.ofNat).toArray).size=_
 simp
theorem bytes_append (a b:List Nat):bytesOf a ++ bytesOf b=bytesOf (a ++ b):=by
 have h:∀ x y:ByteArray,x.data=y.data→x=y:=fun x y h=>by cases x;cases y;cases h;rfl
 apply h
 rw [ByteArray.data_append]
 simp [bytesOf]
end Go.AM

namespace Go.AM
open Go
theorem br_tt (a b:R):br true a b=a:=rfl
theorem br_ff (a b:R):br false a b=b:=rfl
theorem asP_pi (κ:Nat→Nat→R) (o i:Nat):asP κ (.p o i)=κ o i:=rfl
theorem khi_le64 (k:Nat):khi k≤2 ^ 64:=by
 rcases k with _ | _ | _ | _ | _ | _ | _ | k<;>simp [khi]
theorem khi_two (k:Nat):∃ b,khi k=2 ^ b∧b≤64:=by
 obtain ⟨n,h,_⟩:=khi_pow k
 refine ⟨n,h,?_⟩
 have:=khi_le64 k
 rw [h] at this
 exact (Nat.pow_le_pow_iff_right (by decide)).1 this
theorem Lim.all64 {k N:Nat} (h:Lim (khi k) N):Lim (2 ^ 64) N:=h.mono (khi_le64 k)
theorem VR.l {θ:Th} {k N:Nat} {u:Value} (h:VR θ (.l k N) u) (hk:k < 8):Lim (khi k) N∧u = .int (kindOf k) (ln θ.lane N:Nat):=by
 obtain ⟨h1,h2⟩:=h
 rcases (show (k < 8∧Lim (khi k) N)∨(k=9∧Lim 2 N) from h1) with ⟨_,h3⟩ | ⟨h3,_⟩
 ·refine ⟨h3,h2.trans ?_⟩
  show lV k _=_
  rw [lV,if_neg (by omega)]
 ·omega
theorem vr_l (θ:Th) {k N:Nat} (hk:k < 8) (h:Lim (khi k) N):VR θ (.l k N) (.int (kindOf k) (ln θ.lane N:Nat)):=
 ⟨.inl ⟨hk,h⟩,by show _=lV k _;rw [lV,if_neg (by omega)]⟩
theorem lnK_true {k:Nat} {v:AV} {κ:Nat→R} (e:lnK k v κ=true):∃ N,(∀ κ',lnK k v κ' = κ' N)∧κ N=true∧(isL v=true→k < 8)∧(∀ n,v = .i k n→∃ m:Nat,n=(m:Int)∧m < khi k∧N=LO * m)∧
  ∀ θ u,VR θ v u→Lim (khi k) N∧u = .int (kindOf k) (ln θ.lane N:Nat):=by
 unfold lnK at e
 split at e
 ·rename_i k' N
  obtain ⟨h1,e1⟩:=br_t e
  obtain ⟨h2,e2⟩:=br_t e1
  have h1':=Nat.eq_of_beq_eq_true h1
  subst h1'
  have h2':k' < 8:=by simpa [Nat.blt_eq] using h2
  refine ⟨N,fun κ'=>?_,e2,fun _=>h2',fun n hn=>(by cases hn),fun θ u hu=>hu.l h2'⟩
  show br (Nat.beq k' k') (br (Nat.blt k' 8) (κ' N) false) false=_
  rw [h1,h2];rfl
 ·rename_i k' n
  obtain ⟨h1,e1⟩:=br_t e
  have h1':=Nat.eq_of_beq_eq_true h1
  subst h1'
  cases n with
  | negSucc n=>cases e1
  | ofNat n=>
   obtain ⟨h2,e2⟩:=br_t e1
   have h2':n < khi k':=by simpa [Nat.blt_eq] using h2
   rw [fnat_eq,mul_is] at e2
   refine ⟨LO * n,fun κ'=>?_,e2,(fun h=>by cases h),fun m hm=>?_,fun θ u hu=>?_⟩
   ·have:lnK k' (.i k' (.ofNat n)) κ' = br (Nat.beq k' k') (br (Nat.blt n (khi k')) (fnat (Nat.mul LO n) κ') false) false:=rfl
    rw [this,h1,h2,br_tt,br_tt,fnat_eq,mul_is]
   ·injection hm with _ hm
    exact ⟨n,hm.symm,h2',rfl⟩
   ·have h128:n < 2 ^ 128:=Nat.lt_of_lt_of_le h2' (Nat.le_trans (khi_le64 k') (by decide))
    exact ⟨fun i hi=>by rw [ln_LO h128 hi];exact h2',by rw [hu.i,ln_LO h128 θ.lane_lt];rfl⟩
 ·cases e
def LaOk (op:BinOp) (k:Nat) (g:LaF):Prop:=∀ A B κ,g k A B κ=true→∃ N,(∀ κ',g k A B κ' = κ' N)∧κ N=true∧
 (Lim (khi k) A→Lim (khi k) B→Lim (khi k) N∧∀ (P:Program) (t:TypeId) j w,j < 4096→(binOp op t (.int (kindOf k) (ln j A:Nat)) (.int (kindOf k) (ln j B:Nat))).run P w = .ok (.int (kindOf k) (ln j N:Nat)) w)
theorem wrap_lo {k:Nat} (hk:4≤k) (m:Nat):(kindOf k).wrap (m:Int)=((m % khi k:Nat):Int):=by
 rcases k with _ | _ | _ | _ | _ | _ | _ | k<;>first | omega | (simp only [khi,kindOf,IntKind.wrap,IntKind.bits,IntKind.signed];simp)
theorem laCut_true {k N:Nat} {κ:Nat→R} (e:laCut k N κ=true):∃ M,(∀ κ',laCut k N κ' = κ' M)∧κ M=true∧Lim (khi k) M∧∀ j,j < 4096→(kindOf k).wrap (ln j N:Nat)=((ln j M:Nat):Int):=by
 unfold laCut at e
 rw [fnat_eq] at e
 obtain ⟨h1,e1⟩:=br_t e
 obtain ⟨b,hb,hb64⟩:=khi_two k
 have hl:∀ j,j < 4096→ln j (Nat.land N (lMask k))=ln j N % khi k:=by
  intro j hj
  have:=ln_mask (N:=N) (j:=j) (b:=b) (by omega) hj
  rw [← hb] at this
  exact this
 have hpos:0 < khi k:=by rw [hb];exact Nat.pow_pos (by decide)
 refine ⟨Nat.land N (lMask k),fun κ'=>?_,e1,fun j hj=>by rw [hl j hj];exact Nat.mod_lt _ hpos,fun j hj=>?_⟩
 ·unfold laCut
  rw [fnat_eq,h1];rfl
 ·rw [or'_eq,Bool.or_eq_true] at h1
  rcases h1 with h1 | h1
  ·rw [hl j hj,wrap_lo (Nat.le_of_ble_eq_true h1)]
  ·have h1:=Nat.eq_of_beq_eq_true h1
   have h2:ln j N < khi k:=by
    have:=hl j hj
    rw [h1] at this
    rw [this];exact Nat.mod_lt _ hpos
   rw [hl j hj,Nat.mod_eq_of_lt h2]
   exact wrap_nat h2
theorem run_and {P:Program} {t:TypeId} {w:World} (k:Nat) (a b:Int):(binOp .and t (.int (kindOf k) a) (.int (kindOf k) b)).run P w = .ok (.int (kindOf k) (bitsI .and (kindOf k) a b)) w:=by simp [binOp,Op.intBits,bitsI]
theorem laAnd_ok (k:Nat):LaOk .and k laAnd:=by
 intro A B κ e
 unfold laAnd at e
 rw [fnat_eq] at e
 refine ⟨_,fun κ'=>fnat_eq _ _,e,fun ha hb=>⟨fun i hi=>?_,fun P t j w hj=>?_⟩⟩
 ·rw [land_is,ln_and];exact Nat.lt_of_le_of_lt Nat.and_le_left (ha i hi)
 ·rw [land_is,ln_and]
  refine (run_and k _ _).trans ?_
  exact congrArg (fun x=>Result.ok (Value.int (kindOf k) x) w) (bits_and (ha j hj) (hb j hj))
theorem run_or {P:Program} {t:TypeId} {w:World} (k:Nat) (a b:Int):(binOp .or t (.int (kindOf k) a) (.int (kindOf k) b)).run P w = .ok (.int (kindOf k) (bitsI .or (kindOf k) a b)) w:=by simp [binOp,Op.intBits,bitsI]
theorem laOr_ok (k:Nat):LaOk .or k laOr:=by
 intro A B κ e
 unfold laOr at e
 rw [fnat_eq] at e
 refine ⟨_,fun κ'=>fnat_eq _ _,e,fun ha hb=>⟨fun i hi=>?_,fun P t j w hj=>?_⟩⟩
 ·rw [lor_is,ln_or]
  obtain ⟨q,hq,_⟩:=khi_pow k
  have h1:=ha i hi
  have h2:=hb i hi
  rw [hq] at h1 h2 ⊢
  exact Nat.or_lt_two_pow h1 h2
 ·rw [lor_is,ln_or]
  refine (run_or k _ _).trans ?_
  exact congrArg (fun x=>Result.ok (Value.int (kindOf k) x) w) (bits_or (ha j hj) (hb j hj))
theorem run_xor {P:Program} {t:TypeId} {w:World} (k:Nat) (a b:Int):(binOp .xor t (.int (kindOf k) a) (.int (kindOf k) b)).run P w = .ok (.int (kindOf k) (bitsI .xor (kindOf k) a b)) w:=by simp [binOp,Op.intBits,bitsI]
theorem laXor_ok (k:Nat):LaOk .xor k laXor:=by
 intro A B κ e
 unfold laXor at e
 rw [fnat_eq] at e
 refine ⟨_,fun κ'=>fnat_eq _ _,e,fun ha hb=>⟨fun i hi=>?_,fun P t j w hj=>?_⟩⟩
 ·rw [xor_is,ln_xor]
  obtain ⟨q,hq,_⟩:=khi_pow k
  have h1:=ha i hi
  have h2:=hb i hi
  rw [hq] at h1 h2 ⊢
  exact Nat.xor_lt_two_pow h1 h2
 ·rw [xor_is,ln_xor]
  refine (run_xor k _ _).trans ?_
  exact congrArg (fun x=>Result.ok (Value.int (kindOf k) x) w) (bits_xor (ha j hj) (hb j hj))
theorem laC {B c:Nat} (h:Nat.beq (Nat.mul LO c) B=true) (hc:c < 2 ^ 128) {j:Nat} (hj:j < 4096):ln j B=c:=by
 rw [← Nat.eq_of_beq_eq_true h]
 exact ln_LO hc hj
theorem runI_add {P:Program} {t:TypeId} {w:World} (k:Nat) (a b:Int):(binOp .add t (.int (kindOf k) a) (.int (kindOf k) b)).run P w = .ok (.int (kindOf k) ((kindOf k).wrap (a + b))) w:=by simp [binOp,Op.intArith]
theorem laAdd_ok (k:Nat):LaOk .add k laAdd:=by
 intro A B κ e
 unfold laAdd at e
 rw [fnat_eq] at e
 obtain ⟨M,k1,k2,k3,k4⟩:=laCut_true e
 refine ⟨M,fun κ'=>?_,k2,fun ha hb=>⟨k3,fun P t j w hj=>?_⟩⟩
 ·unfold laAdd
  rw [fnat_eq];exact k1 κ'
 ·have hm:ln j (Nat.add A B)=ln j A + ln j B:=by
   refine ln_add fun i hi=>?_
   have h3:ln i A < 2 ^ 64:=ha.all64 i (by omega)
   have h4:ln i B < 2 ^ 64:=hb.all64 i (by omega)
   omega
  have:=k4 j hj
  rw [hm] at this
  refine (runI_add k _ _).trans ?_
  refine congrArg (fun x=>Result.ok (Value.int (kindOf k) x) w) ?_
  rw [← this]
  congr 1
theorem run_mul {P:Program} {t:TypeId} {w:World} (k:Nat) (a b:Int):(binOp .mul t (.int (kindOf k) a) (.int (kindOf k) b)).run P w = .ok (.int (kindOf k) ((kindOf k).wrap (a * b))) w:=by simp [binOp,Op.intArith]
theorem run_rem {P:Program} {t:TypeId} {w:World} (k:Nat) (a:Int) {b:Int} (h:b≠0):(binOp .rem t (.int (kindOf k) a) (.int (kindOf k) b)).run P w = .ok (.int (kindOf k) (a.tmod b)) w:=by simp [binOp,Op.intDiv,h]
theorem laMul_ok (k:Nat):LaOk .mul k laMul:=by
 intro A B κ e
 unfold laMul at e
 rw [fnat_eq] at e
 obtain ⟨h1,e1⟩:=br_t e
 rw [fnat_eq] at e1
 obtain ⟨M,k1,k2,k3,k4⟩:=laCut_true e1
 have hc:B % 18446744073709551616 < 2 ^ 64:=Nat.mod_lt _ (by decide)
 refine ⟨M,fun κ'=>?_,k2,fun ha hb=>⟨k3,fun P t j w hj=>?_⟩⟩
 ·unfold laMul
  rw [fnat_eq,h1,br_tt,fnat_eq];exact k1 κ'
 ·rw [laC h1 (Nat.lt_trans hc (by decide)) hj]
  have hm:ln j (Nat.mul A (Nat.mod B 18446744073709551616))=ln j A * (B % 18446744073709551616):=by
   refine ln_mul fun i hi=>?_
   have h3:ln i A < 2 ^ 64:=ha.all64 i (by omega)
   exact Nat.lt_of_lt_of_le (Nat.mul_lt_mul'' h3 hc) (by decide)
  have:=k4 j hj
  rw [hm] at this
  refine (run_mul k _ _).trans ?_
  refine congrArg (fun x=>Result.ok (Value.int (kindOf k) x) w) ?_
  rw [← this]
  congr 1
theorem lbK_true {Y:Nat} {κ:AV→R} (e:lbK Y κ=true):∃ v,(∀ κ',lbK Y κ' = κ' v)∧κ v=true∧(Lim 2 Y→∀ θ,VR θ v (.bool (ln θ.lane Y != 0))):=by
 unfold lbK at e
 rcases br_true e with ⟨h1,e1⟩ | ⟨h1,e1⟩
 ·refine ⟨_,fun κ'=>?_,e1,fun _ θ=>?_⟩
  ·unfold lbK;rw [h1];rfl
  ·have:=Nat.eq_of_beq_eq_true h1
   subst this
   rw [ln_nought];exact vr_b θ false
 ·rcases br_true e1 with ⟨h2,e2⟩ | ⟨h2,e2⟩
  ·refine ⟨_,fun κ'=>?_,e2,fun _ θ=>?_⟩
   ·unfold lbK;rw [h1,h2];rfl
   ·have:=@Nat.eq_of_beq_eq_true Y LO h2
    rw [this,ln_ones θ.lane_lt];exact vr_b θ true
  ·refine ⟨_,fun κ'=>?_,e2,fun hl θ=>⟨.inr ⟨rfl,hl⟩,rfl⟩⟩
   unfold lbK;rw [h1,h2];rfl
theorem lim_ltm {A B:Nat} (ha:Lim (2 ^ 64) A) (hb:Lim (2 ^ 64) B):Lim 2 (ltm A B):=by
 intro i hi
 rw [ln_ltm hi ha hb]
 split<;>decide
theorem ltm_not {A B j:Nat} (hj:j < 4096) (ha:Lim (2 ^ 64) A) (hb:Lim (2 ^ 64) B):ln j (Nat.xor LO (ltm A B))=if ln j A < ln j B then 0 else 1:=by
 rw [xor_is,ln_xor,ln_ones hj,ln_ltm hj ha hb]
 split<;>rfl
theorem lim_not {A B:Nat} (ha:Lim (2 ^ 64) A) (hb:Lim (2 ^ 64) B):Lim 2 (Nat.xor LO (ltm A B)):=by
 intro i hi
 rw [ltm_not hi ha hb]
 split<;>decide
theorem lim_nought:Lim (2 ^ 64) 0:=fun i _=>by rw [ln_nought];decide
theorem laSubs_succ (k c n N:Nat) (κ:Nat→R):laSubs k c (n + 1) N κ=fnat (Nat.xor LO (ltm N (Nat.mul LO c))) (fun Y=>br (Nat.beq Y 0) (κ N) (fnat (Nat.mul Y c) fun M=>br (Nat.ble M N) (fnat (Nat.sub N M) fun N'=>br (Nat.beq (Nat.land N' (lMask k)) N') (laSubs k c n N' κ) false) false)):=by
 delta laSubs
 kernel_rfl
theorem laSubs_zero (k c N:Nat) (κ:Nat→R):laSubs k c 0 N κ=false:=by
 delta laSubs
 kernel_rfl
theorem laSubs_true {k c:Nat} (hc:0 < c) (hc2:c < 2 ^ 64) (n:Nat):∀ (N:Nat) (κ:Nat→R),laSubs k c n N κ=true→∃ M,(∀ κ',laSubs k c n N κ' = κ' M)∧κ M=true∧(Lim (khi k) N→Lim (khi k) M∧∀ j,j < 4096→ln j M=ln j N % c):=by
 induction n with
 | zero=>intro N κ e;rw [laSubs_zero] at e;cases e
 | succ n ih=>
  intro N κ e
  rw [laSubs_succ] at e
  have hB:Lim (2 ^ 64) (Nat.mul LO c):=fun i hi=>by rw [mul_is,ln_LO (Nat.lt_trans hc2 (by decide)) hi];exact hc2
  rw [fnat_eq] at e
  have hs:∀ κ',laSubs k c (n + 1) N κ' = br (Nat.beq (Nat.xor LO (ltm N (Nat.mul LO c))) 0) (κ' N) (fnat (Nat.mul (Nat.xor LO (ltm N (Nat.mul LO c))) c) fun M=>br (Nat.ble M N) (fnat (Nat.sub N M) fun N'=>br (Nat.beq (Nat.land N' (lMask k)) N') (laSubs k c n N' κ') false) false):=fun κ'=>by
   rw [laSubs_succ,fnat_eq]
  have hY:Lim (2 ^ 64) N→∀ j,j < 4096→ln j (Nat.xor LO (ltm N (Nat.mul LO c)))=if ln j N < c then 0 else 1:=fun hl j hj=>by
   rw [ltm_not hj hl hB,mul_is,ln_LO (Nat.lt_trans hc2 (by decide)) hj]
  generalize Nat.xor LO (ltm N (Nat.mul LO c))=Y at e hs hY
  rcases br_true e with ⟨b,e⟩ | ⟨b,e⟩
  ·refine ⟨N,fun κ'=>by rw [hs,b,br_tt],e,fun hl=>⟨hl,fun j hj=>?_⟩⟩
   have h0:=hY hl.all64 j hj
   rw [Nat.eq_of_beq_eq_true b,ln_nought] at h0
   by_cases h:ln j N < c
   ·exact (Nat.mod_eq_of_lt h).symm
   ·rw [if_neg h] at h0;omega
  ·rw [fnat_eq] at e
   obtain ⟨b1,e⟩:=br_t e
   rw [fnat_eq] at e
   obtain ⟨b2,e⟩:=br_t e
   obtain ⟨M,m1,m2,m3⟩:=ih _ κ e
   refine ⟨M,fun κ'=>?_,m2,fun hl=>?_⟩
   ·rw [hs,b,br_ff,fnat_eq,b1,br_tt,fnat_eq,b2,br_tt];exact m1 κ'
   ·have hY:=hY hl.all64
    have h1:Y * c≤N:=Nat.le_of_ble_eq_true b1
    have hsum:(N - Y * c) + Y * c=N:=Nat.sub_add_cancel h1
    obtain ⟨bb,hb,hb64⟩:=khi_two k
    have hpos:0 < khi k:=by rw [hb];exact Nat.pow_pos (by decide)
    have hN:Lim (khi k) (N - Y * c):=fun i hi=>by
     have hm:=ln_mask (N:=N - Y * c) (j:=i) (b:=bb) (by omega) hi
     rw [← hb] at hm
     have h2:(N - Y * c) &&& (LO * (khi k - 1))=N - Y * c:=Nat.eq_of_beq_eq_true b2
     rw [h2] at hm
     rw [hm];exact Nat.mod_lt _ hpos
    have hY1:∀ i,i < 4096→ln i Y≤1:=fun i hi=>by rw [hY i hi];split<;>omega
    have hM:∀ i,i < 4096→ln i (Y * c)=ln i Y * c:=fun i hi=>ln_mul fun i' hi'=>by
     have:=Nat.mul_le_mul_right c (hY1 i' (by omega))
     omega
    have hMl:∀ i,i < 4096→ln i (Y * c) < 2 ^ 64:=fun i hi=>by
     rw [hM i hi]
     have:=Nat.mul_le_mul_right c (hY1 i hi)
     omega
    obtain ⟨q1,q2⟩:=m3 hN
    refine ⟨q1,fun j hj=>?_⟩
    have hadd:ln j N=ln j (N - Y * c) + ln j (Y * c):=by
     conv=>lhs;rw [← hsum]
     refine ln_add fun i hi=>?_
     have h3:=hN.all64 i (by omega)
     have h4:=hMl i (by omega)
     omega
    rw [hadd,hM j hj,Nat.add_mul_mod_self_right]
    exact q2 j hj
theorem laRem_ok (k:Nat):LaOk .rem k laRem:=by
 intro A B κ e
 unfold laRem at e
 rw [fnat_eq] at e
 obtain ⟨h1,e1⟩:=br_t e
 rcases br_true e1 with ⟨h2,e2⟩ | ⟨h2,e2⟩
 rotate_left
 ·obtain ⟨h3,e3⟩:=br_t e2
  have h3':0 < Nat.mod B 18446744073709551616:=by simpa [Nat.blt_eq] using h3
  have hc:B % 18446744073709551616 < 2 ^ 64:=Nat.mod_lt _ (by decide)
  obtain ⟨M,m1,m2,m3⟩:=laSubs_true (c:=Nat.mod B 18446744073709551616) h3' hc _ _ _ e3
  refine ⟨M,fun κ'=>?_,m2,fun ha hb=>⟨(m3 ha).1,fun P t j w hj=>?_⟩⟩
  ·unfold laRem
   rw [fnat_eq,h1,br_tt,h2,br_ff,h3,br_tt];exact m1 κ'
  ·rw [laC h1 (Nat.lt_trans hc (by decide)) hj,(m3 ha).2 j hj]
   exact run_rem k _ (by omega)
 rw [fnat_eq] at e2
 have hc:B % 18446744073709551616 < 2 ^ 64:=Nat.mod_lt _ (by decide)
 have h2':=Nat.eq_of_beq_eq_true h2
 refine ⟨_,fun κ'=>?_,e2,fun ha hb=>?_⟩
 ·unfold laRem
  rw [fnat_eq,h1,br_tt,h2,br_tt,fnat_eq]
 ·generalize hcc:Nat.mod B 18446744073709551616=c at h1 h2' ⊢
  have hc:c < 2 ^ 64:=by rw [← hcc];exact hc
  have hlog:Nat.log2 c < 64:=by
   rcases Nat.eq_zero_or_pos c with h0 | h0
   ·subst h0;decide
   ·exact (Nat.log2_lt (by omega)).2 hc
  have hl:∀ j,j < 4096→ln j (Nat.land A (Nat.mul LO (Nat.sub c 1)))=ln j A % c:=by
   intro j hj
   have:=ln_mask (N:=A) (j:=j) (b:=Nat.log2 c) (by omega) hj
   have h2'':2 ^ Nat.log2 c=c:=h2'
   rw [h2''] at this
   exact this
  have hc0:0 < c:=by rw [← h2'];exact Nat.pow_pos (by decide)
  refine ⟨fun i hi=>?_,fun P t j w hj=>?_⟩
  ·rw [hl i hi]
   exact Nat.lt_of_le_of_lt (Nat.mod_le _ _) (ha i hi)
  ·rw [laC h1 (Nat.lt_trans hc (by decide)) hj,hl j hj]
   have hne:((c:Nat):Int)≠0:=by omega
   exact run_rem k _ hne
theorem lim_xor {b A B:Nat} (ha:Lim (2 ^ b) A) (hb:Lim (2 ^ b) B):Lim (2 ^ b) (A ^^^ B):=fun i hi=>by rw [ln_xor];exact Nat.xor_lt_two_pow (ha i hi) (hb i hi)
theorem laEq_true {c:Nat} {x y:AV} {κ:Bool→R} (e:laEq c x y κ=true):∃ r,(∀ κ',laEq c x y κ' = κ' r)∧κ r=true∧
  (∀ θ u v,VR θ x u→VR θ y v→∃ a b:Nat,u = .int (kindOf c) a∧v = .int (kindOf c) b∧r=(a == b)):=by
 unfold laEq at e
 obtain ⟨A,a1,e1,_,_,a4⟩:=lnK_true e
 obtain ⟨B,b1,e2,_,_,b4⟩:=lnK_true e1
 rw [fnat_eq] at e2
 rcases br_true e2 with ⟨h1,e3⟩ | ⟨h1,e3⟩
 ·refine ⟨true,fun κ'=>?_,e3,fun θ u v hu hv=>⟨_,_,(a4 θ u hu).2,(b4 θ v hv).2,?_⟩⟩
  ·unfold laEq;rw [a1,b1,fnat_eq,h1];rfl
  ·have h0:A ^^^ B=0:=Nat.eq_of_beq_eq_true h1
   have:A=B:=by
    have h3:(A ^^^ B) ^^^ B=0 ^^^ B:=by rw [h0]
    rwa [Nat.xor_assoc,Nat.xor_self,Nat.xor_zero,Nat.zero_xor] at h3
   rw [this];simp
 ·obtain ⟨h2,e4⟩:=br_t e3
  refine ⟨false,fun κ'=>?_,e4,fun θ u v hu hv=>⟨_,_,(a4 θ u hu).2,(b4 θ v hv).2,?_⟩⟩
  ·unfold laEq;rw [a1,b1,fnat_eq,h1]
   show br _ _ _=_
   rw [h2];rfl
  ·have h2':ltm 0 (A ^^^ B)=LO:=Nat.eq_of_beq_eq_true h2
   have hl:=ln_ltm θ.lane_lt lim_nought (lim_xor (b:=64) (a4 θ u hu).1.all64 (b4 θ v hv).1.all64)
   rw [h2',ln_ones θ.lane_lt,ln_nought,ln_xor] at hl
   by_cases hab:ln θ.lane A=ln θ.lane B
   ·rw [hab,Nat.xor_self] at hl;simp at hl
   ·simp [hab]
theorem lt16 {N:Nat} (hN:Lim (2 ^ 64) N) (h:Nat.beq (ltm N (Nat.mul LO 16)) LO=true):Lim 16 N:=by
 have hB:∀ i,i < 4096→ln i (Nat.mul LO 16)=16:=fun i hi=>by rw [mul_is];exact ln_LO (by decide) hi
 have hO:∀ i,i < 4096→ln i LO=1:=fun i hi=>ln_ones hi
 generalize Nat.mul LO 16=B at h hB
 generalize LO=O at h hO
 have h:=Nat.eq_of_beq_eq_true h
 have hL:Lim (2 ^ 64) B:=fun i hi=>by rw [hB i hi];decide
 intro i hi
 have h1:=ln_ltm hi hN hL
 rw [h,hO i hi,hB i hi] at h1
 split at h1
 ·assumption
 ·omega
end Go.AM
