/- A part of the proof of this: Of any bytes meta.Get and the document's Get tell the same meta, or both refuse them. Conditions: none. Joined of B48, F48, F49, B50, F50. -/
import Derived.Test.YtmgncojckndckaaC5
import Derived.KernelRfl
namespace Go.Mat
open Go Go.Den Go.Proofs
def sh1J (b : List U) (c a : Int) : U := .l [.s (readV b a), .i (bif readR b a then shZ b a else 0), .l (bif sh1K b c a then tgL b (rmN b a + 2) else [])]
def sh1F (b : List U) (a : Int) : Int := bif readR b a then (bif thereR b (rmN b a) 2 then rmN b a + 2 else rmN b a) else a
def shX (b : List U) (c : Int) : Nat → Int → List U
  | 0, _ => []
  | m + 1, a => sh1J b c a :: (bif sh1K b c a then shX b c m (sh1E b a) else [])
def shXE (b : List U) (c : Int) : Nat → Int → Int
  | 0, a => a
  | m + 1, a => bif sh1K b c a then shXE b c m (sh1E b a) else sh1F b a
def spK (b : List U) : Nat → Int → Bool
  | 0, _ => true
  | m + 1, a => thereR b a 2 && thereR b (a + 2) 2 && spK b m (a + 4)
def spX (b : List U) : Nat → Int → List U
  | 0, _ => []
  | m + 1, a => .l [.i (getN b a 2), .i (getN b (a + 2) 2)] :: (bif thereR b a 2 && thereR b (a + 2) 2 then spX b m (a + 4) else [])
def spXE (b : List U) : Nat → Int → Int
  | 0, a => a
  | m + 1, a => bif thereR b a 2 then (bif thereR b (a + 2) 2 then spXE b m (a + 4) else a + 2) else a
def bmN (b : List U) (a : Int) : Nat := (getN b (rmN b a + 1) 2).toNat
def bm1K (b : List U) (a : Int) : Bool := readR b a && thereR b (rmN b a) 1 && thereR b (rmN b a + 1) 2 && spK b (bmN b a) (rmN b a + 1 + 2)
def bm1J (b : List U) (a : Int) : U := .l [.s (readV b a), .b (bif readR b a then getN b (rmN b a) 1 == 1 else false), .l (bif readR b a && thereR b (rmN b a) 1 && thereR b (rmN b a + 1) 2 then spX b (bmN b a) (rmN b a + 1 + 2) else [])]
def bm1F (b : List U) (a : Int) : Int := bif readR b a then (bif thereR b (rmN b a) 1 then (bif thereR b (rmN b a + 1) 2 then spXE b (bmN b a) (rmN b a + 1 + 2) else rmN b a + 1) else rmN b a) else a
def bmXK (b : List U) : Nat → Int → Bool
  | 0, _ => true
  | m + 1, a => bm1K b a && bmXK b m (bm1F b a)
def bmX (b : List U) : Nat → Int → List U
  | 0, _ => []
  | m + 1, a => bm1J b a :: (bif bm1K b a then bmX b m (bm1F b a) else [])
def bmXE (b : List U) : Nat → Int → Int
  | 0, a => a
  | m + 1, a => bif bm1K b a then bmXE b m (bm1F b a) else bm1F b a
def rc1K (b : List U) (n m a : Int) : Bool := thereR b a 2 && thereR b (a + 2) 2 && decide (0 < getN b a 2) && decide (getN b a 2 ≤ m) && decide (n ≤ 65536)
def rc1F (b : List U) (a : Int) : Int := bif thereR b a 2 then (bif thereR b (a + 2) 2 then a + 2 + 2 else a + 2) else a
def rcXK (b : List U) (n m a : Int) : Bool := if 0 < m ∧ 0 < getN b a 2 then rc1K b n m a && rcXK b n (m - getN b a 2) (a + 2 + 2) else decide (m ≤ 0)
termination_by m.toNat
decreasing_by omega
def rcX (b : List U) (n m a : Int) : List U := if 0 < m ∧ 0 < getN b a 2 then (bif rc1K b n m a then List.replicate (getN b a 2).toNat (.i (getN b (a + 2) 2)) ++ rcX b n (m - getN b a 2) (a + 2 + 2) else []) else []
termination_by m.toNat
decreasing_by omega
def rcXE (b : List U) (n m a : Int) : Int := if 0 < m ∧ 0 < getN b a 2 then (bif rc1K b n m a then rcXE b n (m - getN b a 2) (a + 2 + 2) else rc1F b a) else (bif decide (0 < m) then rc1F b a else a)
termination_by m.toNat
decreasing_by omega
def pn1 (b : List U) : Nat := Int.toNat (getN b (pm2 b 0) 1 - 0)
def px3 (b : List U) : Int := shXE b (getN b 0 1) (pn1 b) (pm2 b 0 + 1)
def pxS (b : List U) : List U := shX b (getN b 0 1) (pn1 b) (pm2 b 0 + 1)
def pxK1 (b : List U) : Bool := shK b (getN b 0 1) (pn1 b) (pm2 b 0 + 1)
def pn2 (b : List U) : Nat := Int.toNat (getN b (px3 b) 1 - 0)
def px4 (b : List U) : Int := bmXE b (pn2 b) (px3 b + 1)
def pxM (b : List U) : List U := bmX b (pn2 b) (px3 b + 1)
def pxK2 (b : List U) : Bool := bmXK b (pn2 b) (px3 b + 1)
def pn3 (b : List U) : Int := getN b (px4 b) 4 - ((0 : Nat) : Int)
def pxQ (b : List U) : List U := rcX b (getN b (px4 b) 4) (pn3 b) (px4 b + 4)
def pxK3 (b : List U) : Bool := rcXK b (getN b (px4 b) 4) (pn3 b) (px4 b + 4)
abbrev rgO (b a bad : U) (m : List SV) (S M Q : List U) : Objs := [(2688, .box [vl (.int .u8) b, vi a, vb bad]), (640, .box m), (8470538, .arr shT S), (8470540, .arr bmT M), (8470542, .arr intT Q), (256, .box [vi (.i 0), vi (.i 0), .val .str (.s ⟨#[]⟩), .own 264, .own 266, .own 268, .own 270])]
abbrev rgP (nm on : U) (ws : List U) : Objs := [(1280, .box [.val .str nm, vb on, .own 8552454]), (8552454, .arr spT ws)]
abbrev rgV (c sz bk T : U) : List SV := [vi c, vi sz, .val .str bk, vl (.sl true EC) T, .own 8470538, .own 8470540, .own 8470542]
def rgIs (p4 o4 p5 o5 p2 o2 q4 q5 q6 r3 r4 r5 r6 : Nat) (t1 t2 t3 : TypeId) (i0 i1 s0 : U) : Prop :=
  (p4 = 2688 ∧ o4 = 0 ∧ p5 = 640 ∧ o5 = 0 ∧ p2 = 256 ∧ o2 = 0) ∧ (q4 = 8470538 ∧ q5 = 8470540 ∧ q6 = 8470542 ∧ r3 = 264 ∧ r4 = 266 ∧ r5 = 268 ∧ r6 = 270) ∧ (t1 = shT ∧ t2 = bmT ∧ t3 = intT) ∧ i0 = .i 0 ∧ i1 = .i 0 ∧ s0 = .s ⟨#[]⟩
noncomputable def rgLoop0 : LoopF := fun _ svs os k => match svs, os with
  | [.val (.int .i64) i, .val (.int .i64) n, .ptr p4 o4, .ptr p5 o5, .val (.sl false [.int .u8]) b0, .ptr p2 o2], [.box [.val (.sl false [.int .u8]) b, .val (.int .i64) a, .val .bool bad], .box [.val (.int .i64) c, .val (.int .i64) sz, .val .str bk, .val (.sl false [.sl true ec]) T, .own q4, .own q5, .own q6], .arr t1 xs, .arr t2 ys, .arr t3 zs, .box [.val (.int .i64) i0, .val (.int .i64) i1, .val .str s0, .own r3, .own r4, .own r5, .own r6]] =>
    (rgIs p4 o4 p5 o5 p2 o2 q4 q5 q6 r3 r4 r5 r6 t1 t2 t3 i0 i1 s0 ∧ ec = EC ∧ b.list.length ≤ 1099511627776 ∧ byteOk b.list ∧ 0 ≤ a.int ∧ a.int ≤ b.list.length ∧ a = .i a.int ∧ bad = .b bad.bool ∧ 0 ≤ i.int ∧ i.int ≤ n.int ∧ n.int ≤ 255 ∧ 0 ≤ c.int ∧ (xs.length : Int) + (n.int - i.int) ≤ 255) ∧
    (bif bad.bool then k (.exit 0) ⟨[(4, .ptr 2688 0), (5, .ptr 640 0), (0, vl (.int .u8) b0), (2, .ptr 256 0)], rgO b (a) (bad) (rgV c sz bk T) (xs) (ys) (zs)⟩ else k (.exit 0) ⟨[(4, .ptr 2688 0), (5, .ptr 640 0), (0, vl (.int .u8) b0), (2, .ptr 256 0)], rgO b (.i (shXE b.list c.int (n.int - i.int).toNat a.int)) (.b (!shK b.list c.int (n.int - i.int).toNat a.int)) (rgV c sz bk T) (xs ++ shX b.list c.int (n.int - i.int).toNat a.int) (ys) (zs)⟩)
  | _, _ => False
noncomputable def rgLoop2 : LoopF := fun _ svs os k => match svs, os with
  | [.val (.int .i64) i, .val (.int .i64) n, .ptr p4 o4, .ptr p5 o5, .val (.sl false [.int .u8]) b0, .ptr p2 o2], [.box [.val (.sl false [.int .u8]) b, .val (.int .i64) a, .val .bool bad], .box [.val (.int .i64) c, .val (.int .i64) sz, .val .str bk, .val (.sl false [.sl true ec]) T, .own q4, .own q5, .own q6], .arr t1 xs, .arr t2 ys, .arr t3 zs, .box [.val (.int .i64) i0, .val (.int .i64) i1, .val .str s0, .own r3, .own r4, .own r5, .own r6]] =>
    (rgIs p4 o4 p5 o5 p2 o2 q4 q5 q6 r3 r4 r5 r6 t1 t2 t3 i0 i1 s0 ∧ ec = EC ∧ b.list.length ≤ 1099511627776 ∧ byteOk b.list ∧ 0 ≤ a.int ∧ a.int ≤ b.list.length ∧ a = .i a.int ∧ bad = .b bad.bool ∧ 0 ≤ i.int ∧ i.int ≤ n.int ∧ n.int ≤ 255 ∧ (ys.length : Int) + (n.int - i.int) ≤ 255) ∧
    (bif bad.bool then k (.exit 2) ⟨[(4, .ptr 2688 0), (5, .ptr 640 0), (0, vl (.int .u8) b0), (2, .ptr 256 0)], rgO b (a) (bad) (rgV c sz bk T) (xs) (ys) (zs)⟩ else k (.exit 2) ⟨[(4, .ptr 2688 0), (5, .ptr 640 0), (0, vl (.int .u8) b0), (2, .ptr 256 0)], rgO b (.i (bmXE b.list (n.int - i.int).toNat a.int)) (.b (!bmXK b.list (n.int - i.int).toNat a.int)) (rgV c sz bk T) (xs) (ys ++ bmX b.list (n.int - i.int).toNat a.int) (zs)⟩)
  | _, _ => False
noncomputable def rgLoop6 : LoopF := fun _ svs os k => match svs, os with
  | [.val (.int .i64) n, .ptr p4 o4, .ptr p5 o5, .val (.sl false [.int .u8]) b0, .ptr p2 o2], [.box [.val (.sl false [.int .u8]) b, .val (.int .i64) a, .val .bool bad], .box [.val (.int .i64) c, .val (.int .i64) sz, .val .str bk, .val (.sl false [.sl true ec]) T, .own q4, .own q5, .own q6], .arr t1 xs, .arr t2 ys, .arr t3 zs, .box [.val (.int .i64) i0, .val (.int .i64) i1, .val .str s0, .own r3, .own r4, .own r5, .own r6]] =>
    (rgIs p4 o4 p5 o5 p2 o2 q4 q5 q6 r3 r4 r5 r6 t1 t2 t3 i0 i1 s0 ∧ ec = EC ∧ b.list.length ≤ 1099511627776 ∧ byteOk b.list ∧ 0 ≤ a.int ∧ a.int ≤ b.list.length ∧ a = .i a.int ∧ bad = .b bad.bool ∧ 0 ≤ n.int ∧ n.int ≤ 4294967295 ∧ (zs.length : Int) ≤ n.int ∧ (zs.length : Int) ≤ 65536) ∧
    (bif bad.bool then k (.exit 6) ⟨[(4, .ptr 2688 0), (5, .ptr 640 0), (0, vl (.int .u8) b0), (2, .ptr 256 0)], rgO b (a) (bad) (rgV c sz bk T) (xs) (ys) (zs)⟩ else k (.exit 6) ⟨[(4, .ptr 2688 0), (5, .ptr 640 0), (0, vl (.int .u8) b0), (2, .ptr 256 0)], rgO b (.i (rcXE b.list n.int (n.int - (zs.length : Int)) a.int)) (.b (!rcXK b.list n.int (n.int - (zs.length : Int)) a.int)) (rgV c sz bk T) (xs) (ys) (zs ++ rcX b.list n.int (n.int - (zs.length : Int)) a.int)⟩)
  | _, _ => False
noncomputable def rgLoop4 : LoopF := fun _ svs os k => match svs, os with
  | [.val (.int .i64) j, .val (.int .i64) m, .ptr p10 o10, .val (.int .i64) i, .val (.int .i64) n, .ptr p4 o4, .ptr p5 o5, .val (.sl false [.int .u8]) b0, .ptr p2 o2], [.box [.val (.sl false [.int .u8]) b, .val (.int .i64) a, .val .bool bad], .box [.val (.int .i64) c, .val (.int .i64) sz, .val .str bk, .val (.sl false [.sl true ec]) T, .own q4, .own q5, .own q6], .arr t1 xs, .arr t2 ys, .arr t3 zs, .box [.val (.int .i64) i0, .val (.int .i64) i1, .val .str s0, .own r3, .own r4, .own r5, .own r6], .box [.val .str nm, .val .bool on, .own q10], .arr t10 ws] =>
    (rgIs p4 o4 p5 o5 p2 o2 q4 q5 q6 r3 r4 r5 r6 t1 t2 t3 i0 i1 s0 ∧ ec = EC ∧ b.list.length ≤ 1099511627776 ∧ byteOk b.list ∧ 0 ≤ a.int ∧ a.int ≤ b.list.length ∧ a = .i a.int ∧ bad = .b bad.bool ∧ (p10 = 1280 ∧ o10 = 0 ∧ q10 = 8552454 ∧ t10 = spT) ∧ 0 ≤ j.int ∧ j.int ≤ m.int ∧ m.int ≤ 65535 ∧ (ws.length : Int) + (m.int - j.int) ≤ 65535) ∧
    (bif bad.bool then k (.exit 4) ⟨[(10, .ptr 1280 0), (9, vi i), (6, vi n), (4, .ptr 2688 0), (5, .ptr 640 0), (0, vl (.int .u8) b0), (2, .ptr 256 0)], rgO b a bad (rgV c sz bk T) xs ys zs ++ rgP nm on ws⟩ else k (.exit 4) ⟨[(10, .ptr 1280 0), (9, vi i), (6, vi n), (4, .ptr 2688 0), (5, .ptr 640 0), (0, vl (.int .u8) b0), (2, .ptr 256 0)], rgO b (.i (spXE b.list (m.int - j.int).toNat a.int)) (.b (!spK b.list (m.int - j.int).toNat a.int)) (rgV c sz bk T) xs ys zs ++ rgP nm on (ws ++ spX b.list (m.int - j.int).toNat a.int)⟩)
  | _, _ => False
noncomputable def rgLoop8 : LoopF := fun _ svs os k => match svs, os with
  | [.val (.int .i64) j, .val (.int .i64) m, .val (.int .i64) v, .val (.int .i64) n, .ptr p4 o4, .ptr p5 o5, .val (.sl false [.int .u8]) b0, .ptr p2 o2], [.box [.val (.sl false [.int .u8]) b, .val (.int .i64) a, .val .bool bad], .box [.val (.int .i64) c, .val (.int .i64) sz, .val .str bk, .val (.sl false [.sl true ec]) T, .own q4, .own q5, .own q6], .arr t1 xs, .arr t2 ys, .arr t3 zs, .box [.val (.int .i64) i0, .val (.int .i64) i1, .val .str s0, .own r3, .own r4, .own r5, .own r6]] =>
    (rgIs p4 o4 p5 o5 p2 o2 q4 q5 q6 r3 r4 r5 r6 t1 t2 t3 i0 i1 s0 ∧ ec = EC ∧ bad = .b bad.bool ∧ 0 ≤ j.int ∧ (bad.bool = false → j.int ≤ m.int ∧ m.int ≤ 65535 ∧ (zs.length : Int) + (m.int - j.int) ≤ 65536)) ∧
    (bif bad.bool then k (.exit 8) ⟨[(6, vi n), (4, .ptr 2688 0), (5, .ptr 640 0), (0, vl (.int .u8) b0), (2, .ptr 256 0)], rgO b a bad (rgV c sz bk T) xs ys zs⟩ else k (.exit 8) ⟨[(6, vi n), (4, .ptr 2688 0), (5, .ptr 640 0), (0, vl (.int .u8) b0), (2, .ptr 256 0)], rgO b a bad (rgV c sz bk T) xs ys (zs ++ List.replicate (m.int - j.int).toNat v)⟩)
  | _, _ => False
noncomputable def rgC : Ctx := mkC PR eqs0 (fnsConsP 13 mputP mputS fnsNil) (trsCons 41 [false, false] rrnumF (trsCons 42 [false] rrtextF (trsCons 43 [false, false, false] (frzT PR [2097280] rrtabF) trsNil)))
  (loopCons 8 [16, 14, 15, 6, 4, 5, 0, 2] [2688, 640, 8470538, 8470540, 8470542, 256] rgLoop8 (loopCons 4 [12, 11, 10, 9, 6, 4, 5, 0, 2] [2688, 640, 8470538, 8470540, 8470542, 256, 1280, 8552454] rgLoop4 (loopCons 6 [6, 4, 5, 0, 2] [2688, 640, 8470538, 8470540, 8470542, 256] rgLoop6 (loopCons 2 [9, 6, 4, 5, 0, 2] [2688, 640, 8470538, 8470540, 8470542, 256] rgLoop2 (loopCons 0 [7, 6, 4, 5, 0, 2] [2688, 640, 8470538, 8470540, 8470542, 256] rgLoop0 noLoops)))))
  (outCons 8 [6, 4, 5, 0, 2] [2688, 640, 8470538, 8470540, 8470542, 256] (outCons 4 [10, 9, 6, 4, 5, 0, 2] [2688, 640, 8470538, 8470540, 8470542, 256, 1280, 8552454] (outCons 6 [4, 5, 0, 2] [2688, 640, 8470538, 8470540, 8470542, 256] (outCons 2 [4, 5, 0, 2] [2688, 640, 8470538, 8470540, 8470542, 256] (outCons 0 [4, 5, 0, 2] [2688, 640, 8470538, 8470540, 8470542, 256] noOut))))) noOut
theorem rg_round0 (pan : KP) (μ : Mu) (N : Nat) (k : KE) (i n : U) (b0 b a c sz bk T : U) (bad : Bool) (xs ys zs : List U) : (exec (rgC.panics pan) (loopBody Try.f19 0) 0 ⟨[(7, vi i), (6, vi n), (4, .ptr 2688 0), (5, .ptr 640 0), (0, vl (.int .u8) b0), (2, .ptr 256 0)], rgO b a (.b bad) (rgV c sz bk T) xs ys zs⟩ (again PR (some ([4, 5, 0, 2], [2688, 640, 8470538, 8470540, 8470542, 256])) none pan [7, 6, 4, 5, 0, 2] [2688, 640, 8470538, 8470540, 8470542, 256] rgLoop0 μ N k)) = (bif decide (i.int < n.int) then bif !bad then (rdIs 2097153 (0 : Nat) 2097153 b ∧ U.b bad = U.b bad) ∧ bif !bad && readR b.list a.int then (rdIs 2097153 (0 : Nat) 2097153 b ∧ U.b false = U.b false ∧ (1 : Int) ≤ 2 ∧ (2 : Int) ≤ 4) ∧ bif thereR b.list (a.int + 2 + getN b.list a.int 2) 2 then (rdIs 2097153 (0 : Nat) 2097153 b ∧ U.b false = U.b false) ∧ bif tgR b.list (a.int + 2 + getN b.list a.int 2 + 2) (getN b.list (a.int + 2 + getN b.list a.int 2) 2 / 2 ^ Int.toNat c.int) c.int then bif decide (List.length xs + 1 ≤ room) && true then bif Nat.blt (μ [vi (U.i (IntKind.wrap .i64 (i.int + 1))), vi n, .ptr 2688 0, .ptr 640 0, .val (.sl false [.int .u8]) b0, .ptr 256 0] [.box [.val (.sl false [.int .u8]) b, vi (U.i (a.int + 2 + getN b.list a.int 2 + 2 + 2 + 130 * getN b.list (a.int + 2 + getN b.list a.int 2 + 2) 2)), .val .bool (U.b false)], .box [vi c, vi sz, .val .str bk, .val (.sl false [.sl true EC]) T, .own 8470538, .own 8470540, .own 8470542], .arr 41 (xs ++ [U.l [U.s (readV b.list a.int), U.i (getN b.list (a.int + 2 + getN b.list a.int 2) 2), U.l (tgL b.list (a.int + 2 + getN b.list a.int 2 + 2))]]), .arr 44 ys, .arr 3 zs, .box [vi (U.i 0), vi (U.i 0), .val .str (U.s ⟨#[]⟩), .own 264, .own 266, .own 268, .own 270]]) N then (rgIs 2688 (0 : Nat) 640 (0 : Nat) 256 (0 : Nat) 8470538 8470540 8470542 264 266 268 270 (41 : Nat) 44 3 (U.i 0) (U.i 0) (U.s ⟨#[]⟩) ∧ EC = EC ∧ b.list.length ≤ (1099511627776 : Nat) ∧ byteOk b.list ∧ (0 : Int) ≤ a.int + 2 + getN b.list a.int 2 + 2 + 2 + 130 * getN b.list (a.int + 2 + getN b.list a.int 2 + 2) 2 ∧ a.int + 2 + getN b.list a.int 2 + 2 + 2 + 130 * getN b.list (a.int + 2 + getN b.list a.int 2 + 2) (2 : Int) ≤ (b.list.length : Int) ∧ U.i (a.int + 2 + getN b.list a.int 2 + 2 + 2 + 130 * getN b.list (a.int + 2 + getN b.list a.int 2 + 2) 2) = U.i (a.int + 2 + getN b.list a.int 2 + 2 + 2 + 130 * getN b.list (a.int + 2 + getN b.list a.int 2 + 2) 2) ∧ U.b false = U.b false ∧ (0 : Int) ≤ IntKind.wrap .i64 (i.int + 1) ∧ IntKind.wrap .i64 (i.int + 1) ≤ n.int ∧ n.int ≤ 255 ∧ (0 : Int) ≤ c.int ∧ (↑(List.length (xs ++ [U.l [U.s (readV b.list a.int), U.i (getN b.list (a.int + 2 + getN b.list a.int 2) 2), U.l (tgL b.list (a.int + 2 + getN b.list a.int 2 + 2))]])) : Int) + (n.int - IntKind.wrap .i64 (i.int + 1)) ≤ 255) ∧ k (Ex.exit 0) (St.mk [(4, .ptr 2688 0), (5, .ptr 640 0), (0, .val (.sl false [.int .u8]) b0), (2, .ptr 256 0)] [(2688, .box [.val (.sl false [.int .u8]) b, vi (U.i (shXE b.list c.int (Int.toNat (n.int - IntKind.wrap .i64 (i.int + 1))) (a.int + 2 + getN b.list a.int 2 + 2 + 2 + 130 * getN b.list (a.int + 2 + getN b.list a.int 2 + 2) 2))), .val .bool (U.b !shK b.list c.int (Int.toNat (n.int - IntKind.wrap .i64 (i.int + 1))) (a.int + 2 + getN b.list a.int 2 + 2 + 2 + 130 * getN b.list (a.int + 2 + getN b.list a.int 2 + 2) 2))]), (640, .box [vi c, vi sz, .val .str bk, .val (.sl false [.sl true EC]) T, .own 8470538, .own 8470540, .own 8470542]), (8470538, .arr 41 (xs ++ [U.l [U.s (readV b.list a.int), U.i (getN b.list (a.int + 2 + getN b.list a.int 2) 2), U.l (tgL b.list (a.int + 2 + getN b.list a.int 2 + 2))]] ++ shX b.list c.int (Int.toNat (n.int - IntKind.wrap .i64 (i.int + 1))) (a.int + 2 + getN b.list a.int 2 + 2 + 2 + 130 * getN b.list (a.int + 2 + getN b.list a.int 2 + 2) 2))), (8470540, .arr 44 ys), (8470542, .arr 3 zs), (256, .box [vi (U.i 0), vi (U.i 0), .val .str (U.s ⟨#[]⟩), .own 264, .own 266, .own 268, .own 270])]) else False else False else bif decide (List.length xs + 1 ≤ room) && true then bif Nat.blt (μ [vi (U.i (IntKind.wrap .i64 (i.int + 1))), vi n, .ptr 2688 0, .ptr 640 0, .val (.sl false [.int .u8]) b0, .ptr 256 0] [.box [.val (.sl false [.int .u8]) b, vi (U.i (a.int + 2 + getN b.list a.int 2 + 2)), .val .bool (U.b true)], .box [vi c, vi sz, .val .str bk, .val (.sl false [.sl true EC]) T, .own 8470538, .own 8470540, .own 8470542], .arr 41 (xs ++ [U.l [U.s (readV b.list a.int), U.i (getN b.list (a.int + 2 + getN b.list a.int 2) 2), U.l []]]), .arr 44 ys, .arr 3 zs, .box [vi (U.i 0), vi (U.i 0), .val .str (U.s ⟨#[]⟩), .own 264, .own 266, .own 268, .own 270]]) N then (rgIs 2688 (0 : Nat) 640 (0 : Nat) 256 (0 : Nat) 8470538 8470540 8470542 264 266 268 270 (41 : Nat) 44 3 (U.i 0) (U.i 0) (U.s ⟨#[]⟩) ∧ EC = EC ∧ b.list.length ≤ (1099511627776 : Nat) ∧ byteOk b.list ∧ (0 : Int) ≤ a.int + 2 + getN b.list a.int 2 + 2 ∧ a.int + 2 + getN b.list a.int 2 + (2 : Int) ≤ (b.list.length : Int) ∧ U.i (a.int + 2 + getN b.list a.int 2 + 2) = U.i (a.int + 2 + getN b.list a.int 2 + 2) ∧ U.b true = U.b true ∧ (0 : Int) ≤ IntKind.wrap .i64 (i.int + 1) ∧ IntKind.wrap .i64 (i.int + 1) ≤ n.int ∧ n.int ≤ 255 ∧ (0 : Int) ≤ c.int ∧ (↑(List.length (xs ++ [U.l [U.s (readV b.list a.int), U.i (getN b.list (a.int + 2 + getN b.list a.int 2) 2), U.l []]])) : Int) + (n.int - IntKind.wrap .i64 (i.int + 1)) ≤ 255) ∧ k (Ex.exit 0) (St.mk [(4, .ptr 2688 0), (5, .ptr 640 0), (0, .val (.sl false [.int .u8]) b0), (2, .ptr 256 0)] [(2688, .box [.val (.sl false [.int .u8]) b, vi (U.i (a.int + 2 + getN b.list a.int 2 + 2)), .val .bool (U.b true)]), (640, .box [vi c, vi sz, .val .str bk, .val (.sl false [.sl true EC]) T, .own 8470538, .own 8470540, .own 8470542]), (8470538, .arr 41 (xs ++ [U.l [U.s (readV b.list a.int), U.i (getN b.list (a.int + 2 + getN b.list a.int 2) 2), U.l []]])), (8470540, .arr 44 ys), (8470542, .arr 3 zs), (256, .box [vi (U.i 0), vi (U.i 0), .val .str (U.s ⟨#[]⟩), .own 264, .own 266, .own 268, .own 270])]) else False else False else (rdIs 2097153 (0 : Nat) 2097153 b ∧ U.b true = U.b true) ∧ bif decide (List.length xs + 1 ≤ room) && true then bif Nat.blt (μ [vi (U.i (IntKind.wrap .i64 (i.int + 1))), vi n, .ptr 2688 0, .ptr 640 0, .val (.sl false [.int .u8]) b0, .ptr 256 0] [.box [.val (.sl false [.int .u8]) b, vi (U.i (a.int + 2 + getN b.list a.int 2)), .val .bool (U.b true)], .box [vi c, vi sz, .val .str bk, .val (.sl false [.sl true EC]) T, .own 8470538, .own 8470540, .own 8470542], .arr 41 (xs ++ [U.l [U.s (readV b.list a.int), U.i 0, U.l []]]), .arr 44 ys, .arr 3 zs, .box [vi (U.i 0), vi (U.i 0), .val .str (U.s ⟨#[]⟩), .own 264, .own 266, .own 268, .own 270]]) N then (rgIs 2688 (0 : Nat) 640 (0 : Nat) 256 (0 : Nat) 8470538 8470540 8470542 264 266 268 270 (41 : Nat) 44 3 (U.i 0) (U.i 0) (U.s ⟨#[]⟩) ∧ EC = EC ∧ b.list.length ≤ (1099511627776 : Nat) ∧ byteOk b.list ∧ (0 : Int) ≤ a.int + 2 + getN b.list a.int 2 ∧ a.int + 2 + getN b.list a.int (2 : Int) ≤ (b.list.length : Int) ∧ U.i (a.int + 2 + getN b.list a.int 2) = U.i (a.int + 2 + getN b.list a.int 2) ∧ U.b true = U.b true ∧ (0 : Int) ≤ IntKind.wrap .i64 (i.int + 1) ∧ IntKind.wrap .i64 (i.int + 1) ≤ n.int ∧ n.int ≤ 255 ∧ (0 : Int) ≤ c.int ∧ (↑(List.length (xs ++ [U.l [U.s (readV b.list a.int), U.i 0, U.l []]])) : Int) + (n.int - IntKind.wrap .i64 (i.int + 1)) ≤ 255) ∧ k (Ex.exit 0) (St.mk [(4, .ptr 2688 0), (5, .ptr 640 0), (0, .val (.sl false [.int .u8]) b0), (2, .ptr 256 0)] [(2688, .box [.val (.sl false [.int .u8]) b, vi (U.i (a.int + 2 + getN b.list a.int 2)), .val .bool (U.b true)]), (640, .box [vi c, vi sz, .val .str bk, .val (.sl false [.sl true EC]) T, .own 8470538, .own 8470540, .own 8470542]), (8470538, .arr 41 (xs ++ [U.l [U.s (readV b.list a.int), U.i 0, U.l []]])), (8470540, .arr 44 ys), (8470542, .arr 3 zs), (256, .box [vi (U.i 0), vi (U.i 0), .val .str (U.s ⟨#[]⟩), .own 264, .own 266, .own 268, .own 270])]) else False else False else (rdIs 2097153 (0 : Nat) 2097153 b ∧ U.b true = U.b true ∧ (1 : Int) ≤ 2 ∧ (2 : Int) ≤ 4) ∧ (rdIs 2097153 (0 : Nat) 2097153 b ∧ U.b true = U.b true) ∧ bif decide (List.length xs + 1 ≤ room) && true then bif Nat.blt (μ [vi (U.i (IntKind.wrap .i64 (i.int + 1))), vi n, .ptr 2688 0, .ptr 640 0, .val (.sl false [.int .u8]) b0, .ptr 256 0] [.box [.val (.sl false [.int .u8]) b, vi a, .val .bool (U.b true)], .box [vi c, vi sz, .val .str bk, .val (.sl false [.sl true EC]) T, .own 8470538, .own 8470540, .own 8470542], .arr 41 (xs ++ [U.l [U.s ⟨#[]⟩, U.i 0, U.l []]]), .arr 44 ys, .arr 3 zs, .box [vi (U.i 0), vi (U.i 0), .val .str (U.s ⟨#[]⟩), .own 264, .own 266, .own 268, .own 270]]) N then (rgIs 2688 (0 : Nat) 640 (0 : Nat) 256 (0 : Nat) 8470538 8470540 8470542 264 266 268 270 (41 : Nat) 44 3 (U.i 0) (U.i 0) (U.s ⟨#[]⟩) ∧ EC = EC ∧ b.list.length ≤ (1099511627776 : Nat) ∧ byteOk b.list ∧ (0 : Int) ≤ a.int ∧ a.int ≤ (b.list.length : Int) ∧ a = U.i a.int ∧ U.b true = U.b true ∧ (0 : Int) ≤ IntKind.wrap .i64 (i.int + 1) ∧ IntKind.wrap .i64 (i.int + 1) ≤ n.int ∧ n.int ≤ 255 ∧ (0 : Int) ≤ c.int ∧ (↑(List.length (xs ++ [U.l [U.s ⟨#[]⟩, U.i 0, U.l []]])) : Int) + (n.int - IntKind.wrap .i64 (i.int + 1)) ≤ 255) ∧ k (Ex.exit 0) (St.mk [(4, .ptr 2688 0), (5, .ptr 640 0), (0, .val (.sl false [.int .u8]) b0), (2, .ptr 256 0)] [(2688, .box [.val (.sl false [.int .u8]) b, vi a, .val .bool (U.b true)]), (640, .box [vi c, vi sz, .val .str bk, .val (.sl false [.sl true EC]) T, .own 8470538, .own 8470540, .own 8470542]), (8470538, .arr 41 (xs ++ [U.l [U.s ⟨#[]⟩, U.i 0, U.l []]])), (8470540, .arr 44 ys), (8470542, .arr 3 zs), (256, .box [vi (U.i 0), vi (U.i 0), .val .str (U.s ⟨#[]⟩), .own 264, .own 266, .own 268, .own 270])]) else False else False else k (Ex.exit 0) (St.mk [(4, .ptr 2688 0), (5, .ptr 640 0), (0, .val (.sl false [.int .u8]) b0), (2, .ptr 256 0)] [(2688, .box [.val (.sl false [.int .u8]) b, vi a, .val .bool (U.b bad)]), (640, .box [vi c, vi sz, .val .str bk, .val (.sl false [.sl true EC]) T, .own 8470538, .own 8470540, .own 8470542]), (8470538, .arr 41 xs), (8470540, .arr 44 ys), (8470542, .arr 3 zs), (256, .box [vi (U.i 0), vi (U.i 0), .val .str (U.s ⟨#[]⟩), .own 264, .own 266, .own 268, .own 270])]) else k (Ex.exit 0) (St.mk [(4, .ptr 2688 0), (5, .ptr 640 0), (0, .val (.sl false [.int .u8]) b0), (2, .ptr 256 0)] [(2688, .box [.val (.sl false [.int .u8]) b, vi a, .val .bool (U.b bad)]), (640, .box [vi c, vi sz, .val .str bk, .val (.sl false [.sl true EC]) T, .own 8470538, .own 8470540, .own 8470542]), (8470538, .arr 41 xs), (8470540, .arr 44 ys), (8470542, .arr 3 zs), (256, .box [vi (U.i 0), vi (U.i 0), .val .str (U.s ⟨#[]⟩), .own 264, .own 266, .own 268, .own 270])])) := by kernel_rfl
theorem rg_round2 (pan : KP) (μ : Mu) (N : Nat) (k : KE) (i n : U) (b0 b a c sz bk T : U) (bad : Bool) (xs ys zs : List U) : (exec (rgC.panics pan) (loopBody Try.f19 1) 2 ⟨[(9, vi i), (6, vi n), (4, .ptr 2688 0), (5, .ptr 640 0), (0, vl (.int .u8) b0), (2, .ptr 256 0)], rgO b a (.b bad) (rgV c sz bk T) xs ys zs⟩ (again PR (some ([4, 5, 0, 2], [2688, 640, 8470538, 8470540, 8470542, 256])) none pan [9, 6, 4, 5, 0, 2] [2688, 640, 8470538, 8470540, 8470542, 256] rgLoop2 μ N k)) = (bif decide (i.int < n.int) then bif !bad then (rdIs 2097153 (0 : Nat) 2097153 b ∧ U.b bad = U.b bad) ∧ bif !bad && readR b.list a.int then (rdIs 2097153 (0 : Nat) 2097153 b ∧ U.b false = U.b false ∧ (1 : Int) ≤ 1 ∧ (1 : Int) ≤ 4) ∧ bif thereR b.list (a.int + 2 + getN b.list a.int 2) 1 then (rdIs 2097153 (0 : Nat) 2097153 b ∧ U.b false = U.b false ∧ (1 : Int) ≤ 2 ∧ (2 : Int) ≤ 4) ∧ bif thereR b.list (a.int + 2 + getN b.list a.int 2 + 1) 2 then (rgIs 2688 (0 : Nat) 640 (0 : Nat) 256 (0 : Nat) 8470538 8470540 8470542 264 266 268 270 41 44 3 (U.i 0) (U.i 0) (U.s ⟨#[]⟩) ∧ EC = EC ∧ b.list.length ≤ (1099511627776 : Nat) ∧ byteOk b.list ∧ (0 : Int) ≤ a.int + 2 + getN b.list a.int 2 + 1 + 2 ∧ a.int + 2 + getN b.list a.int 2 + 1 + (2 : Int) ≤ (b.list.length : Int) ∧ U.i (a.int + 2 + getN b.list a.int 2 + 1 + 2) = U.i (a.int + 2 + getN b.list a.int 2 + 1 + 2) ∧ U.b false = U.b false ∧ (1280 = nat_lit 1280 ∧ nat_lit 0 = nat_lit 0 ∧ nat_lit 8552454 = nat_lit 8552454 ∧ nat_lit 72 = nat_lit 72) ∧ (0 : Int) ≤ 0 ∧ (0 : Int) ≤ getN b.list (a.int + 2 + getN b.list a.int 2 + 1) 2 ∧ getN b.list (a.int + 2 + getN b.list a.int 2 + 1) (2 : Int) ≤ 65535 ∧ (↑(0 : Nat) : Int) + (getN b.list (a.int + 2 + getN b.list a.int 2 + 1) 2 - 0) ≤ 65535) ∧ bif decide (List.length ys + 1 ≤ room) && true then bif Nat.blt (μ [vi (U.i (IntKind.wrap .i64 (i.int + 1))), vi n, .ptr 2688 0, .ptr 640 0, .val (.sl false [.int .u8]) b0, .ptr 256 0] [.box [.val (.sl false [.int .u8]) b, vi (U.i (spXE b.list (Int.toNat (getN b.list (a.int + 2 + getN b.list a.int 2 + 1) 2 - 0)) (a.int + 2 + getN b.list a.int 2 + 1 + 2))), .val .bool (U.b !spK b.list (Int.toNat (getN b.list (a.int + 2 + getN b.list a.int 2 + 1) 2 - 0)) (a.int + 2 + getN b.list a.int 2 + 1 + 2))], .box [vi c, vi sz, .val .str bk, .val (.sl false [.sl true EC]) T, .own 8470538, .own 8470540, .own 8470542], .arr 41 xs, .arr 44 (ys ++ [U.l [U.s (readV b.list a.int), U.b (getN b.list (a.int + 2 + getN b.list a.int 2) (1 : Int) == 1), U.l ([] ++ spX b.list (Int.toNat (getN b.list (a.int + 2 + getN b.list a.int 2 + 1) 2 - 0)) (a.int + 2 + getN b.list a.int 2 + 1 + 2))]]), .arr 3 zs, .box [vi (U.i 0), vi (U.i 0), .val .str (U.s ⟨#[]⟩), .own 264, .own 266, .own 268, .own 270]]) N then (rgIs (2688 : Nat) (0 : Nat) (640 : Nat) (0 : Nat) (256 : Nat) (0 : Nat) (8470538 : Nat) (8470540 : Nat) (8470542 : Nat) (264 : Nat) (266 : Nat) (268 : Nat) (270 : Nat) shT (44 : Nat) intT (U.i 0) (U.i 0) (U.s ⟨#[]⟩) ∧ EC = EC ∧ b.list.length ≤ (1099511627776 : Nat) ∧ byteOk b.list ∧ (0 : Int) ≤ spXE b.list (Int.toNat (getN b.list (a.int + 2 + getN b.list a.int 2 + 1) 2 - 0)) (a.int + 2 + getN b.list a.int 2 + 1 + 2) ∧ spXE b.list (Int.toNat (getN b.list (a.int + 2 + getN b.list a.int 2 + 1) 2 - 0)) (a.int + 2 + getN b.list a.int 2 + 1 + 2) ≤ (b.list.length : Int) ∧ U.i (spXE b.list (Int.toNat (getN b.list (a.int + 2 + getN b.list a.int 2 + 1) 2 - 0)) (a.int + 2 + getN b.list a.int 2 + 1 + 2)) = U.i (spXE b.list (Int.toNat (getN b.list (a.int + 2 + getN b.list a.int 2 + 1) 2 - 0)) (a.int + 2 + getN b.list a.int 2 + 1 + 2)) ∧ (U.b !spK b.list (Int.toNat (getN b.list (a.int + 2 + getN b.list a.int 2 + 1) 2 - 0)) (a.int + 2 + getN b.list a.int 2 + 1 + 2)) = U.b !spK b.list (Int.toNat (getN b.list (a.int + 2 + getN b.list a.int 2 + 1) 2 - 0)) (a.int + 2 + getN b.list a.int 2 + 1 + 2) ∧ (0 : Int) ≤ IntKind.wrap .i64 (i.int + 1) ∧ IntKind.wrap .i64 (i.int + 1) ≤ n.int ∧ n.int ≤ 255 ∧ (↑(List.length (ys ++ [U.l [U.s (readV b.list a.int), U.b (getN b.list (a.int + 2 + getN b.list a.int 2) (1 : Int) == 1), U.l ([] ++ spX b.list (Int.toNat (getN b.list (a.int + 2 + getN b.list a.int 2 + 1) 2 - 0)) (a.int + 2 + getN b.list a.int 2 + 1 + 2))]])) : Int) + (n.int - IntKind.wrap .i64 (i.int + 1)) ≤ 255) ∧ bif !spK b.list (Int.toNat (getN b.list (a.int + 2 + getN b.list a.int 2 + 1) 2 - 0)) (a.int + 2 + getN b.list a.int 2 + 1 + 2) then k (Ex.exit 2) (St.mk [(4, .ptr 2688 0), (5, .ptr 640 0), (0, .val (.sl false [.int .u8]) b0), (2, .ptr 256 0)] [(2688, .box [.val (.sl false [.int .u8]) b, vi (U.i (spXE b.list (Int.toNat (getN b.list (a.int + 2 + getN b.list a.int 2 + 1) 2 - 0)) (a.int + 2 + getN b.list a.int 2 + 1 + 2))), .val .bool (U.b !spK b.list (Int.toNat (getN b.list (a.int + 2 + getN b.list a.int 2 + 1) 2 - 0)) (a.int + 2 + getN b.list a.int 2 + 1 + 2))]), (640, .box [vi c, vi sz, .val .str bk, .val (.sl false [.sl true EC]) T, .own 8470538, .own 8470540, .own 8470542]), (8470538, .arr 41 xs), (8470540, .arr 44 (ys ++ [U.l [U.s (readV b.list a.int), U.b (getN b.list (a.int + 2 + getN b.list a.int 2) (1 : Int) == 1), U.l ([] ++ spX b.list (Int.toNat (getN b.list (a.int + 2 + getN b.list a.int 2 + 1) 2 - 0)) (a.int + 2 + getN b.list a.int 2 + 1 + 2))]])), (8470542, .arr 3 zs), (256, .box [vi (U.i 0), vi (U.i 0), .val .str (U.s ⟨#[]⟩), .own 264, .own 266, .own 268, .own 270])]) else k (Ex.exit 2) (St.mk [(4, .ptr 2688 0), (5, .ptr 640 0), (0, .val (.sl false [.int .u8]) b0), (2, .ptr 256 0)] [(2688, .box [.val (.sl false [.int .u8]) b, vi (U.i (bmXE b.list (Int.toNat (n.int - IntKind.wrap .i64 (i.int + 1))) (spXE b.list (Int.toNat (getN b.list (a.int + 2 + getN b.list a.int 2 + 1) 2 - 0)) (a.int + 2 + getN b.list a.int 2 + 1 + 2)))), .val .bool (U.b !bmXK b.list (Int.toNat (n.int - IntKind.wrap .i64 (i.int + 1))) (spXE b.list (Int.toNat (getN b.list (a.int + 2 + getN b.list a.int 2 + 1) 2 - 0)) (a.int + 2 + getN b.list a.int 2 + 1 + 2)))]), (640, .box [vi c, vi sz, .val .str bk, .val (.sl false [.sl true EC]) T, .own 8470538, .own 8470540, .own 8470542]), (8470538, .arr 41 xs), (8470540, .arr 44 (ys ++ [U.l [U.s (readV b.list a.int), U.b (getN b.list (a.int + 2 + getN b.list a.int 2) (1 : Int) == 1), U.l ([] ++ spX b.list (Int.toNat (getN b.list (a.int + 2 + getN b.list a.int 2 + 1) 2 - 0)) (a.int + 2 + getN b.list a.int 2 + 1 + 2))]] ++ bmX b.list (Int.toNat (n.int - IntKind.wrap .i64 (i.int + 1))) (spXE b.list (Int.toNat (getN b.list (a.int + 2 + getN b.list a.int 2 + 1) 2 - 0)) (a.int + 2 + getN b.list a.int 2 + 1 + 2)))), (8470542, .arr 3 zs), (256, .box [vi (U.i 0), vi (U.i 0), .val .str (U.s ⟨#[]⟩), .own 264, .own 266, .own 268, .own 270])]) else False else False else (rgIs 2688 (0 : Nat) 640 (0 : Nat) 256 (0 : Nat) 8470538 8470540 8470542 264 266 268 270 41 44 3 (U.i 0) (U.i 0) (U.s ⟨#[]⟩) ∧ EC = EC ∧ b.list.length ≤ (1099511627776 : Nat) ∧ byteOk b.list ∧ (0 : Int) ≤ a.int + 2 + getN b.list a.int 2 + 1 ∧ a.int + 2 + getN b.list a.int 2 + (1 : Int) ≤ (b.list.length : Int) ∧ U.i (a.int + 2 + getN b.list a.int 2 + 1) = U.i (a.int + 2 + getN b.list a.int 2 + 1) ∧ U.b true = U.b true ∧ (1280 = nat_lit 1280 ∧ nat_lit 0 = nat_lit 0 ∧ nat_lit 8552454 = nat_lit 8552454 ∧ nat_lit 72 = nat_lit 72) ∧ (0 : Int) ≤ 0 ∧ (0 : Int) ≤ 0 ∧ (0 : Int) ≤ 65535 ∧ (↑(0 : Nat) : Int) + ((0 : Int) - 0) ≤ 65535) ∧ bif decide (List.length ys + 1 ≤ room) && true then bif Nat.blt (μ [vi (U.i (IntKind.wrap .i64 (i.int + 1))), vi n, .ptr 2688 0, .ptr 640 0, .val (.sl false [.int .u8]) b0, .ptr 256 0] [.box [.val (.sl false [.int .u8]) b, vi (U.i (a.int + 2 + getN b.list a.int 2 + 1)), .val .bool (U.b true)], .box [vi c, vi sz, .val .str bk, .val (.sl false [.sl true EC]) T, .own 8470538, .own 8470540, .own 8470542], .arr 41 xs, .arr 44 (ys ++ [U.l [U.s (readV b.list a.int), U.b (getN b.list (a.int + 2 + getN b.list a.int 2) (1 : Int) == 1), U.l []]]), .arr 3 zs, .box [vi (U.i 0), vi (U.i 0), .val .str (U.s ⟨#[]⟩), .own 264, .own 266, .own 268, .own 270]]) N then (rgIs (2688 : Nat) (0 : Nat) (640 : Nat) (0 : Nat) (256 : Nat) (0 : Nat) (8470538 : Nat) (8470540 : Nat) (8470542 : Nat) (264 : Nat) (266 : Nat) (268 : Nat) (270 : Nat) shT (44 : Nat) intT (U.i 0) (U.i 0) (U.s ⟨#[]⟩) ∧ EC = EC ∧ b.list.length ≤ (1099511627776 : Nat) ∧ byteOk b.list ∧ (0 : Int) ≤ a.int + 2 + getN b.list a.int 2 + 1 ∧ a.int + 2 + getN b.list a.int 2 + (1 : Int) ≤ (b.list.length : Int) ∧ U.i (a.int + 2 + getN b.list a.int 2 + 1) = U.i (a.int + 2 + getN b.list a.int 2 + 1) ∧ U.b true = U.b true ∧ (0 : Int) ≤ IntKind.wrap .i64 (i.int + 1) ∧ IntKind.wrap .i64 (i.int + 1) ≤ n.int ∧ n.int ≤ 255 ∧ (↑(List.length (ys ++ [U.l [U.s (readV b.list a.int), U.b (getN b.list (a.int + 2 + getN b.list a.int 2) (1 : Int) == 1), U.l []]])) : Int) + (n.int - IntKind.wrap .i64 (i.int + 1)) ≤ 255) ∧ k (Ex.exit 2) (St.mk [(4, .ptr 2688 0), (5, .ptr 640 0), (0, .val (.sl false [.int .u8]) b0), (2, .ptr 256 0)] [(2688, .box [.val (.sl false [.int .u8]) b, vi (U.i (a.int + 2 + getN b.list a.int 2 + 1)), .val .bool (U.b true)]), (640, .box [vi c, vi sz, .val .str bk, .val (.sl false [.sl true EC]) T, .own 8470538, .own 8470540, .own 8470542]), (8470538, .arr 41 xs), (8470540, .arr 44 (ys ++ [U.l [U.s (readV b.list a.int), U.b (getN b.list (a.int + 2 + getN b.list a.int 2) (1 : Int) == 1), U.l []]])), (8470542, .arr 3 zs), (256, .box [vi (U.i 0), vi (U.i 0), .val .str (U.s ⟨#[]⟩), .own 264, .own 266, .own 268, .own 270])]) else False else False else (rdIs 2097153 (0 : Nat) 2097153 b ∧ U.b true = U.b true ∧ (1 : Int) ≤ 2 ∧ (2 : Int) ≤ 4) ∧ (rgIs 2688 (0 : Nat) 640 (0 : Nat) 256 (0 : Nat) 8470538 8470540 8470542 264 266 268 270 41 44 3 (U.i 0) (U.i 0) (U.s ⟨#[]⟩) ∧ EC = EC ∧ b.list.length ≤ (1099511627776 : Nat) ∧ byteOk b.list ∧ (0 : Int) ≤ a.int + 2 + getN b.list a.int 2 ∧ a.int + 2 + getN b.list a.int (2 : Int) ≤ (b.list.length : Int) ∧ U.i (a.int + 2 + getN b.list a.int 2) = U.i (a.int + 2 + getN b.list a.int 2) ∧ U.b true = U.b true ∧ (1280 = nat_lit 1280 ∧ nat_lit 0 = nat_lit 0 ∧ nat_lit 8552454 = nat_lit 8552454 ∧ nat_lit 72 = nat_lit 72) ∧ (0 : Int) ≤ 0 ∧ (0 : Int) ≤ 0 ∧ (0 : Int) ≤ 65535 ∧ (↑(0 : Nat) : Int) + ((0 : Int) - 0) ≤ 65535) ∧ bif decide (List.length ys + 1 ≤ room) && true then bif Nat.blt (μ [vi (U.i (IntKind.wrap .i64 (i.int + 1))), vi n, .ptr 2688 0, .ptr 640 0, .val (.sl false [.int .u8]) b0, .ptr 256 0] [.box [.val (.sl false [.int .u8]) b, vi (U.i (a.int + 2 + getN b.list a.int 2)), .val .bool (U.b true)], .box [vi c, vi sz, .val .str bk, .val (.sl false [.sl true EC]) T, .own 8470538, .own 8470540, .own 8470542], .arr 41 xs, .arr 44 (ys ++ [U.l [U.s (readV b.list a.int), U.b ((0 : Int) == 1), U.l []]]), .arr 3 zs, .box [vi (U.i 0), vi (U.i 0), .val .str (U.s ⟨#[]⟩), .own 264, .own 266, .own 268, .own 270]]) N then (rgIs (2688 : Nat) (0 : Nat) (640 : Nat) (0 : Nat) (256 : Nat) (0 : Nat) (8470538 : Nat) (8470540 : Nat) (8470542 : Nat) (264 : Nat) (266 : Nat) (268 : Nat) (270 : Nat) shT (44 : Nat) intT (U.i 0) (U.i 0) (U.s ⟨#[]⟩) ∧ EC = EC ∧ b.list.length ≤ (1099511627776 : Nat) ∧ byteOk b.list ∧ (0 : Int) ≤ a.int + 2 + getN b.list a.int 2 ∧ a.int + 2 + getN b.list a.int (2 : Int) ≤ (b.list.length : Int) ∧ U.i (a.int + 2 + getN b.list a.int 2) = U.i (a.int + 2 + getN b.list a.int 2) ∧ U.b true = U.b true ∧ (0 : Int) ≤ IntKind.wrap .i64 (i.int + 1) ∧ IntKind.wrap .i64 (i.int + 1) ≤ n.int ∧ n.int ≤ 255 ∧ (↑(List.length (ys ++ [U.l [U.s (readV b.list a.int), U.b ((0 : Int) == 1), U.l []]])) : Int) + (n.int - IntKind.wrap .i64 (i.int + 1)) ≤ 255) ∧ k (Ex.exit 2) (St.mk [(4, .ptr 2688 0), (5, .ptr 640 0), (0, .val (.sl false [.int .u8]) b0), (2, .ptr 256 0)] [(2688, .box [.val (.sl false [.int .u8]) b, vi (U.i (a.int + 2 + getN b.list a.int 2)), .val .bool (U.b true)]), (640, .box [vi c, vi sz, .val .str bk, .val (.sl false [.sl true EC]) T, .own 8470538, .own 8470540, .own 8470542]), (8470538, .arr 41 xs), (8470540, .arr 44 (ys ++ [U.l [U.s (readV b.list a.int), U.b ((0 : Int) == 1), U.l []]])), (8470542, .arr 3 zs), (256, .box [vi (U.i 0), vi (U.i 0), .val .str (U.s ⟨#[]⟩), .own 264, .own 266, .own 268, .own 270])]) else False else False else (rdIs 2097153 (0 : Nat) 2097153 b ∧ U.b true = U.b true ∧ (1 : Int) ≤ 1 ∧ (1 : Int) ≤ 4) ∧ (rdIs 2097153 (0 : Nat) 2097153 b ∧ U.b true = U.b true ∧ (1 : Int) ≤ 2 ∧ (2 : Int) ≤ 4) ∧ (rgIs 2688 (0 : Nat) 640 (0 : Nat) 256 (0 : Nat) 8470538 8470540 8470542 264 266 268 270 41 44 3 (U.i 0) (U.i 0) (U.s ⟨#[]⟩) ∧ EC = EC ∧ b.list.length ≤ (1099511627776 : Nat) ∧ byteOk b.list ∧ (0 : Int) ≤ a.int ∧ a.int ≤ (b.list.length : Int) ∧ a = U.i a.int ∧ U.b true = U.b true ∧ (1280 = nat_lit 1280 ∧ nat_lit 0 = nat_lit 0 ∧ nat_lit 8552454 = nat_lit 8552454 ∧ nat_lit 72 = nat_lit 72) ∧ (0 : Int) ≤ 0 ∧ (0 : Int) ≤ 0 ∧ (0 : Int) ≤ 65535 ∧ (↑(0 : Nat) : Int) + ((0 : Int) - 0) ≤ 65535) ∧ bif decide (List.length ys + 1 ≤ room) && true then bif Nat.blt (μ [vi (U.i (IntKind.wrap .i64 (i.int + 1))), vi n, .ptr 2688 0, .ptr 640 0, .val (.sl false [.int .u8]) b0, .ptr 256 0] [.box [.val (.sl false [.int .u8]) b, vi a, .val .bool (U.b true)], .box [vi c, vi sz, .val .str bk, .val (.sl false [.sl true EC]) T, .own 8470538, .own 8470540, .own 8470542], .arr 41 xs, .arr 44 (ys ++ [U.l [U.s ⟨#[]⟩, U.b ((0 : Int) == 1), U.l []]]), .arr 3 zs, .box [vi (U.i 0), vi (U.i 0), .val .str (U.s ⟨#[]⟩), .own 264, .own 266, .own 268, .own 270]]) N then (rgIs (2688 : Nat) (0 : Nat) (640 : Nat) (0 : Nat) (256 : Nat) (0 : Nat) (8470538 : Nat) (8470540 : Nat) (8470542 : Nat) (264 : Nat) (266 : Nat) (268 : Nat) (270 : Nat) shT (44 : Nat) intT (U.i 0) (U.i 0) (U.s ⟨#[]⟩) ∧ EC = EC ∧ b.list.length ≤ (1099511627776 : Nat) ∧ byteOk b.list ∧ (0 : Int) ≤ a.int ∧ a.int ≤ (b.list.length : Int) ∧ a = U.i a.int ∧ U.b true = U.b true ∧ (0 : Int) ≤ IntKind.wrap .i64 (i.int + 1) ∧ IntKind.wrap .i64 (i.int + 1) ≤ n.int ∧ n.int ≤ 255 ∧ (↑(List.length (ys ++ [U.l [U.s ⟨#[]⟩, U.b ((0 : Int) == 1), U.l []]])) : Int) + (n.int - IntKind.wrap .i64 (i.int + 1)) ≤ 255) ∧ k (Ex.exit 2) (St.mk [(4, .ptr 2688 0), (5, .ptr 640 0), (0, .val (.sl false [.int .u8]) b0), (2, .ptr 256 0)] [(2688, .box [.val (.sl false [.int .u8]) b, vi a, .val .bool (U.b true)]), (640, .box [vi c, vi sz, .val .str bk, .val (.sl false [.sl true EC]) T, .own 8470538, .own 8470540, .own 8470542]), (8470538, .arr 41 xs), (8470540, .arr 44 (ys ++ [U.l [U.s ⟨#[]⟩, U.b ((0 : Int) == 1), U.l []]])), (8470542, .arr 3 zs), (256, .box [vi (U.i 0), vi (U.i 0), .val .str (U.s ⟨#[]⟩), .own 264, .own 266, .own 268, .own 270])]) else False else False else k (Ex.exit 2) (St.mk [(4, .ptr 2688 0), (5, .ptr 640 0), (0, .val (.sl false [.int .u8]) b0), (2, .ptr 256 0)] [(2688, .box [.val (.sl false [.int .u8]) b, vi a, .val .bool (U.b bad)]), (640, .box [vi c, vi sz, .val .str bk, .val (.sl false [.sl true EC]) T, .own 8470538, .own 8470540, .own 8470542]), (8470538, .arr 41 xs), (8470540, .arr 44 ys), (8470542, .arr 3 zs), (256, .box [vi (U.i 0), vi (U.i 0), .val .str (U.s ⟨#[]⟩), .own 264, .own 266, .own 268, .own 270])]) else k (Ex.exit 2) (St.mk [(4, .ptr 2688 0), (5, .ptr 640 0), (0, .val (.sl false [.int .u8]) b0), (2, .ptr 256 0)] [(2688, .box [.val (.sl false [.int .u8]) b, vi a, .val .bool (U.b bad)]), (640, .box [vi c, vi sz, .val .str bk, .val (.sl false [.sl true EC]) T, .own 8470538, .own 8470540, .own 8470542]), (8470538, .arr 41 xs), (8470540, .arr 44 ys), (8470542, .arr 3 zs), (256, .box [vi (U.i 0), vi (U.i 0), .val .str (U.s ⟨#[]⟩), .own 264, .own 266, .own 268, .own 270])])) := by kernel_rfl
theorem rg_round4 (pan : KP) (μ : Mu) (N : Nat) (k : KE) (j m i n nm on : U) (b0 b a c sz bk T : U) (bad : Bool) (xs ys zs : List U) (ws : List U) : (exec (rgC.panics pan) (loopBody Try.f19 2) 4 ⟨[(12, vi j), (11, vi m), (10, .ptr 1280 0), (9, vi i), (6, vi n), (4, .ptr 2688 0), (5, .ptr 640 0), (0, vl (.int .u8) b0), (2, .ptr 256 0)], rgO b a (.b bad) (rgV c sz bk T) xs ys zs ++ rgP nm on ws⟩ (again PR (some ([10, 9, 6, 4, 5, 0, 2], [2688, 640, 8470538, 8470540, 8470542, 256, 1280, 8552454])) none pan [12, 11, 10, 9, 6, 4, 5, 0, 2] [2688, 640, 8470538, 8470540, 8470542, 256, 1280, 8552454] rgLoop4 μ N k)) = (bif decide (j.int < m.int) then bif !bad then (rdIs 2097153 (0 : Nat) 2097153 b ∧ U.b bad = U.b bad ∧ (1 : Int) ≤ 2 ∧ (2 : Int) ≤ 4) ∧ bif !bad && thereR b.list a.int 2 then (rdIs 2097153 (0 : Nat) 2097153 b ∧ U.b false = U.b false ∧ (1 : Int) ≤ 2 ∧ (2 : Int) ≤ 4) ∧ bif thereR b.list (a.int + 2) 2 then bif decide (List.length ws + 1 ≤ room) && true then bif Nat.blt (μ [vi (U.i (IntKind.wrap .i64 (j.int + 1))), vi m, .ptr 1280 0, vi i, vi n, .ptr 2688 0, .ptr 640 0, .val (.sl false [.int .u8]) b0, .ptr 256 0] [.box [.val (.sl false [.int .u8]) b, vi (U.i (a.int + 2 + 2)), .val .bool (U.b false)], .box [vi c, vi sz, .val .str bk, .val (.sl false [.sl true EC]) T, .own 8470538, .own 8470540, .own 8470542], .arr 41 xs, .arr 44 ys, .arr 3 zs, .box [vi (U.i 0), vi (U.i 0), .val .str (U.s ⟨#[]⟩), .own 264, .own 266, .own 268, .own 270], .box [.val .str nm, .val .bool on, .own 8552454], .arr 72 (ws ++ [U.l [U.i (getN b.list a.int 2), U.i (getN b.list (a.int + 2) 2)]])]) N then (rgIs 2688 (0 : Nat) 640 (0 : Nat) 256 (0 : Nat) 8470538 8470540 8470542 264 266 268 270 41 44 3 (U.i 0) (U.i 0) (U.s ⟨#[]⟩) ∧ EC = EC ∧ b.list.length ≤ (1099511627776 : Nat) ∧ byteOk b.list ∧ (0 : Int) ≤ a.int + 2 + 2 ∧ a.int + 2 + (2 : Int) ≤ (b.list.length : Int) ∧ U.i (a.int + 2 + 2) = U.i (a.int + 2 + 2) ∧ U.b false = U.b false ∧ (1280 = nat_lit 1280 ∧ nat_lit 0 = nat_lit 0 ∧ nat_lit 8552454 = nat_lit 8552454 ∧ nat_lit 72 = nat_lit 72) ∧ (0 : Int) ≤ IntKind.wrap .i64 (j.int + 1) ∧ IntKind.wrap .i64 (j.int + 1) ≤ m.int ∧ m.int ≤ 65535 ∧ (↑(List.length (ws ++ [U.l [U.i (getN b.list a.int 2), U.i (getN b.list (a.int + 2) 2)]])) : Int) + (m.int - IntKind.wrap .i64 (j.int + 1)) ≤ 65535) ∧ k (Ex.exit 4) (St.mk [(10, .ptr 1280 0), (9, vi i), (6, vi n), (4, .ptr 2688 0), (5, .ptr 640 0), (0, .val (.sl false [.int .u8]) b0), (2, .ptr 256 0)] [(2688, .box [.val (.sl false [.int .u8]) b, vi (U.i (spXE b.list (Int.toNat (m.int - IntKind.wrap .i64 (j.int + 1))) (a.int + 2 + 2))), .val .bool (U.b !spK b.list (Int.toNat (m.int - IntKind.wrap .i64 (j.int + 1))) (a.int + 2 + 2))]), (640, .box [vi c, vi sz, .val .str bk, .val (.sl false [.sl true EC]) T, .own 8470538, .own 8470540, .own 8470542]), (8470538, .arr 41 xs), (8470540, .arr 44 ys), (8470542, .arr 3 zs), (256, .box [vi (U.i 0), vi (U.i 0), .val .str (U.s ⟨#[]⟩), .own 264, .own 266, .own 268, .own 270]), (1280, .box [.val .str nm, .val .bool on, .own 8552454]), (8552454, .arr 72 (ws ++ [U.l [U.i (getN b.list a.int 2), U.i (getN b.list (a.int + 2) 2)]] ++ spX b.list (Int.toNat (m.int - IntKind.wrap .i64 (j.int + 1))) (a.int + 2 + 2)))]) else False else False else bif decide (List.length ws + 1 ≤ room) && true then bif Nat.blt (μ [vi (U.i (IntKind.wrap .i64 (j.int + 1))), vi m, .ptr 1280 0, vi i, vi n, .ptr 2688 0, .ptr 640 0, .val (.sl false [.int .u8]) b0, .ptr 256 0] [.box [.val (.sl false [.int .u8]) b, vi (U.i (a.int + 2)), .val .bool (U.b true)], .box [vi c, vi sz, .val .str bk, .val (.sl false [.sl true EC]) T, .own 8470538, .own 8470540, .own 8470542], .arr 41 xs, .arr 44 ys, .arr 3 zs, .box [vi (U.i 0), vi (U.i 0), .val .str (U.s ⟨#[]⟩), .own 264, .own 266, .own 268, .own 270], .box [.val .str nm, .val .bool on, .own 8552454], .arr 72 (ws ++ [U.l [U.i (getN b.list a.int 2), U.i 0]])]) N then (rgIs 2688 (0 : Nat) 640 (0 : Nat) 256 (0 : Nat) 8470538 8470540 8470542 264 266 268 270 41 44 3 (U.i 0) (U.i 0) (U.s ⟨#[]⟩) ∧ EC = EC ∧ b.list.length ≤ (1099511627776 : Nat) ∧ byteOk b.list ∧ (0 : Int) ≤ a.int + 2 ∧ a.int + (2 : Int) ≤ (b.list.length : Int) ∧ U.i (a.int + 2) = U.i (a.int + 2) ∧ U.b true = U.b true ∧ (1280 = nat_lit 1280 ∧ nat_lit 0 = nat_lit 0 ∧ nat_lit 8552454 = nat_lit 8552454 ∧ nat_lit 72 = nat_lit 72) ∧ (0 : Int) ≤ IntKind.wrap .i64 (j.int + 1) ∧ IntKind.wrap .i64 (j.int + 1) ≤ m.int ∧ m.int ≤ 65535 ∧ (↑(List.length (ws ++ [U.l [U.i (getN b.list a.int 2), U.i 0]])) : Int) + (m.int - IntKind.wrap .i64 (j.int + 1)) ≤ 65535) ∧ k (Ex.exit 4) (St.mk [(10, .ptr 1280 0), (9, vi i), (6, vi n), (4, .ptr 2688 0), (5, .ptr 640 0), (0, .val (.sl false [.int .u8]) b0), (2, .ptr 256 0)] [(2688, .box [.val (.sl false [.int .u8]) b, vi (U.i (a.int + 2)), .val .bool (U.b true)]), (640, .box [vi c, vi sz, .val .str bk, .val (.sl false [.sl true EC]) T, .own 8470538, .own 8470540, .own 8470542]), (8470538, .arr 41 xs), (8470540, .arr 44 ys), (8470542, .arr 3 zs), (256, .box [vi (U.i 0), vi (U.i 0), .val .str (U.s ⟨#[]⟩), .own 264, .own 266, .own 268, .own 270]), (1280, .box [.val .str nm, .val .bool on, .own 8552454]), (8552454, .arr 72 (ws ++ [U.l [U.i (getN b.list a.int 2), U.i 0]]))]) else False else False else (rdIs 2097153 (0 : Nat) 2097153 b ∧ U.b true = U.b true ∧ (1 : Int) ≤ 2 ∧ (2 : Int) ≤ 4) ∧ bif decide (List.length ws + 1 ≤ room) && true then bif Nat.blt (μ [vi (U.i (IntKind.wrap .i64 (j.int + 1))), vi m, .ptr 1280 0, vi i, vi n, .ptr 2688 0, .ptr 640 0, .val (.sl false [.int .u8]) b0, .ptr 256 0] [.box [.val (.sl false [.int .u8]) b, vi a, .val .bool (U.b true)], .box [vi c, vi sz, .val .str bk, .val (.sl false [.sl true EC]) T, .own 8470538, .own 8470540, .own 8470542], .arr 41 xs, .arr 44 ys, .arr 3 zs, .box [vi (U.i 0), vi (U.i 0), .val .str (U.s ⟨#[]⟩), .own 264, .own 266, .own 268, .own 270], .box [.val .str nm, .val .bool on, .own 8552454], .arr 72 (ws ++ [U.l [U.i 0, U.i 0]])]) N then (rgIs 2688 (0 : Nat) 640 (0 : Nat) 256 (0 : Nat) 8470538 8470540 8470542 264 266 268 270 41 44 3 (U.i 0) (U.i 0) (U.s ⟨#[]⟩) ∧ EC = EC ∧ b.list.length ≤ (1099511627776 : Nat) ∧ byteOk b.list ∧ (0 : Int) ≤ a.int ∧ a.int ≤ (b.list.length : Int) ∧ a = U.i a.int ∧ U.b true = U.b true ∧ (1280 = nat_lit 1280 ∧ nat_lit 0 = nat_lit 0 ∧ nat_lit 8552454 = nat_lit 8552454 ∧ nat_lit 72 = nat_lit 72) ∧ (0 : Int) ≤ IntKind.wrap .i64 (j.int + 1) ∧ IntKind.wrap .i64 (j.int + 1) ≤ m.int ∧ m.int ≤ 65535 ∧ (↑(List.length (ws ++ [U.l [U.i 0, U.i 0]])) : Int) + (m.int - IntKind.wrap .i64 (j.int + 1)) ≤ 65535) ∧ k (Ex.exit 4) (St.mk [(10, .ptr 1280 0), (9, vi i), (6, vi n), (4, .ptr 2688 0), (5, .ptr 640 0), (0, .val (.sl false [.int .u8]) b0), (2, .ptr 256 0)] [(2688, .box [.val (.sl false [.int .u8]) b, vi a, .val .bool (U.b true)]), (640, .box [vi c, vi sz, .val .str bk, .val (.sl false [.sl true EC]) T, .own 8470538, .own 8470540, .own 8470542]), (8470538, .arr 41 xs), (8470540, .arr 44 ys), (8470542, .arr 3 zs), (256, .box [vi (U.i 0), vi (U.i 0), .val .str (U.s ⟨#[]⟩), .own 264, .own 266, .own 268, .own 270]), (1280, .box [.val .str nm, .val .bool on, .own 8552454]), (8552454, .arr 72 (ws ++ [U.l [U.i 0, U.i 0]]))]) else False else False else k (Ex.exit 4) (St.mk [(10, .ptr 1280 0), (9, vi i), (6, vi n), (4, .ptr 2688 0), (5, .ptr 640 0), (0, .val (.sl false [.int .u8]) b0), (2, .ptr 256 0)] [(2688, .box [.val (.sl false [.int .u8]) b, vi a, .val .bool (U.b bad)]), (640, .box [vi c, vi sz, .val .str bk, .val (.sl false [.sl true EC]) T, .own 8470538, .own 8470540, .own 8470542]), (8470538, .arr 41 xs), (8470540, .arr 44 ys), (8470542, .arr 3 zs), (256, .box [vi (U.i 0), vi (U.i 0), .val .str (U.s ⟨#[]⟩), .own 264, .own 266, .own 268, .own 270]), (1280, .box [.val .str nm, .val .bool on, .own 8552454]), (8552454, .arr 72 ws)]) else k (Ex.exit 4) (St.mk [(10, .ptr 1280 0), (9, vi i), (6, vi n), (4, .ptr 2688 0), (5, .ptr 640 0), (0, .val (.sl false [.int .u8]) b0), (2, .ptr 256 0)] [(2688, .box [.val (.sl false [.int .u8]) b, vi a, .val .bool (U.b bad)]), (640, .box [vi c, vi sz, .val .str bk, .val (.sl false [.sl true EC]) T, .own 8470538, .own 8470540, .own 8470542]), (8470538, .arr 41 xs), (8470540, .arr 44 ys), (8470542, .arr 3 zs), (256, .box [vi (U.i 0), vi (U.i 0), .val .str (U.s ⟨#[]⟩), .own 264, .own 266, .own 268, .own 270]), (1280, .box [.val .str nm, .val .bool on, .own 8552454]), (8552454, .arr 72 ws)])) := by kernel_rfl
theorem rg_round6 (pan : KP) (μ : Mu) (N : Nat) (k : KE) (n : U) (b0 b a c sz bk T : U) (bad : Bool) (xs ys zs : List U) : (exec (rgC.panics pan) (loopBody Try.f19 3) 6 ⟨[(6, vi n), (4, .ptr 2688 0), (5, .ptr 640 0), (0, vl (.int .u8) b0), (2, .ptr 256 0)], rgO b a (.b bad) (rgV c sz bk T) xs ys zs⟩ (again PR (some ([4, 5, 0, 2], [2688, 640, 8470538, 8470540, 8470542, 256])) none pan [6, 4, 5, 0, 2] [2688, 640, 8470538, 8470540, 8470542, 256] rgLoop6 μ N k)) = (bif decide ((zs.length : Int) < n.int) then bif !bad then (rdIs 2097153 (0 : Nat) 2097153 b ∧ U.b bad = U.b bad ∧ (1 : Int) ≤ 2 ∧ (2 : Int) ≤ 4) ∧ bif !bad && thereR b.list a.int 2 then (rdIs 2097153 (0 : Nat) 2097153 b ∧ U.b false = U.b false ∧ (1 : Int) ≤ 2 ∧ (2 : Int) ≤ 4) ∧ bif thereR b.list (a.int + 2) 2 then bif getN b.list a.int (2 : Int) == 0 then (rgIs 2688 (0 : Nat) 640 (0 : Nat) 256 (0 : Nat) 8470538 8470540 8470542 264 266 268 270 41 44 3 (U.i 0) (U.i 0) (U.s ⟨#[]⟩) ∧ EC = EC ∧ U.b true = U.b true ∧ (0 : Int) ≤ 0 ∧ (true = false → (0 : Int) ≤ getN b.list a.int 2 ∧ getN b.list a.int (2 : Int) ≤ 65535 ∧ (zs.length : Int) + (getN b.list a.int 2 - 0) ≤ 65536)) ∧ bif Nat.blt (μ [vi n, .ptr 2688 0, .ptr 640 0, .val (.sl false [.int .u8]) b0, .ptr 256 0] [.box [.val (.sl false [.int .u8]) b, vi (U.i (a.int + 2 + 2)), .val .bool (U.b true)], .box [vi c, vi sz, .val .str bk, .val (.sl false [.sl true EC]) T, .own 8470538, .own 8470540, .own 8470542], .arr 41 xs, .arr 44 ys, .arr 3 zs, .box [vi (U.i 0), vi (U.i 0), .val .str (U.s ⟨#[]⟩), .own 264, .own 266, .own 268, .own 270]]) N then (rgIs (2688 : Nat) (0 : Nat) (640 : Nat) (0 : Nat) (256 : Nat) (0 : Nat) (8470538 : Nat) (8470540 : Nat) (8470542 : Nat) (264 : Nat) (266 : Nat) (268 : Nat) (270 : Nat) shT bmT intT (U.i 0) (U.i 0) (U.s ⟨#[]⟩) ∧ EC = EC ∧ b.list.length ≤ (1099511627776 : Nat) ∧ byteOk b.list ∧ (0 : Int) ≤ a.int + 2 + 2 ∧ a.int + 2 + (2 : Int) ≤ (b.list.length : Int) ∧ U.i (a.int + 2 + 2) = U.i (a.int + 2 + 2) ∧ U.b true = U.b true ∧ (0 : Int) ≤ n.int ∧ n.int ≤ 4294967295 ∧ (zs.length : Int) ≤ n.int ∧ (zs.length : Int) ≤ 65536) ∧ k (Ex.exit 6) (St.mk [(4, .ptr 2688 0), (5, .ptr 640 0), (0, .val (.sl false [.int .u8]) b0), (2, .ptr 256 0)] [(2688, .box [.val (.sl false [.int .u8]) b, vi (U.i (a.int + 2 + 2)), .val .bool (U.b true)]), (640, .box [vi c, vi sz, .val .str bk, .val (.sl false [.sl true EC]) T, .own 8470538, .own 8470540, .own 8470542]), (8470538, .arr 41 xs), (8470540, .arr 44 ys), (8470542, .arr 3 zs), (256, .box [vi (U.i 0), vi (U.i 0), .val .str (U.s ⟨#[]⟩), .own 264, .own 266, .own 268, .own 270])]) else False else bif decide (getN b.list a.int (2 : Int) > IntKind.wrap .i64 (n.int - (zs.length : Int))) then (rgIs 2688 (0 : Nat) 640 (0 : Nat) 256 (0 : Nat) 8470538 8470540 8470542 264 266 268 270 41 44 3 (U.i 0) (U.i 0) (U.s ⟨#[]⟩) ∧ EC = EC ∧ U.b true = U.b true ∧ (0 : Int) ≤ 0 ∧ (true = false → (0 : Int) ≤ getN b.list a.int 2 ∧ getN b.list a.int (2 : Int) ≤ 65535 ∧ (zs.length : Int) + (getN b.list a.int 2 - 0) ≤ 65536)) ∧ bif Nat.blt (μ [vi n, .ptr 2688 0, .ptr 640 0, .val (.sl false [.int .u8]) b0, .ptr 256 0] [.box [.val (.sl false [.int .u8]) b, vi (U.i (a.int + 2 + 2)), .val .bool (U.b true)], .box [vi c, vi sz, .val .str bk, .val (.sl false [.sl true EC]) T, .own 8470538, .own 8470540, .own 8470542], .arr 41 xs, .arr 44 ys, .arr 3 zs, .box [vi (U.i 0), vi (U.i 0), .val .str (U.s ⟨#[]⟩), .own 264, .own 266, .own 268, .own 270]]) N then (rgIs (2688 : Nat) (0 : Nat) (640 : Nat) (0 : Nat) (256 : Nat) (0 : Nat) (8470538 : Nat) (8470540 : Nat) (8470542 : Nat) (264 : Nat) (266 : Nat) (268 : Nat) (270 : Nat) shT bmT intT (U.i 0) (U.i 0) (U.s ⟨#[]⟩) ∧ EC = EC ∧ b.list.length ≤ (1099511627776 : Nat) ∧ byteOk b.list ∧ (0 : Int) ≤ a.int + 2 + 2 ∧ a.int + 2 + (2 : Int) ≤ (b.list.length : Int) ∧ U.i (a.int + 2 + 2) = U.i (a.int + 2 + 2) ∧ U.b true = U.b true ∧ (0 : Int) ≤ n.int ∧ n.int ≤ 4294967295 ∧ (zs.length : Int) ≤ n.int ∧ (zs.length : Int) ≤ 65536) ∧ k (Ex.exit 6) (St.mk [(4, .ptr 2688 0), (5, .ptr 640 0), (0, .val (.sl false [.int .u8]) b0), (2, .ptr 256 0)] [(2688, .box [.val (.sl false [.int .u8]) b, vi (U.i (a.int + 2 + 2)), .val .bool (U.b true)]), (640, .box [vi c, vi sz, .val .str bk, .val (.sl false [.sl true EC]) T, .own 8470538, .own 8470540, .own 8470542]), (8470538, .arr 41 xs), (8470540, .arr 44 ys), (8470542, .arr 3 zs), (256, .box [vi (U.i 0), vi (U.i 0), .val .str (U.s ⟨#[]⟩), .own 264, .own 266, .own 268, .own 270])]) else False else bif decide (n.int > 65536) then (rgIs 2688 (0 : Nat) 640 (0 : Nat) 256 (0 : Nat) 8470538 8470540 8470542 264 266 268 270 41 44 3 (U.i 0) (U.i 0) (U.s ⟨#[]⟩) ∧ EC = EC ∧ U.b true = U.b true ∧ (0 : Int) ≤ 0 ∧ (true = false → (0 : Int) ≤ getN b.list a.int 2 ∧ getN b.list a.int (2 : Int) ≤ 65535 ∧ (zs.length : Int) + (getN b.list a.int 2 - 0) ≤ 65536)) ∧ bif Nat.blt (μ [vi n, .ptr 2688 0, .ptr 640 0, .val (.sl false [.int .u8]) b0, .ptr 256 0] [.box [.val (.sl false [.int .u8]) b, vi (U.i (a.int + 2 + 2)), .val .bool (U.b true)], .box [vi c, vi sz, .val .str bk, .val (.sl false [.sl true EC]) T, .own 8470538, .own 8470540, .own 8470542], .arr 41 xs, .arr 44 ys, .arr 3 zs, .box [vi (U.i 0), vi (U.i 0), .val .str (U.s ⟨#[]⟩), .own 264, .own 266, .own 268, .own 270]]) N then (rgIs (2688 : Nat) (0 : Nat) (640 : Nat) (0 : Nat) (256 : Nat) (0 : Nat) (8470538 : Nat) (8470540 : Nat) (8470542 : Nat) (264 : Nat) (266 : Nat) (268 : Nat) (270 : Nat) shT bmT intT (U.i 0) (U.i 0) (U.s ⟨#[]⟩) ∧ EC = EC ∧ b.list.length ≤ (1099511627776 : Nat) ∧ byteOk b.list ∧ (0 : Int) ≤ a.int + 2 + 2 ∧ a.int + 2 + (2 : Int) ≤ (b.list.length : Int) ∧ U.i (a.int + 2 + 2) = U.i (a.int + 2 + 2) ∧ U.b true = U.b true ∧ (0 : Int) ≤ n.int ∧ n.int ≤ 4294967295 ∧ (zs.length : Int) ≤ n.int ∧ (zs.length : Int) ≤ 65536) ∧ k (Ex.exit 6) (St.mk [(4, .ptr 2688 0), (5, .ptr 640 0), (0, .val (.sl false [.int .u8]) b0), (2, .ptr 256 0)] [(2688, .box [.val (.sl false [.int .u8]) b, vi (U.i (a.int + 2 + 2)), .val .bool (U.b true)]), (640, .box [vi c, vi sz, .val .str bk, .val (.sl false [.sl true EC]) T, .own 8470538, .own 8470540, .own 8470542]), (8470538, .arr 41 xs), (8470540, .arr 44 ys), (8470542, .arr 3 zs), (256, .box [vi (U.i 0), vi (U.i 0), .val .str (U.s ⟨#[]⟩), .own 264, .own 266, .own 268, .own 270])]) else False else (rgIs 2688 (0 : Nat) 640 (0 : Nat) 256 (0 : Nat) 8470538 8470540 8470542 264 266 268 270 41 44 3 (U.i 0) (U.i 0) (U.s ⟨#[]⟩) ∧ EC = EC ∧ U.b false = U.b false ∧ (0 : Int) ≤ 0 ∧ (false = false → (0 : Int) ≤ getN b.list a.int 2 ∧ getN b.list a.int (2 : Int) ≤ 65535 ∧ (zs.length : Int) + (getN b.list a.int 2 - 0) ≤ 65536)) ∧ bif Nat.blt (μ [vi n, .ptr 2688 0, .ptr 640 0, .val (.sl false [.int .u8]) b0, .ptr 256 0] [.box [.val (.sl false [.int .u8]) b, vi (U.i (a.int + 2 + 2)), .val .bool (U.b false)], .box [vi c, vi sz, .val .str bk, .val (.sl false [.sl true EC]) T, .own 8470538, .own 8470540, .own 8470542], .arr 41 xs, .arr 44 ys, .arr 3 (zs ++ List.replicate (Int.toNat (getN b.list a.int 2 - 0)) (U.i (getN b.list (a.int + 2) 2))), .box [vi (U.i 0), vi (U.i 0), .val .str (U.s ⟨#[]⟩), .own 264, .own 266, .own 268, .own 270]]) N then (rgIs (2688 : Nat) (0 : Nat) (640 : Nat) (0 : Nat) (256 : Nat) (0 : Nat) (8470538 : Nat) (8470540 : Nat) (8470542 : Nat) (264 : Nat) (266 : Nat) (268 : Nat) (270 : Nat) shT bmT intT (U.i 0) (U.i 0) (U.s ⟨#[]⟩) ∧ EC = EC ∧ b.list.length ≤ (1099511627776 : Nat) ∧ byteOk b.list ∧ (0 : Int) ≤ a.int + 2 + 2 ∧ a.int + 2 + (2 : Int) ≤ (b.list.length : Int) ∧ U.i (a.int + 2 + 2) = U.i (a.int + 2 + 2) ∧ U.b false = U.b false ∧ (0 : Int) ≤ n.int ∧ n.int ≤ 4294967295 ∧ (↑(List.length (zs ++ List.replicate (Int.toNat (getN b.list a.int 2 - 0)) (U.i (getN b.list (a.int + 2) 2)))) : Int) ≤ n.int ∧ (↑(List.length (zs ++ List.replicate (Int.toNat (getN b.list a.int 2 - 0)) (U.i (getN b.list (a.int + 2) 2)))) : Int) ≤ 65536) ∧ k (Ex.exit 6) (St.mk [(4, .ptr 2688 0), (5, .ptr 640 0), (0, .val (.sl false [.int .u8]) b0), (2, .ptr 256 0)] [(2688, .box [.val (.sl false [.int .u8]) b, vi (U.i (rcXE b.list n.int (n.int - (↑(List.length (zs ++ List.replicate (Int.toNat (getN b.list a.int 2 - 0)) (U.i (getN b.list (a.int + 2) 2)))) : Int)) (a.int + 2 + 2))), .val .bool (U.b !rcXK b.list n.int (n.int - (↑(List.length (zs ++ List.replicate (Int.toNat (getN b.list a.int 2 - 0)) (U.i (getN b.list (a.int + 2) 2)))) : Int)) (a.int + 2 + 2))]), (640, .box [vi c, vi sz, .val .str bk, .val (.sl false [.sl true EC]) T, .own 8470538, .own 8470540, .own 8470542]), (8470538, .arr 41 xs), (8470540, .arr 44 ys), (8470542, .arr 3 (zs ++ List.replicate (Int.toNat (getN b.list a.int 2 - 0)) (U.i (getN b.list (a.int + 2) 2)) ++ rcX b.list n.int (n.int - (↑(List.length (zs ++ List.replicate (Int.toNat (getN b.list a.int 2 - 0)) (U.i (getN b.list (a.int + 2) 2)))) : Int)) (a.int + 2 + 2))), (256, .box [vi (U.i 0), vi (U.i 0), .val .str (U.s ⟨#[]⟩), .own 264, .own 266, .own 268, .own 270])]) else False else bif getN b.list a.int (2 : Int) == 0 then (rgIs 2688 (0 : Nat) 640 (0 : Nat) 256 (0 : Nat) 8470538 8470540 8470542 264 266 268 270 41 44 3 (U.i 0) (U.i 0) (U.s ⟨#[]⟩) ∧ EC = EC ∧ U.b true = U.b true ∧ (0 : Int) ≤ 0 ∧ (true = false → (0 : Int) ≤ getN b.list a.int 2 ∧ getN b.list a.int (2 : Int) ≤ 65535 ∧ (zs.length : Int) + (getN b.list a.int 2 - 0) ≤ 65536)) ∧ bif Nat.blt (μ [vi n, .ptr 2688 0, .ptr 640 0, .val (.sl false [.int .u8]) b0, .ptr 256 0] [.box [.val (.sl false [.int .u8]) b, vi (U.i (a.int + 2)), .val .bool (U.b true)], .box [vi c, vi sz, .val .str bk, .val (.sl false [.sl true EC]) T, .own 8470538, .own 8470540, .own 8470542], .arr 41 xs, .arr 44 ys, .arr 3 zs, .box [vi (U.i 0), vi (U.i 0), .val .str (U.s ⟨#[]⟩), .own 264, .own 266, .own 268, .own 270]]) N then (rgIs (2688 : Nat) (0 : Nat) (640 : Nat) (0 : Nat) (256 : Nat) (0 : Nat) (8470538 : Nat) (8470540 : Nat) (8470542 : Nat) (264 : Nat) (266 : Nat) (268 : Nat) (270 : Nat) shT bmT intT (U.i 0) (U.i 0) (U.s ⟨#[]⟩) ∧ EC = EC ∧ b.list.length ≤ (1099511627776 : Nat) ∧ byteOk b.list ∧ (0 : Int) ≤ a.int + 2 ∧ a.int + (2 : Int) ≤ (b.list.length : Int) ∧ U.i (a.int + 2) = U.i (a.int + 2) ∧ U.b true = U.b true ∧ (0 : Int) ≤ n.int ∧ n.int ≤ 4294967295 ∧ (zs.length : Int) ≤ n.int ∧ (zs.length : Int) ≤ 65536) ∧ k (Ex.exit 6) (St.mk [(4, .ptr 2688 0), (5, .ptr 640 0), (0, .val (.sl false [.int .u8]) b0), (2, .ptr 256 0)] [(2688, .box [.val (.sl false [.int .u8]) b, vi (U.i (a.int + 2)), .val .bool (U.b true)]), (640, .box [vi c, vi sz, .val .str bk, .val (.sl false [.sl true EC]) T, .own 8470538, .own 8470540, .own 8470542]), (8470538, .arr 41 xs), (8470540, .arr 44 ys), (8470542, .arr 3 zs), (256, .box [vi (U.i 0), vi (U.i 0), .val .str (U.s ⟨#[]⟩), .own 264, .own 266, .own 268, .own 270])]) else False else bif decide (getN b.list a.int (2 : Int) > IntKind.wrap .i64 (n.int - (zs.length : Int))) then (rgIs 2688 (0 : Nat) 640 (0 : Nat) 256 (0 : Nat) 8470538 8470540 8470542 264 266 268 270 41 44 3 (U.i 0) (U.i 0) (U.s ⟨#[]⟩) ∧ EC = EC ∧ U.b true = U.b true ∧ (0 : Int) ≤ 0 ∧ (true = false → (0 : Int) ≤ getN b.list a.int 2 ∧ getN b.list a.int (2 : Int) ≤ 65535 ∧ (zs.length : Int) + (getN b.list a.int 2 - 0) ≤ 65536)) ∧ bif Nat.blt (μ [vi n, .ptr 2688 0, .ptr 640 0, .val (.sl false [.int .u8]) b0, .ptr 256 0] [.box [.val (.sl false [.int .u8]) b, vi (U.i (a.int + 2)), .val .bool (U.b true)], .box [vi c, vi sz, .val .str bk, .val (.sl false [.sl true EC]) T, .own 8470538, .own 8470540, .own 8470542], .arr 41 xs, .arr 44 ys, .arr 3 zs, .box [vi (U.i 0), vi (U.i 0), .val .str (U.s ⟨#[]⟩), .own 264, .own 266, .own 268, .own 270]]) N then (rgIs (2688 : Nat) (0 : Nat) (640 : Nat) (0 : Nat) (256 : Nat) (0 : Nat) (8470538 : Nat) (8470540 : Nat) (8470542 : Nat) (264 : Nat) (266 : Nat) (268 : Nat) (270 : Nat) shT bmT intT (U.i 0) (U.i 0) (U.s ⟨#[]⟩) ∧ EC = EC ∧ b.list.length ≤ (1099511627776 : Nat) ∧ byteOk b.list ∧ (0 : Int) ≤ a.int + 2 ∧ a.int + (2 : Int) ≤ (b.list.length : Int) ∧ U.i (a.int + 2) = U.i (a.int + 2) ∧ U.b true = U.b true ∧ (0 : Int) ≤ n.int ∧ n.int ≤ 4294967295 ∧ (zs.length : Int) ≤ n.int ∧ (zs.length : Int) ≤ 65536) ∧ k (Ex.exit 6) (St.mk [(4, .ptr 2688 0), (5, .ptr 640 0), (0, .val (.sl false [.int .u8]) b0), (2, .ptr 256 0)] [(2688, .box [.val (.sl false [.int .u8]) b, vi (U.i (a.int + 2)), .val .bool (U.b true)]), (640, .box [vi c, vi sz, .val .str bk, .val (.sl false [.sl true EC]) T, .own 8470538, .own 8470540, .own 8470542]), (8470538, .arr 41 xs), (8470540, .arr 44 ys), (8470542, .arr 3 zs), (256, .box [vi (U.i 0), vi (U.i 0), .val .str (U.s ⟨#[]⟩), .own 264, .own 266, .own 268, .own 270])]) else False else bif decide (n.int > 65536) then (rgIs 2688 (0 : Nat) 640 (0 : Nat) 256 (0 : Nat) 8470538 8470540 8470542 264 266 268 270 41 44 3 (U.i 0) (U.i 0) (U.s ⟨#[]⟩) ∧ EC = EC ∧ U.b true = U.b true ∧ (0 : Int) ≤ 0 ∧ (true = false → (0 : Int) ≤ getN b.list a.int 2 ∧ getN b.list a.int (2 : Int) ≤ 65535 ∧ (zs.length : Int) + (getN b.list a.int 2 - 0) ≤ 65536)) ∧ bif Nat.blt (μ [vi n, .ptr 2688 0, .ptr 640 0, .val (.sl false [.int .u8]) b0, .ptr 256 0] [.box [.val (.sl false [.int .u8]) b, vi (U.i (a.int + 2)), .val .bool (U.b true)], .box [vi c, vi sz, .val .str bk, .val (.sl false [.sl true EC]) T, .own 8470538, .own 8470540, .own 8470542], .arr 41 xs, .arr 44 ys, .arr 3 zs, .box [vi (U.i 0), vi (U.i 0), .val .str (U.s ⟨#[]⟩), .own 264, .own 266, .own 268, .own 270]]) N then (rgIs (2688 : Nat) (0 : Nat) (640 : Nat) (0 : Nat) (256 : Nat) (0 : Nat) (8470538 : Nat) (8470540 : Nat) (8470542 : Nat) (264 : Nat) (266 : Nat) (268 : Nat) (270 : Nat) shT bmT intT (U.i 0) (U.i 0) (U.s ⟨#[]⟩) ∧ EC = EC ∧ b.list.length ≤ (1099511627776 : Nat) ∧ byteOk b.list ∧ (0 : Int) ≤ a.int + 2 ∧ a.int + (2 : Int) ≤ (b.list.length : Int) ∧ U.i (a.int + 2) = U.i (a.int + 2) ∧ U.b true = U.b true ∧ (0 : Int) ≤ n.int ∧ n.int ≤ 4294967295 ∧ (zs.length : Int) ≤ n.int ∧ (zs.length : Int) ≤ 65536) ∧ k (Ex.exit 6) (St.mk [(4, .ptr 2688 0), (5, .ptr 640 0), (0, .val (.sl false [.int .u8]) b0), (2, .ptr 256 0)] [(2688, .box [.val (.sl false [.int .u8]) b, vi (U.i (a.int + 2)), .val .bool (U.b true)]), (640, .box [vi c, vi sz, .val .str bk, .val (.sl false [.sl true EC]) T, .own 8470538, .own 8470540, .own 8470542]), (8470538, .arr 41 xs), (8470540, .arr 44 ys), (8470542, .arr 3 zs), (256, .box [vi (U.i 0), vi (U.i 0), .val .str (U.s ⟨#[]⟩), .own 264, .own 266, .own 268, .own 270])]) else False else (rgIs 2688 (0 : Nat) 640 (0 : Nat) 256 (0 : Nat) 8470538 8470540 8470542 264 266 268 270 41 44 3 (U.i 0) (U.i 0) (U.s ⟨#[]⟩) ∧ EC = EC ∧ U.b true = U.b true ∧ (0 : Int) ≤ 0 ∧ (true = false → (0 : Int) ≤ getN b.list a.int 2 ∧ getN b.list a.int (2 : Int) ≤ 65535 ∧ (zs.length : Int) + (getN b.list a.int 2 - 0) ≤ 65536)) ∧ bif Nat.blt (μ [vi n, .ptr 2688 0, .ptr 640 0, .val (.sl false [.int .u8]) b0, .ptr 256 0] [.box [.val (.sl false [.int .u8]) b, vi (U.i (a.int + 2)), .val .bool (U.b true)], .box [vi c, vi sz, .val .str bk, .val (.sl false [.sl true EC]) T, .own 8470538, .own 8470540, .own 8470542], .arr 41 xs, .arr 44 ys, .arr 3 zs, .box [vi (U.i 0), vi (U.i 0), .val .str (U.s ⟨#[]⟩), .own 264, .own 266, .own 268, .own 270]]) N then (rgIs (2688 : Nat) (0 : Nat) (640 : Nat) (0 : Nat) (256 : Nat) (0 : Nat) (8470538 : Nat) (8470540 : Nat) (8470542 : Nat) (264 : Nat) (266 : Nat) (268 : Nat) (270 : Nat) shT bmT intT (U.i 0) (U.i 0) (U.s ⟨#[]⟩) ∧ EC = EC ∧ b.list.length ≤ (1099511627776 : Nat) ∧ byteOk b.list ∧ (0 : Int) ≤ a.int + 2 ∧ a.int + (2 : Int) ≤ (b.list.length : Int) ∧ U.i (a.int + 2) = U.i (a.int + 2) ∧ U.b true = U.b true ∧ (0 : Int) ≤ n.int ∧ n.int ≤ 4294967295 ∧ (zs.length : Int) ≤ n.int ∧ (zs.length : Int) ≤ 65536) ∧ k (Ex.exit 6) (St.mk [(4, .ptr 2688 0), (5, .ptr 640 0), (0, .val (.sl false [.int .u8]) b0), (2, .ptr 256 0)] [(2688, .box [.val (.sl false [.int .u8]) b, vi (U.i (a.int + 2)), .val .bool (U.b true)]), (640, .box [vi c, vi sz, .val .str bk, .val (.sl false [.sl true EC]) T, .own 8470538, .own 8470540, .own 8470542]), (8470538, .arr 41 xs), (8470540, .arr 44 ys), (8470542, .arr 3 zs), (256, .box [vi (U.i 0), vi (U.i 0), .val .str (U.s ⟨#[]⟩), .own 264, .own 266, .own 268, .own 270])]) else False else (rdIs 2097153 (0 : Nat) 2097153 b ∧ U.b true = U.b true ∧ (1 : Int) ≤ 2 ∧ (2 : Int) ≤ 4) ∧ (rgIs 2688 (0 : Nat) 640 (0 : Nat) 256 (0 : Nat) 8470538 8470540 8470542 264 266 268 270 41 44 3 (U.i 0) (U.i 0) (U.s ⟨#[]⟩) ∧ EC = EC ∧ U.b true = U.b true ∧ (0 : Int) ≤ 0 ∧ (true = false → (0 : Int) ≤ 0 ∧ (0 : Int) ≤ 65535 ∧ (zs.length : Int) + ((0 : Int) - 0) ≤ 65536)) ∧ bif Nat.blt (μ [vi n, .ptr 2688 0, .ptr 640 0, .val (.sl false [.int .u8]) b0, .ptr 256 0] [.box [.val (.sl false [.int .u8]) b, vi a, .val .bool (U.b true)], .box [vi c, vi sz, .val .str bk, .val (.sl false [.sl true EC]) T, .own 8470538, .own 8470540, .own 8470542], .arr 41 xs, .arr 44 ys, .arr 3 zs, .box [vi (U.i 0), vi (U.i 0), .val .str (U.s ⟨#[]⟩), .own 264, .own 266, .own 268, .own 270]]) N then (rgIs (2688 : Nat) (0 : Nat) (640 : Nat) (0 : Nat) (256 : Nat) (0 : Nat) (8470538 : Nat) (8470540 : Nat) (8470542 : Nat) (264 : Nat) (266 : Nat) (268 : Nat) (270 : Nat) shT bmT intT (U.i 0) (U.i 0) (U.s ⟨#[]⟩) ∧ EC = EC ∧ b.list.length ≤ (1099511627776 : Nat) ∧ byteOk b.list ∧ (0 : Int) ≤ a.int ∧ a.int ≤ (b.list.length : Int) ∧ a = U.i a.int ∧ U.b true = U.b true ∧ (0 : Int) ≤ n.int ∧ n.int ≤ 4294967295 ∧ (zs.length : Int) ≤ n.int ∧ (zs.length : Int) ≤ 65536) ∧ k (Ex.exit 6) (St.mk [(4, .ptr 2688 0), (5, .ptr 640 0), (0, .val (.sl false [.int .u8]) b0), (2, .ptr 256 0)] [(2688, .box [.val (.sl false [.int .u8]) b, vi a, .val .bool (U.b true)]), (640, .box [vi c, vi sz, .val .str bk, .val (.sl false [.sl true EC]) T, .own 8470538, .own 8470540, .own 8470542]), (8470538, .arr 41 xs), (8470540, .arr 44 ys), (8470542, .arr 3 zs), (256, .box [vi (U.i 0), vi (U.i 0), .val .str (U.s ⟨#[]⟩), .own 264, .own 266, .own 268, .own 270])]) else False else k (Ex.exit 6) (St.mk [(4, .ptr 2688 0), (5, .ptr 640 0), (0, .val (.sl false [.int .u8]) b0), (2, .ptr 256 0)] [(2688, .box [.val (.sl false [.int .u8]) b, vi a, .val .bool (U.b bad)]), (640, .box [vi c, vi sz, .val .str bk, .val (.sl false [.sl true EC]) T, .own 8470538, .own 8470540, .own 8470542]), (8470538, .arr 41 xs), (8470540, .arr 44 ys), (8470542, .arr 3 zs), (256, .box [vi (U.i 0), vi (U.i 0), .val .str (U.s ⟨#[]⟩), .own 264, .own 266, .own 268, .own 270])]) else k (Ex.exit 6) (St.mk [(4, .ptr 2688 0), (5, .ptr 640 0), (0, .val (.sl false [.int .u8]) b0), (2, .ptr 256 0)] [(2688, .box [.val (.sl false [.int .u8]) b, vi a, .val .bool (U.b bad)]), (640, .box [vi c, vi sz, .val .str bk, .val (.sl false [.sl true EC]) T, .own 8470538, .own 8470540, .own 8470542]), (8470538, .arr 41 xs), (8470540, .arr 44 ys), (8470542, .arr 3 zs), (256, .box [vi (U.i 0), vi (U.i 0), .val .str (U.s ⟨#[]⟩), .own 264, .own 266, .own 268, .own 270])])) := by kernel_rfl
theorem rg_round8 (pan : KP) (μ : Mu) (N : Nat) (k : KE) (j m v n : U) (b0 b a c sz bk T : U) (bad : Bool) (xs ys zs : List U) : (exec (rgC.panics pan) (loopBody Try.f19 4) 8 ⟨[(16, vi j), (14, vi m), (15, vi v), (6, vi n), (4, .ptr 2688 0), (5, .ptr 640 0), (0, vl (.int .u8) b0), (2, .ptr 256 0)], rgO b a (.b bad) (rgV c sz bk T) xs ys zs⟩ (again PR (some ([6, 4, 5, 0, 2], [2688, 640, 8470538, 8470540, 8470542, 256])) none pan [16, 14, 15, 6, 4, 5, 0, 2] [2688, 640, 8470538, 8470540, 8470542, 256] rgLoop8 μ N k)) = (bif decide (j.int < m.int) then bif !bad then bif decide (List.length zs + 1 ≤ room) && true then bif Nat.blt (μ [vi (U.i (IntKind.wrap .i64 (j.int + 1))), vi m, vi v, vi n, .ptr 2688 0, .ptr 640 0, .val (.sl false [.int .u8]) b0, .ptr 256 0] [.box [.val (.sl false [.int .u8]) b, vi a, .val .bool (U.b bad)], .box [vi c, vi sz, .val .str bk, .val (.sl false [.sl true EC]) T, .own 8470538, .own 8470540, .own 8470542], .arr 41 xs, .arr 44 ys, .arr 3 (zs ++ [v]), .box [vi (U.i 0), vi (U.i 0), .val .str (U.s ⟨#[]⟩), .own 264, .own 266, .own 268, .own 270]]) N then (rgIs (2688 : Nat) (0 : Nat) (640 : Nat) (0 : Nat) (256 : Nat) (0 : Nat) (8470538 : Nat) (8470540 : Nat) (8470542 : Nat) (264 : Nat) (266 : Nat) (268 : Nat) (270 : Nat) shT bmT (3 : Nat) (U.i 0) (U.i 0) (U.s ⟨#[]⟩) ∧ EC = EC ∧ U.b bad = U.b bad ∧ (0 : Int) ≤ IntKind.wrap .i64 (j.int + 1) ∧ (bad = false → IntKind.wrap .i64 (j.int + 1) ≤ m.int ∧ m.int ≤ 65535 ∧ (↑(List.length (zs ++ [v])) : Int) + (m.int - IntKind.wrap .i64 (j.int + 1)) ≤ 65536)) ∧ bif bad then k (Ex.exit 8) (St.mk [(6, vi n), (4, .ptr 2688 0), (5, .ptr 640 0), (0, .val (.sl false [.int .u8]) b0), (2, .ptr 256 0)] [(2688, .box [.val (.sl false [.int .u8]) b, vi a, .val .bool (U.b bad)]), (640, .box [vi c, vi sz, .val .str bk, .val (.sl false [.sl true EC]) T, .own 8470538, .own 8470540, .own 8470542]), (8470538, .arr 41 xs), (8470540, .arr 44 ys), (8470542, .arr 3 (zs ++ [v])), (256, .box [vi (U.i 0), vi (U.i 0), .val .str (U.s ⟨#[]⟩), .own 264, .own 266, .own 268, .own 270])]) else k (Ex.exit 8) (St.mk [(6, vi n), (4, .ptr 2688 0), (5, .ptr 640 0), (0, .val (.sl false [.int .u8]) b0), (2, .ptr 256 0)] [(2688, .box [.val (.sl false [.int .u8]) b, vi a, .val .bool (U.b bad)]), (640, .box [vi c, vi sz, .val .str bk, .val (.sl false [.sl true EC]) T, .own 8470538, .own 8470540, .own 8470542]), (8470538, .arr 41 xs), (8470540, .arr 44 ys), (8470542, .arr 3 (zs ++ [v] ++ List.replicate (Int.toNat (m.int - IntKind.wrap .i64 (j.int + 1))) v)), (256, .box [vi (U.i 0), vi (U.i 0), .val .str (U.s ⟨#[]⟩), .own 264, .own 266, .own 268, .own 270])]) else False else False else k (Ex.exit 8) (St.mk [(6, vi n), (4, .ptr 2688 0), (5, .ptr 640 0), (0, .val (.sl false [.int .u8]) b0), (2, .ptr 256 0)] [(2688, .box [.val (.sl false [.int .u8]) b, vi a, .val .bool (U.b bad)]), (640, .box [vi c, vi sz, .val .str bk, .val (.sl false [.sl true EC]) T, .own 8470538, .own 8470540, .own 8470542]), (8470538, .arr 41 xs), (8470540, .arr 44 ys), (8470542, .arr 3 zs), (256, .box [vi (U.i 0), vi (U.i 0), .val .str (U.s ⟨#[]⟩), .own 264, .own 266, .own 268, .own 270])]) else k (Ex.exit 8) (St.mk [(6, vi n), (4, .ptr 2688 0), (5, .ptr 640 0), (0, .val (.sl false [.int .u8]) b0), (2, .ptr 256 0)] [(2688, .box [.val (.sl false [.int .u8]) b, vi a, .val .bool (U.b bad)]), (640, .box [vi c, vi sz, .val .str bk, .val (.sl false [.sl true EC]) T, .own 8470538, .own 8470540, .own 8470542]), (8470538, .arr 41 xs), (8470540, .arr 44 ys), (8470542, .arr 3 zs), (256, .box [vi (U.i 0), vi (U.i 0), .val .str (U.s ⟨#[]⟩), .own 264, .own 266, .own 268, .own 270])])) := by kernel_rfl
theorem rg_tree (R : RF) (b : U) : (run rgC Try.f19 [[b]] R) = ((rdIs 2097153 (0 : Nat) 2097153 b ∧ U.b false = U.b false ∧ (1 : Int) ≤ 1 ∧ (1 : Int) ≤ 4) ∧ bif thereR b.list 0 1 then (rdIs 2097153 (0 : Nat) 2097153 b ∧ U.b false = U.b false ∧ (1 : Int) ≤ 2 ∧ (2 : Int) ≤ 4) ∧ bif thereR b.list (0 + 1) 2 then (rdIs 2097153 (0 : Nat) 2097153 b ∧ U.b false = U.b false) ∧ bif readR b.list (0 + 1 + 2) then (rdIs 2097153 (0 : Nat) 2097153 b ∧ U.b false = U.b false) ∧ bif tgR b.list (pm1 b.list 0) (getN b.list (0 + 1) 2 / 2 ^ Int.toNat (getN b.list 0 1)) (getN b.list 0 1) then (rdIs 2097153 (0 : Nat) 2097153 b ∧ U.b false = U.b false ∧ (1 : Int) ≤ 1 ∧ (1 : Int) ≤ 4) ∧ bif thereR b.list (pm2 b.list 0) 1 then (rgIs 2688 (0 : Nat) 640 (0 : Nat) 256 (0 : Nat) 8470538 8470540 8470542 264 266 268 270 41 44 3 (U.i 0) (U.i 0) (U.s ⟨#[]⟩) ∧ EC = EC ∧ b.list.length ≤ (1099511627776 : Nat) ∧ byteOk b.list ∧ (0 : Int) ≤ pm2 b.list 0 + 1 ∧ pm2 b.list 0 + (1 : Int) ≤ (b.list.length : Int) ∧ U.i (pm2 b.list 0 + 1) = U.i (pm2 b.list 0 + 1) ∧ U.b false = U.b false ∧ (0 : Int) ≤ 0 ∧ (0 : Int) ≤ getN b.list (pm2 b.list 0) 1 ∧ getN b.list (pm2 b.list 0) (1 : Int) ≤ 255 ∧ (0 : Int) ≤ getN b.list 0 1 ∧ (↑(0 : Nat) : Int) + (getN b.list (pm2 b.list 0) 1 - 0) ≤ 255) ∧ (rdIs 2097153 (0 : Nat) 2097153 b ∧ (U.b !pxK1 b.list) = U.b !pxK1 b.list ∧ (1 : Int) ≤ 1 ∧ (1 : Int) ≤ 4) ∧ bif !!pxK1 b.list && thereR b.list (px3 b.list) 1 then (rgIs 2688 (0 : Nat) 640 (0 : Nat) 256 (0 : Nat) 8470538 8470540 8470542 264 266 268 270 41 44 3 (U.i 0) (U.i 0) (U.s ⟨#[]⟩) ∧ EC = EC ∧ b.list.length ≤ (1099511627776 : Nat) ∧ byteOk b.list ∧ (0 : Int) ≤ px3 b.list + 1 ∧ px3 b.list + (1 : Int) ≤ (b.list.length : Int) ∧ U.i (px3 b.list + 1) = U.i (px3 b.list + 1) ∧ U.b false = U.b false ∧ (0 : Int) ≤ 0 ∧ (0 : Int) ≤ getN b.list (px3 b.list) 1 ∧ getN b.list (px3 b.list) (1 : Int) ≤ 255 ∧ (↑(0 : Nat) : Int) + (getN b.list (px3 b.list) 1 - 0) ≤ 255) ∧ (rdIs 2097153 (0 : Nat) 2097153 b ∧ (U.b !pxK2 b.list) = U.b !pxK2 b.list ∧ (1 : Int) ≤ 4 ∧ (4 : Int) ≤ 4) ∧ bif !!pxK2 b.list && thereR b.list (px4 b.list) 4 then (rgIs 2688 (0 : Nat) 640 (0 : Nat) 256 (0 : Nat) 8470538 8470540 8470542 264 266 268 270 41 44 3 (U.i 0) (U.i 0) (U.s ⟨#[]⟩) ∧ EC = EC ∧ b.list.length ≤ (1099511627776 : Nat) ∧ byteOk b.list ∧ (0 : Int) ≤ px4 b.list + 4 ∧ px4 b.list + (4 : Int) ≤ (b.list.length : Int) ∧ U.i (px4 b.list + 4) = U.i (px4 b.list + 4) ∧ U.b false = U.b false ∧ (0 : Int) ≤ getN b.list (px4 b.list) 4 ∧ getN b.list (px4 b.list) (4 : Int) ≤ 4294967295 ∧ (↑(0 : Nat) : Int) ≤ getN b.list (px4 b.list) 4 ∧ (↑(0 : Nat) : Int) ≤ 65536) ∧ mputP [[U.i (getN b.list 0 1), U.i (getN b.list (0 + 1) 2), U.s (readV b.list (0 + 1 + 2)), U.l (tgL b.list (pm1 b.list 0)), U.l ([] ++ pxS b.list), U.l ([] ++ pxM b.list), U.l ([] ++ pxQ b.list)]] ∧ bif !pxK3 b.list then R [[U.i 0, U.i 0, U.s ⟨#[]⟩, U.l [], U.l [], U.l [], U.l []], [U.i 3]] else bif metaE (U.i (getN b.list 0 1)) (U.i (getN b.list (0 + 1) 2)) (U.s (readV b.list (0 + 1 + 2))) (U.l (tgL b.list (pm1 b.list 0))) (U.l ([] ++ pxS b.list)) (U.l ([] ++ pxM b.list)) (U.l ([] ++ pxQ b.list)) != 0 then R [[U.i 0, U.i 0, U.s ⟨#[]⟩, U.l [], U.l [], U.l [], U.l []], [U.i 3]] else bif !ByteArray.toList (ByteArray.mk (List.toArray (List.map (fun x => UInt8.ofNat (Int.toNat x.int)) (metaX (U.i (getN b.list 0 1)) (U.i (getN b.list (0 + 1) 2)) (U.s (readV b.list (0 + 1 + 2))) (U.l (tgL b.list (pm1 b.list 0))) (U.l ([] ++ pxS b.list)) (U.l ([] ++ pxM b.list)) (U.l ([] ++ pxQ b.list)))))) == ByteArray.toList (ByteArray.mk (List.toArray (List.map (fun x => UInt8.ofNat (Int.toNat x.int)) b.list))) then R [[U.i 0, U.i 0, U.s ⟨#[]⟩, U.l [], U.l [], U.l [], U.l []], [U.i 3]] else R [[U.i (getN b.list 0 1), U.i (getN b.list (0 + 1) 2), U.s (readV b.list (0 + 1 + 2)), U.l (tgL b.list (pm1 b.list 0)), U.l ([] ++ pxS b.list), U.l ([] ++ pxM b.list), U.l ([] ++ pxQ b.list)], [U.i 0]] else (rgIs 2688 (0 : Nat) 640 (0 : Nat) 256 (0 : Nat) 8470538 8470540 8470542 264 266 268 270 41 44 3 (U.i 0) (U.i 0) (U.s ⟨#[]⟩) ∧ EC = EC ∧ b.list.length ≤ (1099511627776 : Nat) ∧ byteOk b.list ∧ (0 : Int) ≤ px4 b.list ∧ px4 b.list ≤ (b.list.length : Int) ∧ U.i (px4 b.list) = U.i (px4 b.list) ∧ U.b true = U.b true ∧ (0 : Int) ≤ 0 ∧ (0 : Int) ≤ 4294967295 ∧ (↑(0 : Nat) : Int) ≤ 0 ∧ (↑(0 : Nat) : Int) ≤ 65536) ∧ mputP [[U.i (getN b.list 0 1), U.i (getN b.list (0 + 1) 2), U.s (readV b.list (0 + 1 + 2)), U.l (tgL b.list (pm1 b.list 0)), U.l ([] ++ pxS b.list), U.l ([] ++ pxM b.list), U.l []]] ∧ R [[U.i 0, U.i 0, U.s ⟨#[]⟩, U.l [], U.l [], U.l [], U.l []], [U.i 3]] else (rgIs 2688 (0 : Nat) 640 (0 : Nat) 256 (0 : Nat) 8470538 8470540 8470542 264 266 268 270 41 44 3 (U.i 0) (U.i 0) (U.s ⟨#[]⟩) ∧ EC = EC ∧ b.list.length ≤ (1099511627776 : Nat) ∧ byteOk b.list ∧ (0 : Int) ≤ px3 b.list ∧ px3 b.list ≤ (b.list.length : Int) ∧ U.i (px3 b.list) = U.i (px3 b.list) ∧ U.b true = U.b true ∧ (0 : Int) ≤ 0 ∧ (0 : Int) ≤ 0 ∧ (0 : Int) ≤ 255 ∧ (↑(0 : Nat) : Int) + ((0 : Int) - 0) ≤ 255) ∧ (rdIs 2097153 (0 : Nat) 2097153 b ∧ U.b true = U.b true ∧ (1 : Int) ≤ 4 ∧ (4 : Int) ≤ 4) ∧ (rgIs 2688 (0 : Nat) 640 (0 : Nat) 256 (0 : Nat) 8470538 8470540 8470542 264 266 268 270 41 44 3 (U.i 0) (U.i 0) (U.s ⟨#[]⟩) ∧ EC = EC ∧ b.list.length ≤ (1099511627776 : Nat) ∧ byteOk b.list ∧ (0 : Int) ≤ px3 b.list ∧ px3 b.list ≤ (b.list.length : Int) ∧ U.i (px3 b.list) = U.i (px3 b.list) ∧ U.b true = U.b true ∧ (0 : Int) ≤ 0 ∧ (0 : Int) ≤ 4294967295 ∧ (↑(0 : Nat) : Int) ≤ 0 ∧ (↑(0 : Nat) : Int) ≤ 65536) ∧ mputP [[U.i (getN b.list 0 1), U.i (getN b.list (0 + 1) 2), U.s (readV b.list (0 + 1 + 2)), U.l (tgL b.list (pm1 b.list 0)), U.l ([] ++ pxS b.list), U.l [], U.l []]] ∧ R [[U.i 0, U.i 0, U.s ⟨#[]⟩, U.l [], U.l [], U.l [], U.l []], [U.i 3]] else (rgIs 2688 (0 : Nat) 640 (0 : Nat) 256 (0 : Nat) 8470538 8470540 8470542 264 266 268 270 41 44 3 (U.i 0) (U.i 0) (U.s ⟨#[]⟩) ∧ EC = EC ∧ b.list.length ≤ (1099511627776 : Nat) ∧ byteOk b.list ∧ (0 : Int) ≤ pm2 b.list 0 ∧ pm1 b.list 0 + 2 + 130 * getN b.list (pm1 b.list 0) (2 : Int) ≤ (b.list.length : Int) ∧ U.i (pm2 b.list 0) = U.i (pm2 b.list 0) ∧ U.b true = U.b true ∧ (0 : Int) ≤ 0 ∧ (0 : Int) ≤ 0 ∧ (0 : Int) ≤ 255 ∧ (0 : Int) ≤ getN b.list 0 1 ∧ (↑(0 : Nat) : Int) + ((0 : Int) - 0) ≤ 255) ∧ (rdIs 2097153 (0 : Nat) 2097153 b ∧ U.b true = U.b true ∧ (1 : Int) ≤ 1 ∧ (1 : Int) ≤ 4) ∧ (rgIs 2688 (0 : Nat) 640 (0 : Nat) 256 (0 : Nat) 8470538 8470540 8470542 264 266 268 270 41 44 3 (U.i 0) (U.i 0) (U.s ⟨#[]⟩) ∧ EC = EC ∧ b.list.length ≤ (1099511627776 : Nat) ∧ byteOk b.list ∧ (0 : Int) ≤ pm2 b.list 0 ∧ pm1 b.list 0 + 2 + 130 * getN b.list (pm1 b.list 0) (2 : Int) ≤ (b.list.length : Int) ∧ U.i (pm2 b.list 0) = U.i (pm2 b.list 0) ∧ U.b true = U.b true ∧ (0 : Int) ≤ 0 ∧ (0 : Int) ≤ 0 ∧ (0 : Int) ≤ 255 ∧ (↑(0 : Nat) : Int) + ((0 : Int) - 0) ≤ 255) ∧ (rdIs 2097153 (0 : Nat) 2097153 b ∧ U.b true = U.b true ∧ (1 : Int) ≤ 4 ∧ (4 : Int) ≤ 4) ∧ (rgIs 2688 (0 : Nat) 640 (0 : Nat) 256 (0 : Nat) 8470538 8470540 8470542 264 266 268 270 41 44 3 (U.i 0) (U.i 0) (U.s ⟨#[]⟩) ∧ EC = EC ∧ b.list.length ≤ (1099511627776 : Nat) ∧ byteOk b.list ∧ (0 : Int) ≤ pm2 b.list 0 ∧ pm1 b.list 0 + 2 + 130 * getN b.list (pm1 b.list 0) (2 : Int) ≤ (b.list.length : Int) ∧ U.i (pm2 b.list 0) = U.i (pm2 b.list 0) ∧ U.b true = U.b true ∧ (0 : Int) ≤ 0 ∧ (0 : Int) ≤ 4294967295 ∧ (↑(0 : Nat) : Int) ≤ 0 ∧ (↑(0 : Nat) : Int) ≤ 65536) ∧ mputP [[U.i (getN b.list 0 1), U.i (getN b.list (0 + 1) 2), U.s (readV b.list (0 + 1 + 2)), U.l (tgL b.list (pm1 b.list 0)), U.l [], U.l [], U.l []]] ∧ R [[U.i 0, U.i 0, U.s ⟨#[]⟩, U.l [], U.l [], U.l [], U.l []], [U.i 3]] else (rdIs 2097153 (0 : Nat) 2097153 b ∧ U.b true = U.b true ∧ (1 : Int) ≤ 1 ∧ (1 : Int) ≤ 4) ∧ (rgIs 2688 (0 : Nat) 640 (0 : Nat) 256 (0 : Nat) 8470538 8470540 8470542 264 266 268 270 41 44 3 (U.i 0) (U.i 0) (U.s ⟨#[]⟩) ∧ EC = EC ∧ b.list.length ≤ (1099511627776 : Nat) ∧ byteOk b.list ∧ (0 : Int) ≤ pm1 b.list 0 ∧ 0 + 1 + 2 + 2 + getN b.list (0 + 1 + 2) (2 : Int) ≤ (b.list.length : Int) ∧ U.i (pm1 b.list 0) = U.i (pm1 b.list 0) ∧ U.b true = U.b true ∧ (0 : Int) ≤ 0 ∧ (0 : Int) ≤ 0 ∧ (0 : Int) ≤ 255 ∧ (0 : Int) ≤ getN b.list 0 1 ∧ (↑(0 : Nat) : Int) + ((0 : Int) - 0) ≤ 255) ∧ (rdIs 2097153 (0 : Nat) 2097153 b ∧ U.b true = U.b true ∧ (1 : Int) ≤ 1 ∧ (1 : Int) ≤ 4) ∧ (rgIs 2688 (0 : Nat) 640 (0 : Nat) 256 (0 : Nat) 8470538 8470540 8470542 264 266 268 270 41 44 3 (U.i 0) (U.i 0) (U.s ⟨#[]⟩) ∧ EC = EC ∧ b.list.length ≤ (1099511627776 : Nat) ∧ byteOk b.list ∧ (0 : Int) ≤ pm1 b.list 0 ∧ 0 + 1 + 2 + 2 + getN b.list (0 + 1 + 2) (2 : Int) ≤ (b.list.length : Int) ∧ U.i (pm1 b.list 0) = U.i (pm1 b.list 0) ∧ U.b true = U.b true ∧ (0 : Int) ≤ 0 ∧ (0 : Int) ≤ 0 ∧ (0 : Int) ≤ 255 ∧ (↑(0 : Nat) : Int) + ((0 : Int) - 0) ≤ 255) ∧ (rdIs 2097153 (0 : Nat) 2097153 b ∧ U.b true = U.b true ∧ (1 : Int) ≤ 4 ∧ (4 : Int) ≤ 4) ∧ (rgIs 2688 (0 : Nat) 640 (0 : Nat) 256 (0 : Nat) 8470538 8470540 8470542 264 266 268 270 41 44 3 (U.i 0) (U.i 0) (U.s ⟨#[]⟩) ∧ EC = EC ∧ b.list.length ≤ (1099511627776 : Nat) ∧ byteOk b.list ∧ (0 : Int) ≤ pm1 b.list 0 ∧ 0 + 1 + 2 + 2 + getN b.list (0 + 1 + 2) (2 : Int) ≤ (b.list.length : Int) ∧ U.i (pm1 b.list 0) = U.i (pm1 b.list 0) ∧ U.b true = U.b true ∧ (0 : Int) ≤ 0 ∧ (0 : Int) ≤ 4294967295 ∧ (↑(0 : Nat) : Int) ≤ 0 ∧ (↑(0 : Nat) : Int) ≤ 65536) ∧ mputP [[U.i (getN b.list 0 1), U.i (getN b.list (0 + 1) 2), U.s (readV b.list (0 + 1 + 2)), U.l [], U.l [], U.l [], U.l []]] ∧ R [[U.i 0, U.i 0, U.s ⟨#[]⟩, U.l [], U.l [], U.l [], U.l []], [U.i 3]] else (rdIs 2097153 (0 : Nat) 2097153 b ∧ U.b true = U.b true) ∧ (rdIs 2097153 (0 : Nat) 2097153 b ∧ U.b true = U.b true ∧ (1 : Int) ≤ 1 ∧ (1 : Int) ≤ 4) ∧ (rgIs 2688 (0 : Nat) 640 (0 : Nat) 256 (0 : Nat) 8470538 8470540 8470542 264 266 268 270 41 44 3 (U.i 0) (U.i 0) (U.s ⟨#[]⟩) ∧ EC = EC ∧ b.list.length ≤ (1099511627776 : Nat) ∧ byteOk b.list ∧ (0 : Int) ≤ 0 + 1 + 2 ∧ 0 + 1 + (2 : Int) ≤ (b.list.length : Int) ∧ U.i (0 + 1 + 2) = U.i (0 + 1 + 2) ∧ U.b true = U.b true ∧ (0 : Int) ≤ 0 ∧ (0 : Int) ≤ 0 ∧ (0 : Int) ≤ 255 ∧ (0 : Int) ≤ getN b.list 0 1 ∧ (↑(0 : Nat) : Int) + ((0 : Int) - 0) ≤ 255) ∧ (rdIs 2097153 (0 : Nat) 2097153 b ∧ U.b true = U.b true ∧ (1 : Int) ≤ 1 ∧ (1 : Int) ≤ 4) ∧ (rgIs 2688 (0 : Nat) 640 (0 : Nat) 256 (0 : Nat) 8470538 8470540 8470542 264 266 268 270 41 44 3 (U.i 0) (U.i 0) (U.s ⟨#[]⟩) ∧ EC = EC ∧ b.list.length ≤ (1099511627776 : Nat) ∧ byteOk b.list ∧ (0 : Int) ≤ 0 + 1 + 2 ∧ 0 + 1 + (2 : Int) ≤ (b.list.length : Int) ∧ U.i (0 + 1 + 2) = U.i (0 + 1 + 2) ∧ U.b true = U.b true ∧ (0 : Int) ≤ 0 ∧ (0 : Int) ≤ 0 ∧ (0 : Int) ≤ 255 ∧ (↑(0 : Nat) : Int) + ((0 : Int) - 0) ≤ 255) ∧ (rdIs 2097153 (0 : Nat) 2097153 b ∧ U.b true = U.b true ∧ (1 : Int) ≤ 4 ∧ (4 : Int) ≤ 4) ∧ (rgIs 2688 (0 : Nat) 640 (0 : Nat) 256 (0 : Nat) 8470538 8470540 8470542 264 266 268 270 41 44 3 (U.i 0) (U.i 0) (U.s ⟨#[]⟩) ∧ EC = EC ∧ b.list.length ≤ (1099511627776 : Nat) ∧ byteOk b.list ∧ (0 : Int) ≤ 0 + 1 + 2 ∧ 0 + 1 + (2 : Int) ≤ (b.list.length : Int) ∧ U.i (0 + 1 + 2) = U.i (0 + 1 + 2) ∧ U.b true = U.b true ∧ (0 : Int) ≤ 0 ∧ (0 : Int) ≤ 4294967295 ∧ (↑(0 : Nat) : Int) ≤ 0 ∧ (↑(0 : Nat) : Int) ≤ 65536) ∧ mputP [[U.i (getN b.list 0 1), U.i (getN b.list (0 + 1) 2), U.s ⟨#[]⟩, U.l [], U.l [], U.l [], U.l []]] ∧ R [[U.i 0, U.i 0, U.s ⟨#[]⟩, U.l [], U.l [], U.l [], U.l []], [U.i 3]] else (rdIs 2097153 (0 : Nat) 2097153 b ∧ U.b true = U.b true) ∧ (rdIs 2097153 (0 : Nat) 2097153 b ∧ U.b true = U.b true) ∧ (rdIs 2097153 (0 : Nat) 2097153 b ∧ U.b true = U.b true ∧ (1 : Int) ≤ 1 ∧ (1 : Int) ≤ 4) ∧ (rgIs 2688 (0 : Nat) 640 (0 : Nat) 256 (0 : Nat) 8470538 8470540 8470542 264 266 268 270 41 44 3 (U.i 0) (U.i 0) (U.s ⟨#[]⟩) ∧ EC = EC ∧ b.list.length ≤ (1099511627776 : Nat) ∧ byteOk b.list ∧ (0 : Int) ≤ 0 + 1 ∧ 0 + (1 : Int) ≤ (b.list.length : Int) ∧ U.i (0 + 1) = U.i (0 + 1) ∧ U.b true = U.b true ∧ (0 : Int) ≤ 0 ∧ (0 : Int) ≤ 0 ∧ (0 : Int) ≤ 255 ∧ (0 : Int) ≤ getN b.list 0 1 ∧ (↑(0 : Nat) : Int) + ((0 : Int) - 0) ≤ 255) ∧ (rdIs 2097153 (0 : Nat) 2097153 b ∧ U.b true = U.b true ∧ (1 : Int) ≤ 1 ∧ (1 : Int) ≤ 4) ∧ (rgIs 2688 (0 : Nat) 640 (0 : Nat) 256 (0 : Nat) 8470538 8470540 8470542 264 266 268 270 41 44 3 (U.i 0) (U.i 0) (U.s ⟨#[]⟩) ∧ EC = EC ∧ b.list.length ≤ (1099511627776 : Nat) ∧ byteOk b.list ∧ (0 : Int) ≤ 0 + 1 ∧ 0 + (1 : Int) ≤ (b.list.length : Int) ∧ U.i (0 + 1) = U.i (0 + 1) ∧ U.b true = U.b true ∧ (0 : Int) ≤ 0 ∧ (0 : Int) ≤ 0 ∧ (0 : Int) ≤ 255 ∧ (↑(0 : Nat) : Int) + ((0 : Int) - 0) ≤ 255) ∧ (rdIs 2097153 (0 : Nat) 2097153 b ∧ U.b true = U.b true ∧ (1 : Int) ≤ 4 ∧ (4 : Int) ≤ 4) ∧ (rgIs 2688 (0 : Nat) 640 (0 : Nat) 256 (0 : Nat) 8470538 8470540 8470542 264 266 268 270 41 44 3 (U.i 0) (U.i 0) (U.s ⟨#[]⟩) ∧ EC = EC ∧ b.list.length ≤ (1099511627776 : Nat) ∧ byteOk b.list ∧ (0 : Int) ≤ 0 + 1 ∧ 0 + (1 : Int) ≤ (b.list.length : Int) ∧ U.i (0 + 1) = U.i (0 + 1) ∧ U.b true = U.b true ∧ (0 : Int) ≤ 0 ∧ (0 : Int) ≤ 4294967295 ∧ (↑(0 : Nat) : Int) ≤ 0 ∧ (↑(0 : Nat) : Int) ≤ 65536) ∧ mputP [[U.i (getN b.list 0 1), U.i 0, U.s ⟨#[]⟩, U.l [], U.l [], U.l [], U.l []]] ∧ R [[U.i 0, U.i 0, U.s ⟨#[]⟩, U.l [], U.l [], U.l [], U.l []], [U.i 3]] else (rdIs 2097153 (0 : Nat) 2097153 b ∧ U.b true = U.b true ∧ (1 : Int) ≤ 2 ∧ (2 : Int) ≤ 4) ∧ (rdIs 2097153 (0 : Nat) 2097153 b ∧ U.b true = U.b true) ∧ (rdIs 2097153 (0 : Nat) 2097153 b ∧ U.b true = U.b true) ∧ (rdIs 2097153 (0 : Nat) 2097153 b ∧ U.b true = U.b true ∧ (1 : Int) ≤ 1 ∧ (1 : Int) ≤ 4) ∧ (rgIs 2688 (0 : Nat) 640 (0 : Nat) 256 (0 : Nat) 8470538 8470540 8470542 264 266 268 270 41 44 3 (U.i 0) (U.i 0) (U.s ⟨#[]⟩) ∧ EC = EC ∧ b.list.length ≤ (1099511627776 : Nat) ∧ byteOk b.list ∧ (0 : Int) ≤ 0 ∧ (0 : Int) ≤ (b.list.length : Int) ∧ U.i (0 : Int) = U.i 0 ∧ U.b true = U.b true ∧ (0 : Int) ≤ 0 ∧ (0 : Int) ≤ 0 ∧ (0 : Int) ≤ 255 ∧ (0 : Int) ≤ 0 ∧ (↑(0 : Nat) : Int) + ((0 : Int) - 0) ≤ 255) ∧ (rdIs 2097153 (0 : Nat) 2097153 b ∧ U.b true = U.b true ∧ (1 : Int) ≤ 1 ∧ (1 : Int) ≤ 4) ∧ (rgIs 2688 (0 : Nat) 640 (0 : Nat) 256 (0 : Nat) 8470538 8470540 8470542 264 266 268 270 41 44 3 (U.i 0) (U.i 0) (U.s ⟨#[]⟩) ∧ EC = EC ∧ b.list.length ≤ (1099511627776 : Nat) ∧ byteOk b.list ∧ (0 : Int) ≤ 0 ∧ (0 : Int) ≤ (b.list.length : Int) ∧ U.i (0 : Int) = U.i 0 ∧ U.b true = U.b true ∧ (0 : Int) ≤ 0 ∧ (0 : Int) ≤ 0 ∧ (0 : Int) ≤ 255 ∧ (↑(0 : Nat) : Int) + ((0 : Int) - 0) ≤ 255) ∧ (rdIs 2097153 (0 : Nat) 2097153 b ∧ U.b true = U.b true ∧ (1 : Int) ≤ 4 ∧ (4 : Int) ≤ 4) ∧ (rgIs 2688 (0 : Nat) 640 (0 : Nat) 256 (0 : Nat) 8470538 8470540 8470542 264 266 268 270 41 44 3 (U.i 0) (U.i 0) (U.s ⟨#[]⟩) ∧ EC = EC ∧ b.list.length ≤ (1099511627776 : Nat) ∧ byteOk b.list ∧ (0 : Int) ≤ 0 ∧ (0 : Int) ≤ (b.list.length : Int) ∧ U.i (0 : Int) = U.i 0 ∧ U.b true = U.b true ∧ (0 : Int) ≤ 0 ∧ (0 : Int) ≤ 4294967295 ∧ (↑(0 : Nat) : Int) ≤ 0 ∧ (↑(0 : Nat) : Int) ≤ 65536) ∧ mputP [[U.i 0, U.i 0, U.s ⟨#[]⟩, U.l [], U.l [], U.l [], U.l []]] ∧ R [[U.i 0, U.i 0, U.s ⟨#[]⟩, U.l [], U.l [], U.l [], U.l []], [U.i 3]]) := by kernel_rfl
end Go.Mat

namespace Go.Mat
open Go Go.Den Go.Proofs
theorem rgIs_rfl : rgIs 2688 0 640 0 256 0 8470538 8470540 8470542 264 266 268 270 shT bmT intT (.i 0) (.i 0) (.s ⟨#[]⟩) := ⟨⟨rfl, rfl, rfl, rfl, rfl, rfl⟩, ⟨rfl, rfl, rfl, rfl, rfl, rfl, rfl⟩, ⟨rfl, rfl, rfl⟩, rfl, rfl, rfl⟩
theorem readV_no {b : List U} {a : Int} (h : readR b a = false) : readV b a = ⟨#[]⟩ := by
  unfold readV
  rw [h]
  rfl
theorem getN_no {b : List U} {a n : Int} (h : thereR b a n = false) : getN b a n = 0 := by
  unfold getN
  rw [h]
  rfl
theorem rg_loop0 : LoopOk rgC 0 (loopBody Try.f19 0) := by
  refine loopOk_of (F := rgLoop0) (ts := [7, 6, 4, 5, 0, 2]) (os := [2688, 640, 8470538, 8470540, 8470542, 256]) rfl (fun svs _ => match svs with | .val _ i :: .val _ n :: _ => (n.int - i.int).toNat | _ => 0) ?_
  intro pan svs os k ho1 ho2 h
  unfold rgLoop0 at h
  split at h
  · rename_i i n p4 o4 p5 o5 b0 p2 o2 b a bad c sz bk ec T q4 q5 q6 t1 xs t2 ys t3 zs i0 i1 s0 r3 r4 r5 r6
    obtain ⟨⟨⟨⟨rfl, rfl, rfl, rfl, rfl, rfl⟩, ⟨rfl, rfl, rfl, rfl, rfl, rfl, rfl⟩, ⟨rfl, rfl, rfl⟩, rfl, rfl, rfl⟩, rfl, hb, hbk, ha0, ha1, ha, hbad, h0, hi, hn, hc, hx⟩, hk⟩ := h
    obtain ⟨x, rfl⟩ : ∃ x, bad = .b x := ⟨_, hbad⟩
    refine .eq (rg_round0 pan _ _ k i n b0 b a c sz bk T x xs ys zs) ?_
    simp only [U.bool_b] at hk
    cases x with
    | true =>
      rw [cond_true] at hk
      exact bd (fun _ => hk) (fun _ => hk)
    | false =>
      rw [cond_false] at hk
      refine bd (fun hlt => bt rfl ⟨⟨⟨rfl, rfl, rfl, hb⟩, rfl⟩, bi (fun h2 => ?_) (fun h2 => ?_)⟩) (fun hlt => ?_)
      · have h2 : readR b.list a.int = true := h2
        have f2 := readR_fits h2
        have g2 := getN2 (a := a.int) hbk
        have hw : IntKind.wrap .i64 (i.int + 1) = i.int + 1 := i64_in (by omega) (by omega)
        have hlt' : (n.int - (i.int + 1)).toNat < (n.int - i.int).toNat := by omega
        rw [show (n.int - i.int).toNat = (n.int - (i.int + 1)).toNat + 1 by omega, shX, shXE, shK] at hk
        unfold sh1J sh1F at hk
        unfold sh1K sh1E shZ rmN at hk
        rw [h2] at hk
        simp only [hw]
        refine ⟨⟨⟨rfl, rfl, rfl, hb⟩, by trivial, by omega, by omega⟩, bi (fun h3 => ?_) (fun h3 => ?_)⟩
        · have i3 := thereR_iff.1 h3
          rw [h3] at hk
          refine ⟨⟨⟨rfl, rfl, rfl, hb⟩, by trivial⟩, bi (fun h4 => ?_) (fun h4 => ?_)⟩
          · have f4 := tgR_fits h4
            have g4 := getN2 (a := a.int + 2 + getN b.list a.int 2 + 2) hbk
            rw [h4] at hk
            simp only [Bool.true_and, cond_true] at hk
            rw [List.append_cons xs] at hk
            refine broom (by unfold room; omega) rfl (blt hlt' ⟨⟨rgIs_rfl, by trivial, hb, hbk, by omega, by omega, by trivial, by trivial, by omega, by omega, hn, hc, by rw [List.length_append, List.length_singleton]; omega⟩, hk⟩)
          · rw [h4] at hk
            simp only [Bool.true_and, Bool.and_false, Bool.false_and, cond_true, cond_false, Bool.not_false] at hk
            refine broom (by unfold room; omega) rfl (blt hlt' ⟨⟨rgIs_rfl, by trivial, hb, hbk, by omega, by omega, by trivial, by trivial, by omega, by omega, hn, hc, by rw [List.length_append, List.length_singleton]; omega⟩, hk⟩)
        · rw [h3] at hk
          simp only [Bool.true_and, Bool.and_false, Bool.false_and, cond_true, cond_false, Bool.not_false, getN_no h3] at hk
          refine ⟨⟨⟨rfl, rfl, rfl, hb⟩, by trivial⟩, ?_⟩
          refine broom (by unfold room; omega) rfl (blt hlt' ⟨⟨rgIs_rfl, by trivial, hb, hbk, by omega, by omega, by trivial, by trivial, by omega, by omega, hn, hc, by rw [List.length_append, List.length_singleton]; omega⟩, hk⟩)
      · have h2 : readR b.list a.int = false := h2
        have hw : IntKind.wrap .i64 (i.int + 1) = i.int + 1 := i64_in (by omega) (by omega)
        have hlt' : (n.int - (i.int + 1)).toNat < (n.int - i.int).toNat := by omega
        rw [show (n.int - i.int).toNat = (n.int - (i.int + 1)).toNat + 1 by omega, shX, shXE, shK] at hk
        unfold sh1J sh1F at hk
        unfold sh1K at hk
        rw [h2, readV_no h2] at hk
        simp only [Bool.false_and, cond_false, Bool.not_false, ← ha] at hk
        simp only [hw]
        refine ⟨⟨⟨rfl, rfl, rfl, hb⟩, by trivial, by omega, by omega⟩, ⟨⟨rfl, rfl, rfl, hb⟩, by trivial⟩, ?_⟩
        refine broom (by unfold room; omega) rfl (blt hlt' ⟨⟨rgIs_rfl, by trivial, hb, hbk, by omega, by omega, ha, by trivial, by omega, by omega, hn, hc, by rw [List.length_append, List.length_singleton]; omega⟩, hk⟩)
      · rw [show (n.int - i.int).toNat = 0 by omega, shX, shXE, shK, ← ha, List.append_nil] at hk
        exact hk
  · exact h.elim
theorem spXE_fits {b : List U} : ∀ {m : Nat} {a : Int}, 0 ≤ a → a ≤ b.length → 0 ≤ spXE b m a ∧ spXE b m a ≤ (b.length : Int)
  | 0, a, h0, h1 => ⟨h0, h1⟩
  | m + 1, a, h0, h1 => by
    rw [spXE]
    cases h : thereR b a 2 with
    | false => exact ⟨h0, h1⟩
    | true =>
      have i1 := thereR_iff.1 h
      cases h2 : thereR b (a + 2) 2 with
      | false => rw [cond_true, cond_false]; omega
      | true =>
        have i2 := thereR_iff.1 h2
        rw [cond_true, cond_true]
        exact spXE_fits (by omega) (by omega)
theorem rg_loop4 : LoopOk rgC 4 (loopBody Try.f19 2) := by
  refine loopOk_of (F := rgLoop4) (ts := [12, 11, 10, 9, 6, 4, 5, 0, 2]) (os := [2688, 640, 8470538, 8470540, 8470542, 256, 1280, 8552454]) rfl (fun svs _ => match svs with | .val _ j :: .val _ m :: _ => (m.int - j.int).toNat | _ => 0) ?_
  intro pan svs os k ho1 ho2 h
  unfold rgLoop4 at h
  split at h
  · rename_i j m p10 o10 i n p4 o4 p5 o5 b0 p2 o2 b a bad c sz bk ec T q4 q5 q6 t1 xs t2 ys t3 zs i0 i1 s0 r3 r4 r5 r6 nm on q10 t10 ws
    obtain ⟨⟨⟨⟨rfl, rfl, rfl, rfl, rfl, rfl⟩, ⟨rfl, rfl, rfl, rfl, rfl, rfl, rfl⟩, ⟨rfl, rfl, rfl⟩, rfl, rfl, rfl⟩, rfl, hb, hbk, ha0, ha1, ha, hbad, ⟨rfl, rfl, rfl, rfl⟩, h0, hj, hm, hx⟩, hk⟩ := h
    obtain ⟨x, rfl⟩ : ∃ x, bad = .b x := ⟨_, hbad⟩
    refine .eq (rg_round4 pan _ _ k j m i n nm on b0 b a c sz bk T x xs ys zs ws) ?_
    simp only [U.bool_b] at hk
    cases x with
    | true =>
      rw [cond_true] at hk
      exact bd (fun _ => hk) (fun _ => hk)
    | false =>
      rw [cond_false] at hk
      refine bd (fun hlt => bt rfl ⟨⟨⟨rfl, rfl, rfl, hb⟩, by trivial, by omega, by omega⟩, bi (fun h2 => ?_) (fun h2 => ?_)⟩) (fun hlt => ?_)
      · have h2 : thereR b.list a.int 2 = true := h2
        have f2 := thereR_iff.1 h2
        have hw : IntKind.wrap .i64 (j.int + 1) = j.int + 1 := i64_in (by omega) (by omega)
        have hlt' : (m.int - (j.int + 1)).toNat < (m.int - j.int).toNat := by omega
        rw [show (m.int - j.int).toNat = (m.int - (j.int + 1)).toNat + 1 by omega, spX, spXE, spK, h2] at hk
        simp only [hw]
        refine ⟨⟨⟨rfl, rfl, rfl, hb⟩, by trivial, by omega, by omega⟩, bi (fun h3 => ?_) (fun h3 => ?_)⟩
        · have i3 := thereR_iff.1 h3
          rw [h3] at hk
          simp only [Bool.true_and, cond_true] at hk
          rw [show a.int + 4 = a.int + 2 + 2 by omega, List.append_cons ws] at hk
          exact broom (by unfold room; omega) rfl (blt hlt' ⟨⟨rgIs_rfl, by trivial, hb, hbk, by omega, by omega, by trivial, by trivial, ⟨by trivial, by trivial, by trivial, by trivial⟩, by omega, by omega, hm, by rw [List.length_append, List.length_singleton]; omega⟩, hk⟩)
        · rw [h3] at hk
          simp only [Bool.true_and, Bool.and_false, Bool.false_and, cond_true, cond_false, Bool.not_false, getN_no h3] at hk
          exact broom (by unfold room; omega) rfl (blt hlt' ⟨⟨rgIs_rfl, by trivial, hb, hbk, by omega, by omega, by trivial, by trivial, ⟨by trivial, by trivial, by trivial, by trivial⟩, by omega, by omega, hm, by rw [List.length_append, List.length_singleton]; omega⟩, hk⟩)
      · have h2 : thereR b.list a.int 2 = false := h2
        have h3 : thereR b.list (a.int + 2) 2 = false := Bool.eq_false_iff.2 fun h3 => by
          have i3 := thereR_iff.1 h3
          rw [thereR_iff.2 ⟨ha0, ha1, by omega⟩] at h2
          cases h2
        have hw : IntKind.wrap .i64 (j.int + 1) = j.int + 1 := i64_in (by omega) (by omega)
        have hlt' : (m.int - (j.int + 1)).toNat < (m.int - j.int).toNat := by omega
        rw [show (m.int - j.int).toNat = (m.int - (j.int + 1)).toNat + 1 by omega, spX, spXE, spK, h2, getN_no h2, getN_no h3] at hk
        simp only [Bool.false_and, cond_false, Bool.not_false, ← ha] at hk
        simp only [hw]
        exact ⟨⟨⟨rfl, rfl, rfl, hb⟩, by trivial, by omega, by omega⟩, broom (by unfold room; omega) rfl (blt hlt' ⟨⟨rgIs_rfl, by trivial, hb, hbk, by omega, by omega, ha, by trivial, ⟨by trivial, by trivial, by trivial, by trivial⟩, by omega, by omega, hm, by rw [List.length_append, List.length_singleton]; omega⟩, hk⟩)⟩
      · rw [show (m.int - j.int).toNat = 0 by omega, spX, spXE, spK, ← ha, List.append_nil] at hk
        exact hk
  · exact h.elim
theorem rg_loop2 : LoopOk rgC 2 (loopBody Try.f19 1) := by
  refine loopOk_of (F := rgLoop2) (ts := [9, 6, 4, 5, 0, 2]) (os := [2688, 640, 8470538, 8470540, 8470542, 256]) rfl (fun svs _ => match svs with | .val _ i :: .val _ n :: _ => (n.int - i.int).toNat | _ => 0) ?_
  intro pan svs os k ho1 ho2 h
  unfold rgLoop2 at h
  split at h
  · rename_i i n p4 o4 p5 o5 b0 p2 o2 b a bad c sz bk ec T q4 q5 q6 t1 xs t2 ys t3 zs i0 i1 s0 r3 r4 r5 r6
    obtain ⟨⟨⟨⟨rfl, rfl, rfl, rfl, rfl, rfl⟩, ⟨rfl, rfl, rfl, rfl, rfl, rfl, rfl⟩, ⟨rfl, rfl, rfl⟩, rfl, rfl, rfl⟩, rfl, hb, hbk, ha0, ha1, ha, hbad, h0, hi, hn, hx⟩, hk⟩ := h
    obtain ⟨x, rfl⟩ : ∃ x, bad = .b x := ⟨_, hbad⟩
    refine .eq (rg_round2 pan _ _ k i n b0 b a c sz bk T x xs ys zs) ?_
    simp only [U.bool_b] at hk
    cases x with
    | true =>
      rw [cond_true] at hk
      exact bd (fun _ => hk) (fun _ => hk)
    | false =>
      rw [cond_false] at hk
      have hw : ∀ _ : i.int < n.int, IntKind.wrap .i64 (i.int + 1) = i.int + 1 := fun _ => i64_in (by omega) (by omega)
      refine bd (fun hlt => bt rfl ⟨⟨⟨rfl, rfl, rfl, hb⟩, rfl⟩, bi (fun h2 => ?_) (fun h2 => ?_)⟩) (fun hlt => ?_)
      · have h2 : readR b.list a.int = true := h2
        have f2 := readR_fits h2
        have g2 := getN2 (a := a.int) hbk
        have g3 := getN2 (a := a.int + 2 + getN b.list a.int 2 + 1) hbk
        have hlt' : (n.int - (i.int + 1)).toNat < (n.int - i.int).toNat := by omega
        rw [show (n.int - i.int).toNat = (n.int - (i.int + 1)).toNat + 1 by omega, bmX, bmXE, bmXK] at hk
        unfold bm1J at hk
        unfold bm1K bm1F bmN rmN at hk
        rw [h2] at hk
        simp only [hw hlt, Int.sub_zero, List.nil_append]
        refine ⟨⟨⟨rfl, rfl, rfl, hb⟩, by trivial, by omega, by omega⟩, bi (fun h3 => ?_) (fun h3 => ?_)⟩
        · have i3 := thereR_iff.1 h3
          rw [h3] at hk
          refine ⟨⟨⟨rfl, rfl, rfl, hb⟩, by trivial, by omega, by omega⟩, bi (fun h4 => ?_) (fun h4 => ?_)⟩
          · have i4 := thereR_iff.1 h4
            rw [h4] at hk
            simp only [Bool.true_and, cond_true] at hk
            have fx := spXE_fits (b := b.list) (m := (getN b.list (a.int + 2 + getN b.list a.int 2 + 1) 2).toNat) (a := a.int + 2 + getN b.list a.int 2 + 1 + 2) (by omega) (by omega)
            generalize spXE b.list (getN b.list (a.int + 2 + getN b.list a.int 2 + 1) 2).toNat (a.int + 2 + getN b.list a.int 2 + 1 + 2) = e at hk fx ⊢
            refine ⟨⟨rgIs_rfl, by trivial, hb, hbk, by omega, by omega, by trivial, by trivial, ⟨by trivial, by trivial, by trivial, by trivial⟩, (by first | trivial | omega), by omega, by omega, by omega⟩, broom (by unfold room; omega) rfl (blt hlt' ⟨⟨rgIs_rfl, by trivial, hb, hbk, fx.1, fx.2, by trivial, by trivial, by omega, by omega, hn, by rw [List.length_append, List.length_singleton]; omega⟩, bi (fun h5 => ?_) (fun h5 => ?_)⟩)⟩
            · rw [nt h5] at hk
              rw [nt h5]
              exact hk
            · rw [nf h5] at hk
              simp only [Bool.true_and, cond_true] at hk
              rw [List.append_cons ys] at hk
              exact hk
          · rw [h4] at hk
            simp only [Bool.true_and, Bool.and_false, Bool.false_and, cond_true, cond_false, Bool.not_false] at hk
            exact ⟨⟨rgIs_rfl, by trivial, hb, hbk, by omega, by omega, by trivial, by trivial, ⟨by trivial, by trivial, by trivial, by trivial⟩, (by first | trivial | omega), by omega, by omega, by omega⟩, broom (by unfold room; omega) rfl (blt hlt' ⟨⟨rgIs_rfl, by trivial, hb, hbk, by omega, by omega, by trivial, by trivial, by omega, by omega, hn, by rw [List.length_append, List.length_singleton]; omega⟩, hk⟩)⟩
        · rw [h3] at hk
          simp only [Bool.true_and, Bool.and_false, Bool.false_and, cond_true, cond_false, Bool.not_false, getN_no h3] at hk
          exact ⟨⟨⟨rfl, rfl, rfl, hb⟩, by trivial, by omega, by omega⟩, ⟨rgIs_rfl, by trivial, hb, hbk, by omega, by omega, by trivial, by trivial, ⟨by trivial, by trivial, by trivial, by trivial⟩, (by first | trivial | omega), by omega, by omega, by omega⟩, broom (by unfold room; omega) rfl (blt hlt' ⟨⟨rgIs_rfl, by trivial, hb, hbk, by omega, by omega, by trivial, by trivial, by omega, by omega, hn, by rw [List.length_append, List.length_singleton]; omega⟩, hk⟩)⟩
      · have h2 : readR b.list a.int = false := h2
        have hlt' : (n.int - (i.int + 1)).toNat < (n.int - i.int).toNat := by omega
        rw [show (n.int - i.int).toNat = (n.int - (i.int + 1)).toNat + 1 by omega, bmX, bmXE, bmXK] at hk
        unfold bm1J at hk
        unfold bm1K bm1F at hk
        rw [h2, readV_no h2] at hk
        simp only [Bool.false_and, cond_false, Bool.not_false, ← ha] at hk
        simp only [hw hlt]
        exact ⟨⟨⟨rfl, rfl, rfl, hb⟩, by trivial, by omega, by omega⟩, ⟨⟨rfl, rfl, rfl, hb⟩, by trivial, by omega, by omega⟩, ⟨rgIs_rfl, by trivial, hb, hbk, by omega, by omega, ha, by trivial, ⟨by trivial, by trivial, by trivial, by trivial⟩, (by first | trivial | omega), by omega, by omega, by omega⟩, broom (by unfold room; omega) rfl (blt hlt' ⟨⟨rgIs_rfl, by trivial, hb, hbk, by omega, by omega, ha, by trivial, by omega, by omega, hn, by rw [List.length_append, List.length_singleton]; omega⟩, hk⟩)⟩
      · rw [show (n.int - i.int).toNat = 0 by omega, bmX, bmXE, bmXK, ← ha, List.append_nil] at hk
        exact hk
  · exact h.elim
theorem rg_loop8 : LoopOk rgC 8 (loopBody Try.f19 4) := by
  refine loopOk_of (F := rgLoop8) (ts := [16, 14, 15, 6, 4, 5, 0, 2]) (os := [2688, 640, 8470538, 8470540, 8470542, 256]) rfl (fun svs _ => match svs with | .val _ j :: .val _ m :: _ => (m.int - j.int).toNat | _ => 0) ?_
  intro pan svs os k ho1 ho2 h
  unfold rgLoop8 at h
  split at h
  · rename_i j m v n p4 o4 p5 o5 b0 p2 o2 b a bad c sz bk ec T q4 q5 q6 t1 xs t2 ys t3 zs i0 i1 s0 r3 r4 r5 r6
    obtain ⟨⟨⟨⟨rfl, rfl, rfl, rfl, rfl, rfl⟩, ⟨rfl, rfl, rfl, rfl, rfl, rfl, rfl⟩, ⟨rfl, rfl, rfl⟩, rfl, rfl, rfl⟩, rfl, hbad, h0, hj⟩, hk⟩ := h
    obtain ⟨x, rfl⟩ : ∃ x, bad = .b x := ⟨_, hbad⟩
    refine .eq (rg_round8 pan _ _ k j m v n b0 b a c sz bk T x xs ys zs) ?_
    simp only [U.bool_b] at hk hj
    cases x with
    | true =>
      rw [cond_true] at hk
      exact bd (fun _ => hk) (fun _ => hk)
    | false =>
      rw [cond_false] at hk
      obtain ⟨j1, j2, j3⟩ := hj rfl
      refine bd (fun hlt => bt rfl ?_) (fun hlt => ?_)
      · have hw : IntKind.wrap .i64 (j.int + 1) = j.int + 1 := i64_in (by omega) (by omega)
        have hlt' : (m.int - (j.int + 1)).toNat < (m.int - j.int).toNat := by omega
        rw [show (m.int - j.int).toNat = (m.int - (j.int + 1)).toNat + 1 by omega, List.replicate_succ, List.append_cons zs] at hk
        simp only [hw]
        exact broom (by unfold room; omega) rfl (blt hlt' ⟨⟨rgIs_rfl, by trivial, by trivial, by omega, fun _ => ⟨by omega, by omega, by rw [List.length_append, List.length_singleton]; omega⟩⟩, hk⟩)
      · rw [show (m.int - j.int).toNat = 0 by omega, List.replicate_zero, List.append_nil] at hk
        exact hk
  · exact h.elim
theorem rc_end {b : List U} {n m a : Int} (h : m ≤ 0) : rcXK b n m a = true ∧ rcX b n m a = [] ∧ rcXE b n m a = a := by
  rw [rcXK, rcX, rcXE, if_neg (by omega), if_neg (by omega), if_neg (by omega), decide_eq_true h, decide_eq_false (by omega)]
  exact ⟨rfl, rfl, rfl⟩
theorem rc_bad {b : List U} {n m a : Int} (h : 0 < m) (h1 : rc1K b n m a = false) : rcXK b n m a = false ∧ rcX b n m a = [] ∧ rcXE b n m a = rc1F b a := by
  rw [rcXK, rcX, rcXE, h1]
  by_cases hc : 0 < getN b a 2
  · rw [if_pos ⟨h, hc⟩, if_pos ⟨h, hc⟩, if_pos ⟨h, hc⟩]
    exact ⟨rfl, rfl, rfl⟩
  · rw [if_neg (by omega), if_neg (by omega), if_neg (by omega), decide_eq_true h, decide_eq_false (by omega)]
    exact ⟨rfl, rfl, rfl⟩
theorem rc_ok {b : List U} {n m a : Int} (h : 0 < m) (h0 : 0 < getN b a 2) (h1 : rc1K b n m a = true) : rcXK b n m a = rcXK b n (m - getN b a 2) (a + 2 + 2) ∧
    rcX b n m a = List.replicate (getN b a 2).toNat (.i (getN b (a + 2) 2)) ++ rcX b n (m - getN b a 2) (a + 2 + 2) ∧ rcXE b n m a = rcXE b n (m - getN b a 2) (a + 2 + 2) := by
  refine ⟨?_, ?_, ?_⟩
  · rw [rcXK, h1, if_pos ⟨h, h0⟩]; rfl
  · rw [rcX, h1, if_pos ⟨h, h0⟩]; rfl
  · rw [rcXE, h1, if_pos ⟨h, h0⟩]; rfl
theorem rg_loop6 : LoopOk rgC 6 (loopBody Try.f19 3) := by
  refine loopOk_of (F := rgLoop6) (ts := [6, 4, 5, 0, 2]) (os := [2688, 640, 8470538, 8470540, 8470542, 256]) rfl (fun svs os => match svs, os with | .val _ n :: _, [.box [_, _, .val _ bad], _, _, _, .arr _ zs, _] => 2 * (n.int - (zs.length : Int)).toNat + (bif bad.bool then 0 else 1) | _, _ => 0) ?_
  intro pan svs os k ho1 ho2 h
  unfold rgLoop6 at h
  split at h
  · rename_i n p4 o4 p5 o5 b0 p2 o2 b a bad c sz bk ec T q4 q5 q6 t1 xs t2 ys t3 zs i0 i1 s0 r3 r4 r5 r6
    obtain ⟨⟨⟨⟨rfl, rfl, rfl, rfl, rfl, rfl⟩, ⟨rfl, rfl, rfl, rfl, rfl, rfl, rfl⟩, ⟨rfl, rfl, rfl⟩, rfl, rfl, rfl⟩, rfl, hb, hbk, ha0, ha1, ha, hbad, hn0, hn4, hz, hz6⟩, hk⟩ := h
    obtain ⟨x, rfl⟩ : ∃ x, bad = .b x := ⟨_, hbad⟩
    refine .eq (rg_round6 pan _ _ k n b0 b a c sz bk T x xs ys zs) ?_
    simp only [U.bool_b] at hk
    cases x with
    | true =>
      rw [cond_true] at hk
      exact bd (fun _ => hk) (fun _ => hk)
    | false =>
      rw [cond_false] at hk
      have hw : IntKind.wrap .i64 (n.int - (zs.length : Int)) = n.int - (zs.length : Int) := i64_in (by omega) (by omega)
      have g2 := getN2 (a := a.int) hbk
      have hmu : 2 * (n.int - (zs.length : Int)).toNat + (bif true then 0 else 1) < 2 * (n.int - (zs.length : Int)).toNat + (bif false then 0 else 1) := by simp only [cond_true, cond_false]; omega
      refine bd (fun hlt => bt rfl ⟨⟨⟨rfl, rfl, rfl, hb⟩, rfl, by omega, by omega⟩, bi (fun h2 => ?_) (fun h2 => ?_)⟩) (fun hlt => ?_)
      · have h2 : thereR b.list a.int 2 = true := h2
        have i2 := thereR_iff.1 h2
        simp only [hw, Int.sub_zero]
        refine ⟨⟨⟨rfl, rfl, rfl, hb⟩, by trivial, by omega, by omega⟩, bi (fun h3 => ?_) (fun h3 => ?_)⟩
        · have i3 := thereR_iff.1 h3
          have hF : rc1F b.list a.int = a.int + 2 + 2 := by unfold rc1F; rw [h2, h3]; rfl
          refine bi (fun h4 => ?_) (fun h4 => bd (fun h5 => ?_) (fun h5 => bd (fun h6 => ?_) (fun h6 => ?_)))
          · have h4 := eq_of_beq h4
            obtain ⟨r1, r2, r3⟩ := rc_bad (b := b.list) (n := n.int) (m := n.int - (zs.length : Int)) (a := a.int) (by omega) (by unfold rc1K; rw [decide_eq_false (show ¬ 0 < getN b.list a.int 2 by omega)]; simp)
            rw [r1, r2, r3, hF, List.append_nil] at hk
            exact ⟨⟨rgIs_rfl, by trivial, by trivial, (by first | trivial | omega), fun hh => (by cases hh)⟩, blt hmu ⟨⟨rgIs_rfl, by trivial, hb, hbk, by omega, by omega, by trivial, by trivial, hn0, hn4, by omega, by omega⟩, hk⟩⟩
          · obtain ⟨r1, r2, r3⟩ := rc_bad (b := b.list) (n := n.int) (m := n.int - (zs.length : Int)) (a := a.int) (by omega) (by unfold rc1K; rw [decide_eq_false (show ¬ getN b.list a.int 2 ≤ n.int - (zs.length : Int) by omega)]; simp)
            rw [r1, r2, r3, hF, List.append_nil] at hk
            exact ⟨⟨rgIs_rfl, by trivial, by trivial, (by first | trivial | omega), fun hh => (by cases hh)⟩, blt hmu ⟨⟨rgIs_rfl, by trivial, hb, hbk, by omega, by omega, by trivial, by trivial, hn0, hn4, by omega, by omega⟩, hk⟩⟩
          · obtain ⟨r1, r2, r3⟩ := rc_bad (b := b.list) (n := n.int) (m := n.int - (zs.length : Int)) (a := a.int) (by omega) (by unfold rc1K; rw [decide_eq_false (show ¬ n.int ≤ 65536 by omega)]; simp)
            rw [r1, r2, r3, hF, List.append_nil] at hk
            exact ⟨⟨rgIs_rfl, by trivial, by trivial, (by first | trivial | omega), fun hh => (by cases hh)⟩, blt hmu ⟨⟨rgIs_rfl, by trivial, hb, hbk, by omega, by omega, by trivial, by trivial, hn0, hn4, by omega, by omega⟩, hk⟩⟩
          · have h4 : getN b.list a.int 2 ≠ 0 := fun e => by rw [e] at h4; cases h4
            obtain ⟨r1, r2, r3⟩ := rc_ok (b := b.list) (n := n.int) (m := n.int - (zs.length : Int)) (a := a.int) (by omega) (by omega) (by unfold rc1K; rw [h2, h3, decide_eq_true (show 0 < getN b.list a.int 2 by omega), decide_eq_true (show getN b.list a.int 2 ≤ n.int - (zs.length : Int) by omega), decide_eq_true (show n.int ≤ 65536 by omega)]; rfl)
            have hl : ((zs ++ List.replicate (getN b.list a.int 2).toNat (U.i (getN b.list (a.int + 2) 2))).length : Int) = zs.length + getN b.list a.int 2 := by rw [List.length_append, List.length_replicate]; omega
            rw [r1, r2, r3, ← List.append_assoc, show n.int - (zs.length : Int) - getN b.list a.int 2 = n.int - ((zs ++ List.replicate (getN b.list a.int 2).toNat (U.i (getN b.list (a.int + 2) 2))).length : Int) by omega] at hk
            have hmu2 : 2 * (n.int - ((zs ++ List.replicate (getN b.list a.int 2).toNat (U.i (getN b.list (a.int + 2) 2))).length : Int)).toNat + (bif false then 0 else 1) < 2 * (n.int - (zs.length : Int)).toNat + (bif false then 0 else 1) := by simp only [cond_false]; omega
            exact ⟨⟨rgIs_rfl, by trivial, by trivial, (by first | trivial | omega), fun _ => ⟨by omega, by omega, by omega⟩⟩, blt hmu2 ⟨⟨rgIs_rfl, by trivial, hb, hbk, by omega, by omega, by trivial, by trivial, hn0, hn4, by omega, by omega⟩, hk⟩⟩
        · have hF : rc1F b.list a.int = a.int + 2 := by unfold rc1F; rw [h2, h3]; rfl
          obtain ⟨r1, r2, r3⟩ := rc_bad (b := b.list) (n := n.int) (m := n.int - (zs.length : Int)) (a := a.int) (by omega) (by unfold rc1K; rw [h3]; simp)
          rw [r1, r2, r3, hF, List.append_nil] at hk
          refine bi (fun h4 => ?_) (fun h4 => bd (fun h5 => ?_) (fun h5 => bd (fun h6 => ?_) (fun h6 => ?_)))
          all_goals exact ⟨⟨rgIs_rfl, by trivial, by trivial, (by first | trivial | omega), fun hh => (by cases hh)⟩, blt hmu ⟨⟨rgIs_rfl, by trivial, hb, hbk, by omega, by omega, by trivial, by trivial, hn0, hn4, by omega, by omega⟩, hk⟩⟩
      · have h2 : thereR b.list a.int 2 = false := h2
        have hF : rc1F b.list a.int = a.int := by unfold rc1F; rw [h2]; rfl
        obtain ⟨r1, r2, r3⟩ := rc_bad (b := b.list) (n := n.int) (m := n.int - (zs.length : Int)) (a := a.int) (by omega) (by unfold rc1K; rw [h2]; simp)
        rw [r1, r2, r3, hF, List.append_nil, ← ha] at hk
        exact ⟨⟨⟨rfl, rfl, rfl, hb⟩, rfl, by omega, by omega⟩, ⟨rgIs_rfl, rfl, rfl, by omega, fun hh => (by cases hh)⟩, blt hmu ⟨⟨rgIs_rfl, rfl, hb, hbk, by omega, by omega, ha, rfl, hn0, hn4, by omega, by omega⟩, hk⟩⟩
      · obtain ⟨r1, r2, r3⟩ := rc_end (b := b.list) (n := n.int) (m := n.int - (zs.length : Int)) (a := a.int) (by omega)
        rw [r1, r2, r3, ← ha, List.append_nil] at hk
        exact hk
  · exact h.elim
end Go.Mat

namespace Go.Mat
open Go Go.Den Go.Proofs
theorem shX_ok {b : List U} {c : Int} : ∀ {m : Nat} {a : Int}, shK b c m a = true → shX b c m a = shS b m a ∧ shXE b c m a = shE b m a
  | 0, _, _ => ⟨rfl, rfl⟩
  | m + 1, a, h => by
    rw [shK, Bool.and_eq_true] at h
    have h1 := h.1
    obtain ⟨i1, i2⟩ := shX_ok h.2
    have hr : readR b a = true := by unfold sh1K at h1; simp only [Bool.and_eq_true] at h1; exact h1.1.1
    rw [shX, shXE, shS, shE, h1, cond_true, cond_true, i1, i2]
    unfold sh1J sh1U
    rw [hr, h1]
    exact ⟨rfl, rfl⟩
theorem shXE_fits {b : List U} {c : Int} (hb : byteOk b) : ∀ {m : Nat} {a : Int}, 0 ≤ a → a ≤ b.length → 0 ≤ shXE b c m a ∧ shXE b c m a ≤ (b.length : Int)
  | 0, a, h0, h1 => ⟨h0, h1⟩
  | m + 1, a, h0, h1 => by
    rw [shXE]
    cases h : sh1K b c a with
    | true =>
      have h2 := h
      unfold sh1K at h2
      simp only [Bool.and_eq_true] at h2
      have h3 := tgR_fits h2.2
      have hg2 := getN2 (a := rmN b a + 2 + 2) hb
      have hg := getN2 (a := rmN b a + 2) hb
      rw [cond_true]
      exact shXE_fits hb (by unfold sh1E; omega) (by unfold sh1E; omega)
    | false =>
      rw [cond_false]
      unfold sh1F
      cases hr : readR b a with
      | false => exact ⟨h0, h1⟩
      | true =>
        have f := readR_fits hr
        have g := getN2 (a := a) hb
        cases ht : thereR b (rmN b a) 2 with
        | false => rw [cond_true, cond_false]; unfold rmN; omega
        | true =>
          have i := thereR_iff.1 ht
          rw [cond_true, cond_true]; omega
theorem shX_low {b : List U} {c : Int} : ∀ {m : Nat} {a : Int}, ∀ s ∈ shX b c m a, (e2 s).list.length ≤ 512
  | 0, _, s, hs => by cases hs
  | m + 1, a, s, hs => by
    rw [shX] at hs
    rcases List.mem_cons.1 hs with rfl | hs
    · show (bif sh1K b c a then tgL b (rmN b a + 2) else []).length ≤ 512
      cases h : sh1K b c a with
      | false => simp
      | true =>
        unfold sh1K at h
        simp only [Bool.and_eq_true] at h
        exact tgL_len h.2
    · cases h : sh1K b c a with
      | false => rw [h] at hs; cases hs
      | true => rw [h] at hs; exact shX_low s hs
theorem spK_iff {b : List U} : ∀ {m : Nat} {a : Int}, 0 ≤ a → a ≤ b.length → spK b m a = decide (a + 4 * (m : Int) ≤ (b.length : Int))
  | 0, a, h0, h1 => by rw [spK, decide_eq_true (by omega)]
  | m + 1, a, h0, h1 => by
    rw [spK]
    by_cases h : a + 4 ≤ (b.length : Int)
    · rw [thereR_iff.2 ⟨h0, h1, by omega⟩, thereR_iff.2 ⟨by omega, by omega, by omega⟩, spK_iff (by omega) h, Bool.true_and, Bool.true_and]
      congr 1
      exact propext ⟨fun h => by omega, fun h => by omega⟩
    · rw [decide_eq_false (show ¬ a + 4 * ((m + 1 : Nat) : Int) ≤ (b.length : Int) by omega)]
      cases h2 : thereR b a 2 with
      | false => rfl
      | true =>
        have i2 := thereR_iff.1 h2
        rw [show thereR b (a + 2) 2 = false from Bool.eq_false_iff.2 fun h3 => by have i3 := (thereR_iff (b := b) (a := a + 2) (n := 2)).1 h3; omega]
        rfl
theorem spX_ok {b : List U} : ∀ {m : Nat} {a : Int}, spK b m a = true → spX b m a = spG b m a ∧ spXE b m a = a + 4 * (m : Int)
  | 0, _, _ => ⟨rfl, by simp [spXE]⟩
  | m + 1, a, h => by
    rw [spK] at h
    simp only [Bool.and_eq_true] at h
    obtain ⟨i1, i2⟩ := spX_ok h.2
    rw [spX, spXE, spG, h.1.1, h.1.2, Bool.true_and, cond_true, cond_true, cond_true, i1, i2]
    exact ⟨rfl, by omega⟩
theorem spX_low {b : List U} : ∀ {m : Nat} {a : Int}, (spX b m a).length ≤ m
  | 0, _ => by simp [spX]
  | m + 1, a => by
    rw [spX, List.length_cons]
    cases thereR b a 2 && thereR b (a + 2) 2 with
    | false => simp
    | true => have := spX_low (b := b) (m := m) (a := a + 4); rw [cond_true]; omega
theorem bm1K_eq {b : List U} (hb : byteOk b) {a : Int} : bm1K b a = rmK b a := by
  unfold bm1K rmK
  cases hr : readR b a with
  | false => rfl
  | true =>
    have f := readR_fits hr
    have g := getN2 (a := a) hb
    cases h2 : thereR b (rmN b a) 1 with
    | false => rfl
    | true =>
      cases h3 : thereR b (rmN b a + 1) 2 with
      | false => rfl
      | true =>
        have i3 := thereR_iff.1 h3
        have g3 := getN2 (a := rmN b a + 1) hb
        rw [spK_iff (by omega) (by omega)]
        unfold bmN
        rw [show rmN b a + 1 + 2 + 4 * (((getN b (rmN b a + 1) 2).toNat : Nat) : Int) = rmN b a + 3 + 4 * getN b (rmN b a + 1) 2 by omega]
theorem bm1_ok {b : List U} (hb : byteOk b) {a : Int} (h : bm1K b a = true) : bm1J b a = bm1U b a ∧ bm1F b a = rmE b a := by
  have h2 := h
  unfold bm1K at h2
  simp only [Bool.and_eq_true] at h2
  obtain ⟨⟨⟨h3, h4⟩, h5⟩, h6⟩ := h2
  obtain ⟨i1, i2⟩ := spX_ok h6
  have g3 := getN2 (a := rmN b a + 1) hb
  unfold bm1J bm1F bm1U rmS rmE
  rw [h3, h4, h5, i1, i2]
  unfold bmN
  rw [show rmN b a + 1 + 2 = rmN b a + 3 by omega]
  exact ⟨rfl, by simp only [cond_true]; omega⟩
theorem bm1F_fits {b : List U} (hb : byteOk b) {a : Int} (h0 : 0 ≤ a) (h1 : a ≤ b.length) : 0 ≤ bm1F b a ∧ bm1F b a ≤ (b.length : Int) := by
  unfold bm1F
  cases hr : readR b a with
  | false => exact ⟨h0, h1⟩
  | true =>
    have f := readR_fits hr
    have g := getN2 (a := a) hb
    have hm : 0 ≤ rmN b a ∧ rmN b a ≤ (b.length : Int) := by unfold rmN; omega
    cases h2 : thereR b (rmN b a) 1 with
    | false => exact hm
    | true =>
      have i2 := thereR_iff.1 h2
      cases h3 : thereR b (rmN b a + 1) 2 with
      | false => rw [cond_true, cond_true, cond_false]; omega
      | true =>
        have i3 := thereR_iff.1 h3
        rw [cond_true, cond_true, cond_true]
        exact spXE_fits (by omega) (by omega)
theorem bmX_ok {b : List U} (hb : byteOk b) : ∀ {m : Nat} {a : Int}, bmXK b m a = bmK b m a ∧ (bmXK b m a = true → bmX b m a = bmS b m a ∧ bmXE b m a = bmE b m a)
  | 0, _ => ⟨rfl, fun _ => ⟨rfl, rfl⟩⟩
  | m + 1, a => by
    rw [bmXK, bmK, ← bm1K_eq hb]
    cases h : bm1K b a with
    | false => exact ⟨rfl, fun h => by cases h⟩
    | true =>
      obtain ⟨h1, h2⟩ := bm1_ok hb h
      obtain ⟨i1, i2⟩ := bmX_ok hb (m := m) (a := rmE b a)
      rw [bmX, bmXE, bmS, bmE, h, h1, h2, Bool.true_and, Bool.true_and, cond_true, cond_true]
      exact ⟨i1, fun hk => by rw [(i2 hk).1, (i2 hk).2]; exact ⟨rfl, rfl⟩⟩
theorem bmXE_fits {b : List U} (hb : byteOk b) : ∀ {m : Nat} {a : Int}, 0 ≤ a → a ≤ b.length → 0 ≤ bmXE b m a ∧ bmXE b m a ≤ (b.length : Int)
  | 0, a, h0, h1 => ⟨h0, h1⟩
  | m + 1, a, h0, h1 => by
    have hf := bm1F_fits hb h0 h1
    rw [bmXE]
    cases bm1K b a with
    | true => exact bmXE_fits hb hf.1 hf.2
    | false => exact hf
theorem bmX_low {b : List U} (hb : byteOk b) : ∀ {m : Nat} {a : Int}, ∀ s ∈ bmX b m a, (e2 s).list.length ≤ 65535
  | 0, _, s, hs => by cases hs
  | m + 1, a, s, hs => by
    rw [bmX] at hs
    rcases List.mem_cons.1 hs with rfl | hs
    · show (bif readR b a && thereR b (rmN b a) 1 && thereR b (rmN b a + 1) 2 then spX b (bmN b a) (rmN b a + 1 + 2) else []).length ≤ 65535
      have hg := getN2 (a := rmN b a + 1) hb
      have hl := spX_low (b := b) (m := bmN b a) (a := rmN b a + 1 + 2)
      have hn : bmN b a ≤ 65535 := by unfold bmN; omega
      cases readR b a && thereR b (rmN b a) 1 && thereR b (rmN b a + 1) 2 with
      | false => simp
      | true => rw [cond_true]; omega
    · cases h : bm1K b a with
      | false => rw [h] at hs; cases hs
      | true => rw [h] at hs; exact bmX_low hb s hs
theorem rcX_eq {b : List U} {n : Int} (hn : n ≤ 65536) : ∀ (f : Nat) {m a : Int}, m.toNat ≤ f → rcXK b n m a = rcK b m a ∧ (rcXK b n m a = true → rcX b n m a = rcS b m a) := by
  intro f
  induction f with
  | zero =>
    intro m a hf
    obtain ⟨r1, r2, _⟩ := rc_end (b := b) (n := n) (m := m) (a := a) (by omega)
    rw [r1, r2, rcK_end (by omega), rcS_end (by omega)]
    exact ⟨rfl, fun _ => rfl⟩
  | succ f ih =>
    intro m a hf
    by_cases hm : 0 < m
    · by_cases h0 : 0 < getN b a 2
      · rw [rcXK, rcX, rcK, rcS, if_pos ⟨hm, h0⟩, if_pos ⟨hm, h0⟩, if_pos ⟨hm, h0⟩, if_pos ⟨hm, h0⟩]
        unfold rc1K
        rw [decide_eq_true h0, decide_eq_true hn, Bool.and_true, Bool.and_true]
        obtain ⟨i1, i2⟩ := ih (m := m - getN b a 2) (a := a + 2 + 2) (by omega)
        rw [i1, show a + 4 = a + 2 + 2 by omega]
        refine ⟨rfl, fun h => ?_⟩
        rw [Bool.and_eq_true] at h
        rw [h.1, cond_true, i2 (by rw [i1]; exact h.2)]
      · obtain ⟨r1, r2, _⟩ := rc_bad (b := b) (n := n) (m := m) (a := a) hm (by unfold rc1K; rw [decide_eq_false h0]; simp)
        rw [r1, rcK_zero hm (by omega)]
        exact ⟨rfl, fun h => by cases h⟩
    · obtain ⟨r1, r2, _⟩ := rc_end (b := b) (n := n) (m := m) (a := a) (by omega)
      rw [r1, r2, rcK_end (by omega), rcS_end (by omega)]
      exact ⟨rfl, fun _ => rfl⟩
theorem rnK_eq {b : List U} (hb : byteOk b) {a : Int} (ht : thereR b a 4 = true) : rnK b a = rcXK b (getN b a 4) (getN b a 4) (a + 4) ∧ (rnK b a = true → rcX b (getN b a 4) (getN b a 4) (a + 4) = rcS b (getN b a 4) (a + 4)) := by
  have g := getN4 (a := a) hb
  unfold rnK
  rw [ht, Bool.true_and]
  by_cases hn : getN b a 4 ≤ 65536
  · obtain ⟨i1, i2⟩ := rcX_eq (b := b) hn (getN b a 4).toNat (m := getN b a 4) (a := a + 4) (Nat.le_refl _)
    rw [decide_eq_true hn, Bool.true_and, i1]
    exact ⟨rfl, fun h => i2 (by rw [i1]; exact h)⟩
  · rw [decide_eq_false hn, Bool.false_and]
    have := (rc_bad (b := b) (n := getN b a 4) (m := getN b a 4) (a := a + 4) (by omega) (by unfold rc1K; rw [decide_eq_false hn]; simp)).1
    exact ⟨this.symm, fun h => by cases h⟩
theorem mputP_of {c sz bk Q : U} {T S M : List U} (hT : T.length ≤ 512) (hS : ∀ s ∈ S, (e2 s).list.length ≤ 512) (hM : ∀ s ∈ M, (e2 s).list.length ≤ 65535) : mputP [[c, sz, bk, .l T, .l S, .l M, Q]] :=
  ⟨by show T.length ≤ _; omega, fun s hs => by have := hS s hs; omega, fun s hs => by have := hM s hs; omega⟩
theorem none_low {n : Nat} : ∀ s ∈ ([] : List U), (e2 s).list.length ≤ n := fun s hs => by cases hs
theorem mgetX_bad {b : List U} (h : pmK b 0 = false) : [[U.i 0, U.i 0, U.s ⟨#[]⟩, U.l [], U.l [], U.l [], U.l []], [U.i 3]] = mgetX b := by
  unfold mgetX mgK
  rw [h]
  rfl
theorem rget_ok2 : SpecFP PR 19 mgetP mgetS := fun fn us hfn hpre => by
  have hf : PR.funcs[(19 : Nat)]? = some Try.f19 := by kernel_rfl
  rw [hf] at hfn; cases hfn
  refine fn_okH (C := rgC) (mkC_ok eqs0_ok mixed_ok (.consP rmput_ok .nil) (.cons rrnum_ok (.cons rrtext_ok (.cons (rrtab_ok.frz [2097280]) .nil)))) hf (by kernel_rfl) (loops_five (by kernel_rfl) rg_loop0 rg_loop2 rg_loop4 rg_loop6 rg_loop8) fun hok => ?_
  have hp : Try.f19.params.toList = [32] := by kernel_rfl
  rw [hp] at hok
  obtain ⟨b, hus⟩ : ∃ b, us = [[b]] := by
    obtain ⟨u, rfl, h1⟩ := shape1 (by kernel_rfl : Cs PR 32 = some (false, [.sl false [.int .u8]])) hok.1
    obtain ⟨b, rfl⟩ := len1 h1
    exact ⟨b, rfl⟩
  subst hus
  have hbk : byteOk b.list := bytes_ok (hok.2 [.val (.sl false [.int .u8]) b] (by kernel_rfl)).1
  have hS : mgetS [[b]] = mgetX b.list := rfl
  have hb : b.list.length ≤ 1099511627776 := hpre
  rw [hS]
  refine .eq (rg_tree _ b) ?_
  have g1 := getN1 (a := 0) hbk
  refine ⟨⟨⟨rfl, rfl, rfl, hb⟩, rfl, by omega, by omega⟩, bi (fun k1 => ?_) (fun k1 => ?_)⟩
  rotate_left
  · have hR := mgetX_bad (b := b.list) (by unfold pmK; rw [k1]; simp only [Bool.false_and])
    repeat' (first | exact hR | exact mputP_of (by simp) none_low none_low | exact rgIs_rfl | exact hb | exact hbk | exact ⟨rfl, rfl, rfl, hb⟩ | rfl | omega | refine ⟨?_, ?_⟩)
  have i1 := thereR_iff.1 k1
  refine ⟨⟨⟨rfl, rfl, rfl, hb⟩, rfl, by omega, by omega⟩, bi (fun k2 => ?_) (fun k2 => ?_)⟩
  rotate_left
  · have hR := mgetX_bad (b := b.list) (by unfold pmK; rw [k2]; simp only [Bool.false_and, Bool.and_false])
    repeat' (first | exact hR | exact mputP_of (by simp) none_low none_low | exact rgIs_rfl | exact hb | exact hbk | exact ⟨rfl, rfl, rfl, hb⟩ | rfl | omega | refine ⟨?_, ?_⟩)
  have i2 := thereR_iff.1 k2
  refine ⟨⟨⟨rfl, rfl, rfl, hb⟩, rfl⟩, bi (fun k3 => ?_) (fun k3 => ?_)⟩
  rotate_left
  · have hR := mgetX_bad (b := b.list) (by unfold pmK; rw [k3]; simp only [Bool.false_and, Bool.and_false])
    repeat' (first | exact hR | exact mputP_of (by simp) none_low none_low | exact rgIs_rfl | exact hb | exact hbk | exact ⟨rfl, rfl, rfl, hb⟩ | rfl | omega | refine ⟨?_, ?_⟩)
  have i3 := readR_fits k3
  have g3 := getN2 (a := 0 + 1 + 2) hbk
  refine ⟨⟨⟨rfl, rfl, rfl, hb⟩, rfl⟩, bi (fun k4 => ?_) (fun k4 => ?_)⟩
  rotate_left
  · have hR := mgetX_bad (b := b.list) (by unfold pmK; rw [k4]; simp only [Bool.false_and, Bool.and_false])
    have e1 : pm1 b.list 0 = 0 + 1 + 2 + 2 + getN b.list (0 + 1 + 2) 2 := rfl
    repeat' (first | exact hR | exact mputP_of (by simp) none_low none_low | exact rgIs_rfl | exact hb | exact hbk | exact ⟨rfl, rfl, rfl, hb⟩ | rfl | omega | refine ⟨?_, ?_⟩)
  have f4 := tgR_fits k4
  have f4l := tgL_len k4
  have g4 := getN2 (a := pm1 b.list 0) hbk
  have e2' : pm2 b.list 0 = pm1 b.list 0 + 2 + 130 * getN b.list (pm1 b.list 0) 2 := rfl
  refine ⟨⟨⟨rfl, rfl, rfl, hb⟩, rfl, by omega, by omega⟩, bi (fun k5 => ?_) (fun k5 => ?_)⟩
  rotate_left
  · have hR := mgetX_bad (b := b.list) (by unfold pmK; rw [k5]; simp only [Bool.false_and, Bool.and_false])
    repeat' (first | exact hR | exact mputP_of f4l none_low none_low | exact rgIs_rfl | exact hb | exact hbk | exact ⟨rfl, rfl, rfl, hb⟩ | rfl | omega | refine ⟨?_, ?_⟩)
  have i5 := thereR_iff.1 k5
  have g5 := getN1 (a := pm2 b.list 0) hbk
  have f6 : 0 ≤ px3 b.list ∧ px3 b.list ≤ (b.list.length : Int) := shXE_fits hbk (by omega) (by omega)
  have hS1 : ∀ s ∈ pxS b.list, (e2 s).list.length ≤ 512 := shX_low
  have hK1 : pxK1 b.list = shK b.list (getN b.list 0 1) (getN b.list (pm2 b.list 0) 1).toNat (pm2 b.list 0 + 1) := by unfold pxK1 pn1; rw [Int.sub_zero]
  refine ⟨⟨rgIs_rfl, rfl, hb, hbk, by omega, by omega, rfl, rfl, by omega, by omega, by omega, by omega, by omega⟩, ⟨⟨rfl, rfl, rfl, hb⟩, rfl, by omega, by omega⟩, bi (fun k6 => ?_) (fun k6 => ?_)⟩
  rotate_left
  · have hR := mgetX_bad (b := b.list) (by
      unfold pmK
      rw [← hK1]
      cases h1 : pxK1 b.list with
      | false => simp only [Bool.false_and, Bool.and_false]
      | true =>
        have hp := (shX_ok (hK1.symm.trans h1)).2
        have e3 : px3 b.list = pm3 b.list 0 := by unfold px3 pn1 pm3; rw [Int.sub_zero]; exact hp
        rw [h1] at k6
        have k6 : thereR b.list (px3 b.list) 1 = false := k6
        rw [← e3, k6]
        simp only [Bool.false_and, Bool.and_false])
    repeat' (first | exact hR | exact mputP_of f4l hS1 none_low | exact rgIs_rfl | exact hb | exact hbk | exact ⟨rfl, rfl, rfl, hb⟩ | rfl | omega | refine ⟨?_, ?_⟩)
  simp only [Bool.and_eq_true, Bool.not_not] at k6
  obtain ⟨h1, k7⟩ := k6
  have h1' := hK1.symm.trans h1
  obtain ⟨eS, eE⟩ := shX_ok h1'
  have e3 : px3 b.list = pm3 b.list 0 := by unfold px3 pn1 pm3; rw [Int.sub_zero]; exact eE
  have eS' : pxS b.list = pmS b.list 0 := by unfold pxS pn1 pmS; rw [Int.sub_zero]; exact eS
  have i7 := thereR_iff.1 k7
  have g7 := getN1 (a := px3 b.list) hbk
  have f8 : 0 ≤ px4 b.list ∧ px4 b.list ≤ (b.list.length : Int) := bmXE_fits hbk (by omega) (by omega)
  have hM1 : ∀ s ∈ pxM b.list, (e2 s).list.length ≤ 65535 := bmX_low hbk
  obtain ⟨hK2, hX2⟩ := bmX_ok hbk (m := pn2 b.list) (a := px3 b.list + 1)
  have hn2 : pn2 b.list = (getN b.list (px3 b.list) 1).toNat := by unfold pn2; rw [Int.sub_zero]
  have h4n : bmXK b.list (pn2 b.list) (px3 b.list + 1) = true → px4 b.list = pm4 b.list 0 := fun h => by
    unfold px4
    rw [(hX2 h).2, hn2, e3]
    rfl
  refine ⟨⟨rgIs_rfl, rfl, hb, hbk, by omega, by omega, rfl, rfl, by omega, by omega, by omega, by omega⟩, ⟨⟨rfl, rfl, rfl, hb⟩, rfl, by omega, by omega⟩, bi (fun k8 => ?_) (fun k8 => ?_)⟩
  rotate_left
  · have hR := mgetX_bad (b := b.list) (by
      unfold pmK
      rw [← e3, ← hn2, ← hK2]
      cases h2 : bmXK b.list (pn2 b.list) (px3 b.list + 1) with
      | false => simp only [Bool.false_and, Bool.and_false]
      | true =>
        have k8 : (!!pxK2 b.list && thereR b.list (px4 b.list) 4) = false := k8
        rw [show pxK2 b.list = true from h2] at k8
        have k8 : thereR b.list (px4 b.list) 4 = false := k8
        rw [← h4n h2]
        unfold rnK
        rw [k8]
        simp only [Bool.false_and, Bool.and_false])
    repeat' (first | exact hR | exact mputP_of f4l hS1 hM1 | exact rgIs_rfl | exact hb | exact hbk | exact ⟨rfl, rfl, rfl, hb⟩ | rfl | omega | refine ⟨?_, ?_⟩)
  simp only [Bool.and_eq_true, Bool.not_not] at k8
  obtain ⟨h2, k9⟩ := k8
  have h2' : bmXK b.list (pn2 b.list) (px3 b.list + 1) = true := h2
  have e4 := h4n h2'
  have eM' : pxM b.list = pmM b.list 0 := by
    unfold pxM
    rw [(hX2 h2').1, hn2, e3]
    rfl
  have i9 := thereR_iff.1 k9
  have g9 := getN4 (a := px4 b.list) hbk
  obtain ⟨r1, r2⟩ := rnK_eq hbk k9
  have z0 : ((0 : Nat) : Int) = 0 := rfl
  have hK3 : pxK3 b.list = rnK b.list (px4 b.list) := by unfold pxK3 pn3; rw [z0, Int.sub_zero]; exact r1.symm
  refine ⟨⟨rgIs_rfl, rfl, hb, hbk, by omega, by omega, rfl, rfl, by omega, by omega, by omega, by omega⟩, mputP_of f4l hS1 hM1, ?_⟩
  have hpm : pmK b.list 0 = pxK3 b.list := by
    unfold pmK
    rw [k1, show thereR b.list (0 + 1) 2 = true from k2, show readR b.list (0 + 1 + 2) = true from k3, k4, k5, h1', ← e3, k7, ← hn2, ← hK2, h2', ← e4, hK3]
    rfl
  refine bi (fun k10 => ?_) (fun k10 => ?_)
  · exact mgetX_bad (by rw [hpm]; exact nt k10)
  have k10 := nf k10
  have eQ' : pxQ b.list = pmQ b.list 0 := by
    unfold pxQ pn3 pmQ
    rw [z0, Int.sub_zero, r2 (by rw [← hK3]; exact k10), e4]
  simp only [List.nil_append, eS', eM', eQ']
  unfold mgetX mgK
  rw [hpm, k10]
  simp only [Bool.true_and]
  refine bi (fun k11 => ?_) (fun k11 => ?_)
  · rw [show (metaE (U.i (getN b.list 0 1)) (U.i (getN b.list 1 2)) (U.s (readV b.list 3)) (U.l (tgL b.list (pm1 b.list 0))) (U.l (pmS b.list 0)) (U.l (pmM b.list 0)) (U.l (pmQ b.list 0)) == 0) = false by simpa using k11]
    rfl
  · rw [show (metaE (U.i (getN b.list 0 1)) (U.i (getN b.list 1 2)) (U.s (readV b.list 3)) (U.l (tgL b.list (pm1 b.list 0))) (U.l (pmS b.list 0)) (U.l (pmM b.list 0)) (U.l (pmQ b.list 0)) == 0) = true by simpa using k11]
    refine bi (fun k12 => ?_) (fun k12 => ?_)
    · rw [show mgB (metaX (U.i (getN b.list 0 1)) (U.i (getN b.list 1 2)) (U.s (readV b.list 3)) (U.l (tgL b.list (pm1 b.list 0))) (U.l (pmS b.list 0)) (U.l (pmM b.list 0)) (U.l (pmQ b.list 0))) b.list = false from nt k12]
      rfl
    · rw [show mgB (metaX (U.i (getN b.list 0 1)) (U.i (getN b.list 1 2)) (U.s (readV b.list 3)) (U.l (tgL b.list (pm1 b.list 0))) (U.l (pmS b.list 0)) (U.l (pmM b.list 0)) (U.l (pmQ b.list 0))) b.list = true from nf k12]
      rfl
end Go.Mat

namespace Go.Mat
open Go Go.Den Go.Proofs
noncomputable def getsC : Ctx := mkC PR eqs0 (fnsConsP 18 mgetP mgetS (fnsConsP 19 mgetP mgetS (fnsCons 14 errS (fnsCons 11 trueS (fnsCons 17 sameS fnsNil))))) trsNil noLoops noOut noOut
theorem gets_tree (R : RF) (b : U) : (run getsC Try.f6 [[b]] R) = (bif decide ((↑(List.length b.list) : Int) > 9000) then R [[U.b true]] else mgetP [[b]] ∧ mgetP [[b]] ∧ bif metaEq (U.i (bif mgK b.list then getN b.list 0 1 else (0 : Int))) (U.i (bif mgK b.list then getN
  b.list 1 2 else (0 : Int))) (U.s (bif mgK b.list then readV b.list 3 else ByteArray.mk #[])) (U.l (bif mgK b.list then tgL b.list (pm1 b.list 0) else [])) (U.l (bif mgK b.list then pmS b.list 0 else []))
  (U.l (bif mgK b.list then pmM b.list 0 else [])) (U.l (bif mgK b.list then pmQ b.list 0 else [])) (U.i (bif mgK b.list then getN b.list 0 1 else (0 : Int))) (U.i (bif mgK b.list then getN b.list 1 2 else
  (0 : Int))) (U.s (bif mgK b.list then readV b.list 3 else ByteArray.mk #[])) (U.l (bif mgK b.list then tgL b.list (pm1 b.list 0) else [])) (U.l (bif mgK b.list then pmS b.list 0 else [])) (U.l (bif mgK
  b.list then pmM b.list 0 else [])) (U.l (bif mgK b.list then pmQ b.list 0 else [])) then bif (bif mgK b.list then (0 : Int) else (3 : Int)) == bif mgK b.list then (0 : Int) else (3 : Int) then R [[U.b
  true]] else R [[U.b false]] else R [[U.b false]]) := by kernel_rfl
end Go.Mat

namespace Go.Mat
open Go Go.Den Go.Proofs
theorem entsE_self : ∀ l : List U, entsE l l = true
  | [] => rfl
  | x :: r => by
    rw [entsE, entsE_self r]
    unfold entE
    simp
theorem tabE_self : ∀ L : List U, tabE L L = true
  | [] => rfl
  | x :: r => by rw [tabE, entsE_self, tabE_self r]; rfl
theorem spansE_self : ∀ l : List U, spansE l l = true
  | [] => rfl
  | x :: r => by
    rw [spansE, spansE_self r]
    unfold spanE
    simp
theorem mapsE_self : ∀ l : List U, mapsE l l = true
  | [] => rfl
  | x :: r => by
    rw [mapsE, mapsE_self r]
    unfold mapE
    rw [spansE_self]
    simp
theorem shotsE_self : ∀ l : List U, shotsE l l = true
  | [] => rfl
  | x :: r => by
    rw [shotsE, shotsE_self r]
    unfold shotE
    rw [tabE_self]
    simp
theorem metaEq_self (c sz bk T S M Q : U) : metaEq c sz bk T S M Q c sz bk T S M Q = true := by
  unfold metaEq
  rw [tabE_self, mapsE_self, shotsE_self, intsE_iff.2 rfl]
  simp
theorem lawgets_ok : SpecF PR 6 trueS := fun fn us hfn => by
  have hf : PR.funcs[(6 : Nat)]? = some Try.f6 := by kernel_rfl
  rw [hf] at hfn; cases hfn
  refine fn_okH (C := getsC) (mkC_ok eqs0_ok mixed_ok (.consP mget_ok (.consP rget_ok2 (.cons err_ok (.cons awake_ok (.cons same_ok .nil))))) .nil) hf (by kernel_rfl) (loops_none (by kernel_rfl)) fun hok => ?_
  have hp : Try.f6.params.toList = [32] := by kernel_rfl
  rw [hp] at hok
  obtain ⟨b, hus⟩ : ∃ b, us = [[b]] := by
    obtain ⟨u, rfl, h1⟩ := shape1 (by kernel_rfl : Cs PR 32 = some (false, [.sl false [.int .u8]])) hok.1
    obtain ⟨b, rfl⟩ := len1 h1
    exact ⟨b, rfl⟩
  subst hus
  refine .eq (gets_tree _ b) ?_
  refine bd (fun _ => rfl) (fun hl => ?_)
  have hp : mgetP [[b]] := by show b.list.length ≤ 1099511627776; omega
  refine ⟨hp, hp, ?_⟩
  rw [metaEq_self]
  simp
  rfl
end Go.Mat
