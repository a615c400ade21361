/- A part of the proof of this: Of any bytes meta.Get and the document's Get tell the same meta, or both refuse them. Conditions: none. Joined of B31, F31, B32, F32, B33, F33, B34, F34, B35, F35, B36, F36, B38, F38, B37, F37, F40, B40, F41, F43, F44. -/
import Derived.Test.YtmgncojckndckaaC4
import Derived.KernelRfl
namespace Go.Mat
open Go Go.Den Go.Proofs
abbrev toStr (l : List U) : ByteArray := ⟨(l.map fun x => UInt8.ofNat x.int.toNat).toArray⟩
def readR (b : List U) (a : Int) : Bool := thereR b a 2 && thereR b (a + 2) (getN b a 2)
def readV (b : List U) (a : Int) : ByteArray := bif readR b a then toStr (sub b (a + 2) (getN b a 2)) else ⟨#[]⟩
def readA (b : List U) (a : Int) : Int := bif readR b a then a + 2 + getN b a 2 else 0
def readE (b : List U) (a : Int) : Int := bif readR b a then 0 else 6
def readP : List (List U) → Prop := fun us => (nth (.i 0) (nth [] us 0) 0).list.length ≤ 1099511627776
def readS : List (List U) → List (List U) := fun us => [[.s (readV (nth (.i 0) (nth [] us 0) 0).list (nth (.i 0) (nth [] us 1) 0).int)], [.i (readA (nth (.i 0) (nth [] us 0) 0).list (nth (.i 0) (nth [] us 1) 0).int)], [.i (readE (nth (.i 0) (nth [] us 0) 0).list (nth (.i 0) (nth [] us 1) 0).int)]]
noncomputable def readC : Ctx := mkC PR eqs0 (fnsConsP 80 thereP thereS (fnsConsP 72 getP getS fnsNil)) trsNil noLoops noOut noOut
theorem read_tree (R : RF) (b a : U) : (run readC Try.f73 [[b], [a]] R) = (getP [[b], [a], [U.i (2 : Int)], [U.b false]] ∧ bif getE (U.list b) (U.int a) (2 : Int) != (0 : Int) then R [[U.s (ByteArray.mk #[])], [U.i (0 : Int)], [U.i (6 : Int)]] else thereP [[b], [U.i (IntKind.wrap
  IntKind.i64 (U.int a + (2 : Int)))], [U.i (IntKind.wrap IntKind.i64 (getN (U.list b) (U.int a) (2 : Int)))]] ∧ bif !thereR (U.list b) (IntKind.wrap IntKind.i64 (U.int a + (2 : Int))) (IntKind.wrap IntKind.i64
  (getN (U.list b) (U.int a) (2 : Int))) then R [[U.s (ByteArray.mk #[])], [U.i (0 : Int)], [U.i (6 : Int)]] else R [[U.s (ByteArray.mk (List.toArray (List.map (fun x => UInt8.ofNat (Int.toNat (U.int x)))
  (bif thereR (U.list b) (IntKind.wrap IntKind.i64 (U.int a + (2 : Int))) (IntKind.wrap IntKind.i64 (getN (U.list b) (U.int a) (2 : Int))) then sub (U.list b) (IntKind.wrap IntKind.i64 (U.int a + (2 : Int)))
  (IntKind.wrap IntKind.i64 (getN (U.list b) (U.int a) (2 : Int))) else []))))], [U.i (IntKind.wrap IntKind.i64 (IntKind.wrap IntKind.i64 (U.int a + (2 : Int)) + IntKind.wrap IntKind.i64 (getN (U.list b)
  (U.int a) (2 : Int))))], [U.i (0 : Int)]]) := by kernel_rfl
noncomputable def rreadC : Ctx := mkC PR eqs0 (fnsConsP 62 getP getS fnsNil) trsNil noLoops noOut noOut
theorem rread_tree (R : RF) (b a : U) : (run rreadC Try.f63 [[b], [a]] R) = (getP [[b], [a], [U.i (2 : Int)], [U.b false]] ∧ bif getE b.list a.int (2 : Int) != (0 : Int) then R [[U.s ⟨#[]⟩], [U.i (0 : Int)], [U.i (6 : Int)]] else bif decide (IntKind.wrap .i64 (IntKind.wrap .i64 ((b.list.length : Int) - a.int) - (2 : Int)) < IntKind.wrap .i64 (getN b.list a.int (2 : Int))) then R [[U.s ⟨#[]⟩], [U.i (0 : Int)], [U.i (6 : Int)]] else bif decide ((0 : Int) ≤ IntKind.wrap .i64 (a.int + (2 : Int)) ∧ IntKind.wrap .i64 (a.int + (2 : Int)) ≤ IntKind.wrap .i64 (IntKind.wrap .i64 (a.int + (2 : Int)) + IntKind.wrap .i64 (getN b.list a.int (2 : Int))) ∧ IntKind.wrap .i64 (IntKind.wrap .i64 (a.int + (2 : Int)) + IntKind.wrap .i64 (getN b.list a.int (2 : Int))) ≤ IntKind.wrap .i64 (IntKind.wrap .i64 (a.int + (2 : Int)) + IntKind.wrap .i64 (getN b.list a.int (2 : Int))) ∧ IntKind.wrap .i64 (IntKind.wrap .i64 (a.int + (2 : Int)) + IntKind.wrap .i64 (getN b.list a.int (2 : Int))) ≤ (b.list.length : Int)) && true then R [[U.s (ByteArray.mk (List.toArray (List.map (fun x => UInt8.ofNat (Int.toNat x.int)) (List.drop (Int.toNat (IntKind.wrap .i64 (a.int + (2 : Int)))) (List.take (Int.toNat (IntKind.wrap .i64 (IntKind.wrap .i64 (a.int + (2 : Int)) + IntKind.wrap .i64 (getN b.list a.int (2 : Int))))) b.list)))))], [U.i (IntKind.wrap .i64 (IntKind.wrap .i64 (a.int + (2 : Int)) + IntKind.wrap .i64 (getN b.list a.int (2 : Int))))], [U.i (0 : Int)]] else False) := by kernel_rfl
def atP : List (List U) → Prop := fun us => 1 ≤ (nth (.i 0) (nth [] us 2) 0).int ∧ (nth (.i 0) (nth [] us 2) 0).int ≤ 4 ∧ (nth (.i 0) (nth [] us 0) 0).list.length ≤ 1099511627776
def atS : List (List U) → List (List U) := fun us => [[.i (IntKind.wrap .i64 (getN (nth (.i 0) (nth [] us 0) 0).list (nth (.i 0) (nth [] us 1) 0).int (nth (.i 0) (nth [] us 2) 0).int))]]
theorem at_tree (R : RF) (b a n : U) : (run rreadC Try.f75 [[b], [a], [n]] R) = (getP [[b], [a], [n], [U.b false]] ∧ R [[U.i (IntKind.wrap IntKind.i64 (getN (U.list b) (U.int a) (U.int n)))]]) := by kernel_rfl
noncomputable def cloF : Tr := fun vs objs k => match vs, objs with
  | [.val (.int .i64) a, .val (.int .i64) n, .ptr p o], [(i, .box [.val (.sl false [.int .u8]) b])] =>
    (p = 2097153 ∧ o = 0 ∧ i = 2097153 ∧ 1 ≤ n.int ∧ n.int ≤ 4 ∧ b.list.length ≤ 1099511627776) ∧ k (.ret [vi (.i (IntKind.wrap .i64 (getN b.list a.int n.int)))]) [(2097153, .box [vl (.int .u8) b])]
  | _, _ => False
noncomputable def cloC : Ctx := mkC PR eqs0 (fnsConsP 72 getP getS fnsNil) trsNil noLoops noOut noOut
theorem clo_tree (R : RT) (a n b : U) : (runD cloC Try.f82 [vi a, vi n, .ptr 2097153 0] [(2097153, .box [vl (.int .u8) b])] R) = (getP [[b], [a], [n], [U.b false]] ∧ R (Out.ret [SV.val (Ct.int IntKind.i64) (U.i (IntKind.wrap IntKind.i64 (getN (U.list b) (U.int a) (U.int n))))]) [(nat_lit 2097153, Obj.box [SV.val (Ct.sl false [Ct.int
  IntKind.u8]) b])]) := by kernel_rfl
def eK (b : List U) : Int := (U.at b 0).int
def eC (b : List U) : Int := getN b 2 2
def eS (b : List U) : Int := getN b 4 4
def eZ (b : List U) : Int := getN b 8 4
def eM (b : List U) : Int := getN b 12 4
def egetR (b : List U) (k : Int) : Bool := decide (b.length = 16) && ((U.at b 1).int == 0) && mayR (eK b) (eS b) (eC b) (eZ b) (eM b) k
def egetS : List (List U) → List (List U) := fun us =>
  [[.i (bif egetR (nth (.i 0) (nth [] us 0) 0).list (nth (.i 0) (nth [] us 1) 0).int then eK (nth (.i 0) (nth [] us 0) 0).list else 0), .i (bif egetR (nth (.i 0) (nth [] us 0) 0).list (nth (.i 0) (nth [] us 1) 0).int then eS (nth (.i 0) (nth [] us 0) 0).list else 0),
    .i (bif egetR (nth (.i 0) (nth [] us 0) 0).list (nth (.i 0) (nth [] us 1) 0).int then eC (nth (.i 0) (nth [] us 0) 0).list else 0), .i (bif egetR (nth (.i 0) (nth [] us 0) 0).list (nth (.i 0) (nth [] us 1) 0).int then eZ (nth (.i 0) (nth [] us 0) 0).list else 0),
    .i (bif egetR (nth (.i 0) (nth [] us 0) 0).list (nth (.i 0) (nth [] us 1) 0).int then eM (nth (.i 0) (nth [] us 0) 0).list else 0)], [.i (bif egetR (nth (.i 0) (nth [] us 0) 0).list (nth (.i 0) (nth [] us 1) 0).int then 0 else 3)]]
noncomputable def egetC : Ctx := mkC PR eqs0 (fnsCons 65 mayS fnsNil) (trsCons 82 [false, false] cloF trsNil) noLoops noOut noOut
theorem eget_tree (R : RF) (b k : U) : (run egetC Try.f81 [[b], [k]] R) = (bif (b.list.length : Int) != (16 : Int) then R [[U.i (0 : Int), U.i (0 : Int), U.i (0 : Int), U.i (0 : Int), U.i (0 : Int)], [U.i (3 : Int)]] else bif decide ((0 : Int) ≤ (1 : Int) ∧ (1 : Int) < (b.list.length : Int)) then bif U.int (nth (U.i (0 : Int)) b.list (Int.toNat (1 : Int))) != (0 : Int) then R [[U.i (0 : Int), U.i (0 : Int), U.i (0 : Int), U.i (0 : Int), U.i (0 : Int)], [U.i (3 : Int)]] else Alt (bif decide ((0 : Int) ≤ (0 : Int) ∧ (0 : Int) < (b.list.length : Int)) then Alt ((nat_lit 2097153 = nat_lit 2097153 ∧ nat_lit 0 = nat_lit 0 ∧ nat_lit 2097153 = nat_lit 2097153 ∧ (1 : Int) ≤ (2 : Int) ∧ (2 : Int) ≤ (4 : Int) ∧ b.list.length ≤ (1099511627776 : Nat)) ∧ Alt ((nat_lit 2097153 = nat_lit 2097153 ∧ nat_lit 0 = nat_lit 0 ∧ nat_lit 2097153 = nat_lit 2097153 ∧ (1 : Int) ≤ (4 : Int) ∧ (4 : Int) ≤ (4 : Int) ∧ b.list.length ≤ (1099511627776 : Nat)) ∧ Alt ((nat_lit 2097153 = nat_lit 2097153 ∧ nat_lit 0 = nat_lit 0 ∧ nat_lit 2097153 = nat_lit 2097153 ∧ (1 : Int) ≤ (4 : Int) ∧ (4 : Int) ≤ (4 : Int) ∧ b.list.length ≤ (1099511627776 : Nat)) ∧ (fun T => Alt T T) ((nat_lit 2097153 = nat_lit 2097153 ∧ nat_lit 0 = nat_lit 0 ∧ nat_lit 2097153 = nat_lit 2097153 ∧ (1 : Int) ≤ (4 : Int) ∧ (4 : Int) ≤ (4 : Int) ∧ b.list.length ≤ (1099511627776 : Nat)) ∧ bif !mayR (IntKind.wrap .i64 (U.int (nth (U.i (0 : Int)) b.list (Int.toNat (0 : Int))))) (IntKind.wrap .i64 (getN b.list (4 : Int) (4 : Int))) (IntKind.wrap .i64 (getN b.list (2 : Int) (2 : Int))) (IntKind.wrap .i64 (getN b.list (8 : Int) (4 : Int))) (IntKind.wrap .u32 (IntKind.wrap .i64 (getN b.list (12 : Int) (4 : Int)))) k.int then R [[U.i (0 : Int), U.i (0 : Int), U.i (0 : Int), U.i (0 : Int), U.i (0 : Int)], [U.i (3 : Int)]] else R [[U.i (IntKind.wrap .i64 (U.int (nth (U.i (0 : Int)) b.list (Int.toNat (0 : Int))))), U.i (IntKind.wrap .i64 (getN b.list (4 : Int) (4 : Int))), U.i (IntKind.wrap .i64 (getN b.list (2 : Int) (2 : Int))), U.i (IntKind.wrap .i64 (getN b.list (8 : Int) (4 : Int))), U.i (IntKind.wrap .u32 (IntKind.wrap .i64 (getN b.list (12 : Int) (4 : Int))))], [U.i (0 : Int)]])) ((nat_lit 2097153 = nat_lit 2097153 ∧ nat_lit 0 = nat_lit 0 ∧ nat_lit 2097153 = nat_lit 2097153 ∧ (1 : Int) ≤ (4 : Int) ∧ (4 : Int) ≤ (4 : Int) ∧ b.list.length ≤ (1099511627776 : Nat)) ∧ (nat_lit 2097153 = nat_lit 2097153 ∧ nat_lit 0 = nat_lit 0 ∧ nat_lit 2097153 = nat_lit 2097153 ∧ (1 : Int) ≤ (4 : Int) ∧ (4 : Int) ≤ (4 : Int) ∧ b.list.length ≤ (1099511627776 : Nat)) ∧ bif !mayR (IntKind.wrap .i64 (U.int (nth (U.i (0 : Int)) b.list (Int.toNat (0 : Int))))) (IntKind.wrap .i64 (getN b.list (4 : Int) (4 : Int))) (IntKind.wrap .i64 (getN b.list (2 : Int) (2 : Int))) (IntKind.wrap .i64 (getN b.list (8 : Int) (4 : Int))) (IntKind.wrap .u32 (IntKind.wrap .i64 (getN b.list (12 : Int) (4 : Int)))) k.int then R [[U.i (0 : Int), U.i (0 : Int), U.i (0 : Int), U.i (0 : Int), U.i (0 : Int)], [U.i (3 : Int)]] else R [[U.i (IntKind.wrap .i64 (U.int (nth (U.i (0 : Int)) b.list (Int.toNat (0 : Int))))), U.i (IntKind.wrap .i64 (getN b.list (4 : Int) (4 : Int))), U.i (IntKind.wrap .i64 (getN b.list (2 : Int) (2 : Int))), U.i (IntKind.wrap .i64 (getN b.list (8 : Int) (4 : Int))), U.i (IntKind.wrap .u32 (IntKind.wrap .i64 (getN b.list (12 : Int) (4 : Int))))], [U.i (0 : Int)]])) ((nat_lit 2097153 = nat_lit 2097153 ∧ nat_lit 0 = nat_lit 0 ∧ nat_lit 2097153 = nat_lit 2097153 ∧ (1 : Int) ≤ (4 : Int) ∧ (4 : Int) ≤ (4 : Int) ∧ b.list.length ≤ (1099511627776 : Nat)) ∧ (nat_lit 2097153 = nat_lit 2097153 ∧ nat_lit 0 = nat_lit 0 ∧ nat_lit 2097153 = nat_lit 2097153 ∧ (1 : Int) ≤ (4 : Int) ∧ (4 : Int) ≤ (4 : Int) ∧ b.list.length ≤ (1099511627776 : Nat)) ∧ (nat_lit 2097153 = nat_lit 2097153 ∧ nat_lit 0 = nat_lit 0 ∧ nat_lit 2097153 = nat_lit 2097153 ∧ (1 : Int) ≤ (4 : Int) ∧ (4 : Int) ≤ (4 : Int) ∧ b.list.length ≤ (1099511627776 : Nat)) ∧ bif !mayR (IntKind.wrap .i64 (U.int (nth (U.i (0 : Int)) b.list (Int.toNat (0 : Int))))) (IntKind.wrap .i64 (getN b.list (4 : Int) (4 : Int))) (IntKind.wrap .i64 (getN b.list (2 : Int) (2 : Int))) (IntKind.wrap .i64 (getN b.list (8 : Int) (4 : Int))) (IntKind.wrap .u32 (IntKind.wrap .i64 (getN b.list (12 : Int) (4 : Int)))) k.int then R [[U.i (0 : Int), U.i (0 : Int), U.i (0 : Int), U.i (0 : Int), U.i (0 : Int)], [U.i (3 : Int)]] else R [[U.i (IntKind.wrap .i64 (U.int (nth (U.i (0 : Int)) b.list (Int.toNat (0 : Int))))), U.i (IntKind.wrap .i64 (getN b.list (4 : Int) (4 : Int))), U.i (IntKind.wrap .i64 (getN b.list (2 : Int) (2 : Int))), U.i (IntKind.wrap .i64 (getN b.list (8 : Int) (4 : Int))), U.i (IntKind.wrap .u32 (IntKind.wrap .i64 (getN b.list (12 : Int) (4 : Int))))], [U.i (0 : Int)]])) ((nat_lit 2097153 = nat_lit 2097153 ∧ nat_lit 0 = nat_lit 0 ∧ nat_lit 2097153 = nat_lit 2097153 ∧ (1 : Int) ≤ (2 : Int) ∧ (2 : Int) ≤ (4 : Int) ∧ b.list.length ≤ (1099511627776 : Nat)) ∧ (nat_lit 2097153 = nat_lit 2097153 ∧ nat_lit 0 = nat_lit 0 ∧ nat_lit 2097153 = nat_lit 2097153 ∧ (1 : Int) ≤ (4 : Int) ∧ (4 : Int) ≤ (4 : Int) ∧ b.list.length ≤ (1099511627776 : Nat)) ∧ (nat_lit 2097153 = nat_lit 2097153 ∧ nat_lit 0 = nat_lit 0 ∧ nat_lit 2097153 = nat_lit 2097153 ∧ (1 : Int) ≤ (4 : Int) ∧ (4 : Int) ≤ (4 : Int) ∧ b.list.length ≤ (1099511627776 : Nat)) ∧ (nat_lit 2097153 = nat_lit 2097153 ∧ nat_lit 0 = nat_lit 0 ∧ nat_lit 2097153 = nat_lit 2097153 ∧ (1 : Int) ≤ (4 : Int) ∧ (4 : Int) ≤ (4 : Int) ∧ b.list.length ≤ (1099511627776 : Nat)) ∧ bif !mayR (IntKind.wrap .i64 (U.int (nth (U.i (0 : Int)) b.list (Int.toNat (0 : Int))))) (IntKind.wrap .i64 (getN b.list (4 : Int) (4 : Int))) (IntKind.wrap .i64 (getN b.list (2 : Int) (2 : Int))) (IntKind.wrap .i64 (getN b.list (8 : Int) (4 : Int))) (IntKind.wrap .u32 (IntKind.wrap .i64 (getN b.list (12 : Int) (4 : Int)))) k.int then R [[U.i (0 : Int), U.i (0 : Int), U.i (0 : Int), U.i (0 : Int), U.i (0 : Int)], [U.i (3 : Int)]] else R [[U.i (IntKind.wrap .i64 (U.int (nth (U.i (0 : Int)) b.list (Int.toNat (0 : Int))))), U.i (IntKind.wrap .i64 (getN b.list (4 : Int) (4 : Int))), U.i (IntKind.wrap .i64 (getN b.list (2 : Int) (2 : Int))), U.i (IntKind.wrap .i64 (getN b.list (8 : Int) (4 : Int))), U.i (IntKind.wrap .u32 (IntKind.wrap .i64 (getN b.list (12 : Int) (4 : Int))))], [U.i (0 : Int)]]) else False) (Alt ((nat_lit 2097153 = nat_lit 2097153 ∧ nat_lit 0 = nat_lit 0 ∧ nat_lit 2097153 = nat_lit 2097153 ∧ (1 : Int) ≤ (2 : Int) ∧ (2 : Int) ≤ (4 : Int) ∧ b.list.length ≤ (1099511627776 : Nat)) ∧ Alt (bif decide ((0 : Int) ≤ (0 : Int) ∧ (0 : Int) < (b.list.length : Int)) then Alt ((nat_lit 2097153 = nat_lit 2097153 ∧ nat_lit 0 = nat_lit 0 ∧ nat_lit 2097153 = nat_lit 2097153 ∧ (1 : Int) ≤ (4 : Int) ∧ (4 : Int) ≤ (4 : Int) ∧ b.list.length ≤ (1099511627776 : Nat)) ∧ Alt ((nat_lit 2097153 = nat_lit 2097153 ∧ nat_lit 0 = nat_lit 0 ∧ nat_lit 2097153 = nat_lit 2097153 ∧ (1 : Int) ≤ (4 : Int) ∧ (4 : Int) ≤ (4 : Int) ∧ b.list.length ≤ (1099511627776 : Nat)) ∧ (fun T => Alt T T) ((nat_lit 2097153 = nat_lit 2097153 ∧ nat_lit 0 = nat_lit 0 ∧ nat_lit 2097153 = nat_lit 2097153 ∧ (1 : Int) ≤ (4 : Int) ∧ (4 : Int) ≤ (4 : Int) ∧ b.list.length ≤ (1099511627776 : Nat)) ∧ bif !mayR (IntKind.wrap .i64 (U.int (nth (U.i (0 : Int)) b.list (Int.toNat (0 : Int))))) (IntKind.wrap .i64 (getN b.list (4 : Int) (4 : Int))) (IntKind.wrap .i64 (getN b.list (2 : Int) (2 : Int))) (IntKind.wrap .i64 (getN b.list (8 : Int) (4 : Int))) (IntKind.wrap .u32 (IntKind.wrap .i64 (getN b.list (12 : Int) (4 : Int)))) k.int then R [[U.i (0 : Int), U.i (0 : Int), U.i (0 : Int), U.i (0 : Int), U.i (0 : Int)], [U.i (3 : Int)]] else R [[U.i (IntKind.wrap .i64 (U.int (nth (U.i (0 : Int)) b.list (Int.toNat (0 : Int))))), U.i (IntKind.wrap .i64 (getN b.list (4 : Int) (4 : Int))), U.i (IntKind.wrap .i64 (getN b.list (2 : Int) (2 : Int))), U.i (IntKind.wrap .i64 (getN b.list (8 : Int) (4 : Int))), U.i (IntKind.wrap .u32 (IntKind.wrap .i64 (getN b.list (12 : Int) (4 : Int))))], [U.i (0 : Int)]])) ((nat_lit 2097153 = nat_lit 2097153 ∧ nat_lit 0 = nat_lit 0 ∧ nat_lit 2097153 = nat_lit 2097153 ∧ (1 : Int) ≤ (4 : Int) ∧ (4 : Int) ≤ (4 : Int) ∧ b.list.length ≤ (1099511627776 : Nat)) ∧ (nat_lit 2097153 = nat_lit 2097153 ∧ nat_lit 0 = nat_lit 0 ∧ nat_lit 2097153 = nat_lit 2097153 ∧ (1 : Int) ≤ (4 : Int) ∧ (4 : Int) ≤ (4 : Int) ∧ b.list.length ≤ (1099511627776 : Nat)) ∧ bif !mayR (IntKind.wrap .i64 (U.int (nth (U.i (0 : Int)) b.list (Int.toNat (0 : Int))))) (IntKind.wrap .i64 (getN b.list (4 : Int) (4 : Int))) (IntKind.wrap .i64 (getN b.list (2 : Int) (2 : Int))) (IntKind.wrap .i64 (getN b.list (8 : Int) (4 : Int))) (IntKind.wrap .u32 (IntKind.wrap .i64 (getN b.list (12 : Int) (4 : Int)))) k.int then R [[U.i (0 : Int), U.i (0 : Int), U.i (0 : Int), U.i (0 : Int), U.i (0 : Int)], [U.i (3 : Int)]] else R [[U.i (IntKind.wrap .i64 (U.int (nth (U.i (0 : Int)) b.list (Int.toNat (0 : Int))))), U.i (IntKind.wrap .i64 (getN b.list (4 : Int) (4 : Int))), U.i (IntKind.wrap .i64 (getN b.list (2 : Int) (2 : Int))), U.i (IntKind.wrap .i64 (getN b.list (8 : Int) (4 : Int))), U.i (IntKind.wrap .u32 (IntKind.wrap .i64 (getN b.list (12 : Int) (4 : Int))))], [U.i (0 : Int)]])) ((nat_lit 2097153 = nat_lit 2097153 ∧ nat_lit 0 = nat_lit 0 ∧ nat_lit 2097153 = nat_lit 2097153 ∧ (1 : Int) ≤ (4 : Int) ∧ (4 : Int) ≤ (4 : Int) ∧ b.list.length ≤ (1099511627776 : Nat)) ∧ (nat_lit 2097153 = nat_lit 2097153 ∧ nat_lit 0 = nat_lit 0 ∧ nat_lit 2097153 = nat_lit 2097153 ∧ (1 : Int) ≤ (4 : Int) ∧ (4 : Int) ≤ (4 : Int) ∧ b.list.length ≤ (1099511627776 : Nat)) ∧ (nat_lit 2097153 = nat_lit 2097153 ∧ nat_lit 0 = nat_lit 0 ∧ nat_lit 2097153 = nat_lit 2097153 ∧ (1 : Int) ≤ (4 : Int) ∧ (4 : Int) ≤ (4 : Int) ∧ b.list.length ≤ (1099511627776 : Nat)) ∧ bif !mayR (IntKind.wrap .i64 (U.int (nth (U.i (0 : Int)) b.list (Int.toNat (0 : Int))))) (IntKind.wrap .i64 (getN b.list (4 : Int) (4 : Int))) (IntKind.wrap .i64 (getN b.list (2 : Int) (2 : Int))) (IntKind.wrap .i64 (getN b.list (8 : Int) (4 : Int))) (IntKind.wrap .u32 (IntKind.wrap .i64 (getN b.list (12 : Int) (4 : Int)))) k.int then R [[U.i (0 : Int), U.i (0 : Int), U.i (0 : Int), U.i (0 : Int), U.i (0 : Int)], [U.i (3 : Int)]] else R [[U.i (IntKind.wrap .i64 (U.int (nth (U.i (0 : Int)) b.list (Int.toNat (0 : Int))))), U.i (IntKind.wrap .i64 (getN b.list (4 : Int) (4 : Int))), U.i (IntKind.wrap .i64 (getN b.list (2 : Int) (2 : Int))), U.i (IntKind.wrap .i64 (getN b.list (8 : Int) (4 : Int))), U.i (IntKind.wrap .u32 (IntKind.wrap .i64 (getN b.list (12 : Int) (4 : Int))))], [U.i (0 : Int)]]) else False) (Alt ((nat_lit 2097153 = nat_lit 2097153 ∧ nat_lit 0 = nat_lit 0 ∧ nat_lit 2097153 = nat_lit 2097153 ∧ (1 : Int) ≤ (4 : Int) ∧ (4 : Int) ≤ (4 : Int) ∧ b.list.length ≤ (1099511627776 : Nat)) ∧ Alt (bif decide ((0 : Int) ≤ (0 : Int) ∧ (0 : Int) < (b.list.length : Int)) then Alt ((nat_lit 2097153 = nat_lit 2097153 ∧ nat_lit 0 = nat_lit 0 ∧ nat_lit 2097153 = nat_lit 2097153 ∧ (1 : Int) ≤ (4 : Int) ∧ (4 : Int) ≤ (4 : Int) ∧ b.list.length ≤ (1099511627776 : Nat)) ∧ (fun T => Alt T T) ((nat_lit 2097153 = nat_lit 2097153 ∧ nat_lit 0 = nat_lit 0 ∧ nat_lit 2097153 = nat_lit 2097153 ∧ (1 : Int) ≤ (4 : Int) ∧ (4 : Int) ≤ (4 : Int) ∧ b.list.length ≤ (1099511627776 : Nat)) ∧ bif !mayR (IntKind.wrap .i64 (U.int (nth (U.i (0 : Int)) b.list (Int.toNat (0 : Int))))) (IntKind.wrap .i64 (getN b.list (4 : Int) (4 : Int))) (IntKind.wrap .i64 (getN b.list (2 : Int) (2 : Int))) (IntKind.wrap .i64 (getN b.list (8 : Int) (4 : Int))) (IntKind.wrap .u32 (IntKind.wrap .i64 (getN b.list (12 : Int) (4 : Int)))) k.int then R [[U.i (0 : Int), U.i (0 : Int), U.i (0 : Int), U.i (0 : Int), U.i (0 : Int)], [U.i (3 : Int)]] else R [[U.i (IntKind.wrap .i64 (U.int (nth (U.i (0 : Int)) b.list (Int.toNat (0 : Int))))), U.i (IntKind.wrap .i64 (getN b.list (4 : Int) (4 : Int))), U.i (IntKind.wrap .i64 (getN b.list (2 : Int) (2 : Int))), U.i (IntKind.wrap .i64 (getN b.list (8 : Int) (4 : Int))), U.i (IntKind.wrap .u32 (IntKind.wrap .i64 (getN b.list (12 : Int) (4 : Int))))], [U.i (0 : Int)]])) ((nat_lit 2097153 = nat_lit 2097153 ∧ nat_lit 0 = nat_lit 0 ∧ nat_lit 2097153 = nat_lit 2097153 ∧ (1 : Int) ≤ (4 : Int) ∧ (4 : Int) ≤ (4 : Int) ∧ b.list.length ≤ (1099511627776 : Nat)) ∧ (nat_lit 2097153 = nat_lit 2097153 ∧ nat_lit 0 = nat_lit 0 ∧ nat_lit 2097153 = nat_lit 2097153 ∧ (1 : Int) ≤ (4 : Int) ∧ (4 : Int) ≤ (4 : Int) ∧ b.list.length ≤ (1099511627776 : Nat)) ∧ bif !mayR (IntKind.wrap .i64 (U.int (nth (U.i (0 : Int)) b.list (Int.toNat (0 : Int))))) (IntKind.wrap .i64 (getN b.list (4 : Int) (4 : Int))) (IntKind.wrap .i64 (getN b.list (2 : Int) (2 : Int))) (IntKind.wrap .i64 (getN b.list (8 : Int) (4 : Int))) (IntKind.wrap .u32 (IntKind.wrap .i64 (getN b.list (12 : Int) (4 : Int)))) k.int then R [[U.i (0 : Int), U.i (0 : Int), U.i (0 : Int), U.i (0 : Int), U.i (0 : Int)], [U.i (3 : Int)]] else R [[U.i (IntKind.wrap .i64 (U.int (nth (U.i (0 : Int)) b.list (Int.toNat (0 : Int))))), U.i (IntKind.wrap .i64 (getN b.list (4 : Int) (4 : Int))), U.i (IntKind.wrap .i64 (getN b.list (2 : Int) (2 : Int))), U.i (IntKind.wrap .i64 (getN b.list (8 : Int) (4 : Int))), U.i (IntKind.wrap .u32 (IntKind.wrap .i64 (getN b.list (12 : Int) (4 : Int))))], [U.i (0 : Int)]]) else False) (Alt ((nat_lit 2097153 = nat_lit 2097153 ∧ nat_lit 0 = nat_lit 0 ∧ nat_lit 2097153 = nat_lit 2097153 ∧ (1 : Int) ≤ (4 : Int) ∧ (4 : Int) ≤ (4 : Int) ∧ b.list.length ≤ (1099511627776 : Nat)) ∧ Alt (bif decide ((0 : Int) ≤ (0 : Int) ∧ (0 : Int) < (b.list.length : Int)) then (fun T => Alt T T) ((nat_lit 2097153 = nat_lit 2097153 ∧ nat_lit 0 = nat_lit 0 ∧ nat_lit 2097153 = nat_lit 2097153 ∧ (1 : Int) ≤ (4 : Int) ∧ (4 : Int) ≤ (4 : Int) ∧ b.list.length ≤ (1099511627776 : Nat)) ∧ bif !mayR (IntKind.wrap .i64 (U.int (nth (U.i (0 : Int)) b.list (Int.toNat (0 : Int))))) (IntKind.wrap .i64 (getN b.list (4 : Int) (4 : Int))) (IntKind.wrap .i64 (getN b.list (2 : Int) (2 : Int))) (IntKind.wrap .i64 (getN b.list (8 : Int) (4 : Int))) (IntKind.wrap .u32 (IntKind.wrap .i64 (getN b.list (12 : Int) (4 : Int)))) k.int then R [[U.i (0 : Int), U.i (0 : Int), U.i (0 : Int), U.i (0 : Int), U.i (0 : Int)], [U.i (3 : Int)]] else R [[U.i (IntKind.wrap .i64 (U.int (nth (U.i (0 : Int)) b.list (Int.toNat (0 : Int))))), U.i (IntKind.wrap .i64 (getN b.list (4 : Int) (4 : Int))), U.i (IntKind.wrap .i64 (getN b.list (2 : Int) (2 : Int))), U.i (IntKind.wrap .i64 (getN b.list (8 : Int) (4 : Int))), U.i (IntKind.wrap .u32 (IntKind.wrap .i64 (getN b.list (12 : Int) (4 : Int))))], [U.i (0 : Int)]]) else False) (Alt ((nat_lit 2097153 = nat_lit 2097153 ∧ nat_lit 0 = nat_lit 0 ∧ nat_lit 2097153 = nat_lit 2097153 ∧ (1 : Int) ≤ (4 : Int) ∧ (4 : Int) ≤ (4 : Int) ∧ b.list.length ≤ (1099511627776 : Nat)) ∧ (fun T => Alt T T) (bif decide ((0 : Int) ≤ (0 : Int) ∧ (0 : Int) < (b.list.length : Int)) then bif !mayR (IntKind.wrap .i64 (U.int (nth (U.i (0 : Int)) b.list (Int.toNat (0 : Int))))) (IntKind.wrap .i64 (getN b.list (4 : Int) (4 : Int))) (IntKind.wrap .i64 (getN b.list (2 : Int) (2 : Int))) (IntKind.wrap .i64 (getN b.list (8 : Int) (4 : Int))) (IntKind.wrap .u32 (IntKind.wrap .i64 (getN b.list (12 : Int) (4 : Int)))) k.int then R [[U.i (0 : Int), U.i (0 : Int), U.i (0 : Int), U.i (0 : Int), U.i (0 : Int)], [U.i (3 : Int)]] else R [[U.i (IntKind.wrap .i64 (U.int (nth (U.i (0 : Int)) b.list (Int.toNat (0 : Int))))), U.i (IntKind.wrap .i64 (getN b.list (4 : Int) (4 : Int))), U.i (IntKind.wrap .i64 (getN b.list (2 : Int) (2 : Int))), U.i (IntKind.wrap .i64 (getN b.list (8 : Int) (4 : Int))), U.i (IntKind.wrap .u32 (IntKind.wrap .i64 (getN b.list (12 : Int) (4 : Int))))], [U.i (0 : Int)]] else False)) (Alt (bif decide ((0 : Int) ≤ (0 : Int) ∧ (0 : Int) < (b.list.length : Int)) then (nat_lit 2097153 = nat_lit 2097153 ∧ nat_lit 0 = nat_lit 0 ∧ nat_lit 2097153 = nat_lit 2097153 ∧ (1 : Int) ≤ (4 : Int) ∧ (4 : Int) ≤ (4 : Int) ∧ b.list.length ≤ (1099511627776 : Nat)) ∧ bif !mayR (IntKind.wrap .i64 (U.int (nth (U.i (0 : Int)) b.list (Int.toNat (0 : Int))))) (IntKind.wrap .i64 (getN b.list (4 : Int) (4 : Int))) (IntKind.wrap .i64 (getN b.list (2 : Int) (2 : Int))) (IntKind.wrap .i64 (getN b.list (8 : Int) (4 : Int))) (IntKind.wrap .u32 (IntKind.wrap .i64 (getN b.list (12 : Int) (4 : Int)))) k.int then R [[U.i (0 : Int), U.i (0 : Int), U.i (0 : Int), U.i (0 : Int), U.i (0 : Int)], [U.i (3 : Int)]] else R [[U.i (IntKind.wrap .i64 (U.int (nth (U.i (0 : Int)) b.list (Int.toNat (0 : Int))))), U.i (IntKind.wrap .i64 (getN b.list (4 : Int) (4 : Int))), U.i (IntKind.wrap .i64 (getN b.list (2 : Int) (2 : Int))), U.i (IntKind.wrap .i64 (getN b.list (8 : Int) (4 : Int))), U.i (IntKind.wrap .u32 (IntKind.wrap .i64 (getN b.list (12 : Int) (4 : Int))))], [U.i (0 : Int)]] else False) ((nat_lit 2097153 = nat_lit 2097153 ∧ nat_lit 0 = nat_lit 0 ∧ nat_lit 2097153 = nat_lit 2097153 ∧ (1 : Int) ≤ (4 : Int) ∧ (4 : Int) ≤ (4 : Int) ∧ b.list.length ≤ (1099511627776 : Nat)) ∧ bif decide ((0 : Int) ≤ (0 : Int) ∧ (0 : Int) < (b.list.length : Int)) then bif !mayR (IntKind.wrap .i64 (U.int (nth (U.i (0 : Int)) b.list (Int.toNat (0 : Int))))) (IntKind.wrap .i64 (getN b.list (4 : Int) (4 : Int))) (IntKind.wrap .i64 (getN b.list (2 : Int) (2 : Int))) (IntKind.wrap .i64 (getN b.list (8 : Int) (4 : Int))) (IntKind.wrap .u32 (IntKind.wrap .i64 (getN b.list (12 : Int) (4 : Int)))) k.int then R [[U.i (0 : Int), U.i (0 : Int), U.i (0 : Int), U.i (0 : Int), U.i (0 : Int)], [U.i (3 : Int)]] else R [[U.i (IntKind.wrap .i64 (U.int (nth (U.i (0 : Int)) b.list (Int.toNat (0 : Int))))), U.i (IntKind.wrap .i64 (getN b.list (4 : Int) (4 : Int))), U.i (IntKind.wrap .i64 (getN b.list (2 : Int) (2 : Int))), U.i (IntKind.wrap .i64 (getN b.list (8 : Int) (4 : Int))), U.i (IntKind.wrap .u32 (IntKind.wrap .i64 (getN b.list (12 : Int) (4 : Int))))], [U.i (0 : Int)]] else False)))) (Alt (bif decide ((0 : Int) ≤ (0 : Int) ∧ (0 : Int) < (b.list.length : Int)) then (nat_lit 2097153 = nat_lit 2097153 ∧ nat_lit 0 = nat_lit 0 ∧ nat_lit 2097153 = nat_lit 2097153 ∧ (1 : Int) ≤ (4 : Int) ∧ (4 : Int) ≤ (4 : Int) ∧ b.list.length ≤ (1099511627776 : Nat)) ∧ (nat_lit 2097153 = nat_lit 2097153 ∧ nat_lit 0 = nat_lit 0 ∧ nat_lit 2097153 = nat_lit 2097153 ∧ (1 : Int) ≤ (4 : Int) ∧ (4 : Int) ≤ (4 : Int) ∧ b.list.length ≤ (1099511627776 : Nat)) ∧ bif !mayR (IntKind.wrap .i64 (U.int (nth (U.i (0 : Int)) b.list (Int.toNat (0 : Int))))) (IntKind.wrap .i64 (getN b.list (4 : Int) (4 : Int))) (IntKind.wrap .i64 (getN b.list (2 : Int) (2 : Int))) (IntKind.wrap .i64 (getN b.list (8 : Int) (4 : Int))) (IntKind.wrap .u32 (IntKind.wrap .i64 (getN b.list (12 : Int) (4 : Int)))) k.int then R [[U.i (0 : Int), U.i (0 : Int), U.i (0 : Int), U.i (0 : Int), U.i (0 : Int)], [U.i (3 : Int)]] else R [[U.i (IntKind.wrap .i64 (U.int (nth (U.i (0 : Int)) b.list (Int.toNat (0 : Int))))), U.i (IntKind.wrap .i64 (getN b.list (4 : Int) (4 : Int))), U.i (IntKind.wrap .i64 (getN b.list (2 : Int) (2 : Int))), U.i (IntKind.wrap .i64 (getN b.list (8 : Int) (4 : Int))), U.i (IntKind.wrap .u32 (IntKind.wrap .i64 (getN b.list (12 : Int) (4 : Int))))], [U.i (0 : Int)]] else False) ((nat_lit 2097153 = nat_lit 2097153 ∧ nat_lit 0 = nat_lit 0 ∧ nat_lit 2097153 = nat_lit 2097153 ∧ (1 : Int) ≤ (4 : Int) ∧ (4 : Int) ≤ (4 : Int) ∧ b.list.length ≤ (1099511627776 : Nat)) ∧ Alt (bif decide ((0 : Int) ≤ (0 : Int) ∧ (0 : Int) < (b.list.length : Int)) then (nat_lit 2097153 = nat_lit 2097153 ∧ nat_lit 0 = nat_lit 0 ∧ nat_lit 2097153 = nat_lit 2097153 ∧ (1 : Int) ≤ (4 : Int) ∧ (4 : Int) ≤ (4 : Int) ∧ b.list.length ≤ (1099511627776 : Nat)) ∧ bif !mayR (IntKind.wrap .i64 (U.int (nth (U.i (0 : Int)) b.list (Int.toNat (0 : Int))))) (IntKind.wrap .i64 (getN b.list (4 : Int) (4 : Int))) (IntKind.wrap .i64 (getN b.list (2 : Int) (2 : Int))) (IntKind.wrap .i64 (getN b.list (8 : Int) (4 : Int))) (IntKind.wrap .u32 (IntKind.wrap .i64 (getN b.list (12 : Int) (4 : Int)))) k.int then R [[U.i (0 : Int), U.i (0 : Int), U.i (0 : Int), U.i (0 : Int), U.i (0 : Int)], [U.i (3 : Int)]] else R [[U.i (IntKind.wrap .i64 (U.int (nth (U.i (0 : Int)) b.list (Int.toNat (0 : Int))))), U.i (IntKind.wrap .i64 (getN b.list (4 : Int) (4 : Int))), U.i (IntKind.wrap .i64 (getN b.list (2 : Int) (2 : Int))), U.i (IntKind.wrap .i64 (getN b.list (8 : Int) (4 : Int))), U.i (IntKind.wrap .u32 (IntKind.wrap .i64 (getN b.list (12 : Int) (4 : Int))))], [U.i (0 : Int)]] else False) ((nat_lit 2097153 = nat_lit 2097153 ∧ nat_lit 0 = nat_lit 0 ∧ nat_lit 2097153 = nat_lit 2097153 ∧ (1 : Int) ≤ (4 : Int) ∧ (4 : Int) ≤ (4 : Int) ∧ b.list.length ≤ (1099511627776 : Nat)) ∧ bif decide ((0 : Int) ≤ (0 : Int) ∧ (0 : Int) < (b.list.length : Int)) then bif !mayR (IntKind.wrap .i64 (U.int (nth (U.i (0 : Int)) b.list (Int.toNat (0 : Int))))) (IntKind.wrap .i64 (getN b.list (4 : Int) (4 : Int))) (IntKind.wrap .i64 (getN b.list (2 : Int) (2 : Int))) (IntKind.wrap .i64 (getN b.list (8 : Int) (4 : Int))) (IntKind.wrap .u32 (IntKind.wrap .i64 (getN b.list (12 : Int) (4 : Int)))) k.int then R [[U.i (0 : Int), U.i (0 : Int), U.i (0 : Int), U.i (0 : Int), U.i (0 : Int)], [U.i (3 : Int)]] else R [[U.i (IntKind.wrap .i64 (U.int (nth (U.i (0 : Int)) b.list (Int.toNat (0 : Int))))), U.i (IntKind.wrap .i64 (getN b.list (4 : Int) (4 : Int))), U.i (IntKind.wrap .i64 (getN b.list (2 : Int) (2 : Int))), U.i (IntKind.wrap .i64 (getN b.list (8 : Int) (4 : Int))), U.i (IntKind.wrap .u32 (IntKind.wrap .i64 (getN b.list (12 : Int) (4 : Int))))], [U.i (0 : Int)]] else False))))) (Alt (bif decide ((0 : Int) ≤ (0 : Int) ∧ (0 : Int) < (b.list.length : Int)) then (nat_lit 2097153 = nat_lit 2097153 ∧ nat_lit 0 = nat_lit 0 ∧ nat_lit 2097153 = nat_lit 2097153 ∧ (1 : Int) ≤ (4 : Int) ∧ (4 : Int) ≤ (4 : Int) ∧ b.list.length ≤ (1099511627776 : Nat)) ∧ (nat_lit 2097153 = nat_lit 2097153 ∧ nat_lit 0 = nat_lit 0 ∧ nat_lit 2097153 = nat_lit 2097153 ∧ (1 : Int) ≤ (4 : Int) ∧ (4 : Int) ≤ (4 : Int) ∧ b.list.length ≤ (1099511627776 : Nat)) ∧ (nat_lit 2097153 = nat_lit 2097153 ∧ nat_lit 0 = nat_lit 0 ∧ nat_lit 2097153 = nat_lit 2097153 ∧ (1 : Int) ≤ (4 : Int) ∧ (4 : Int) ≤ (4 : Int) ∧ b.list.length ≤ (1099511627776 : Nat)) ∧ bif !mayR (IntKind.wrap .i64 (U.int (nth (U.i (0 : Int)) b.list (Int.toNat (0 : Int))))) (IntKind.wrap .i64 (getN b.list (4 : Int) (4 : Int))) (IntKind.wrap .i64 (getN b.list (2 : Int) (2 : Int))) (IntKind.wrap .i64 (getN b.list (8 : Int) (4 : Int))) (IntKind.wrap .u32 (IntKind.wrap .i64 (getN b.list (12 : Int) (4 : Int)))) k.int then R [[U.i (0 : Int), U.i (0 : Int), U.i (0 : Int), U.i (0 : Int), U.i (0 : Int)], [U.i (3 : Int)]] else R [[U.i (IntKind.wrap .i64 (U.int (nth (U.i (0 : Int)) b.list (Int.toNat (0 : Int))))), U.i (IntKind.wrap .i64 (getN b.list (4 : Int) (4 : Int))), U.i (IntKind.wrap .i64 (getN b.list (2 : Int) (2 : Int))), U.i (IntKind.wrap .i64 (getN b.list (8 : Int) (4 : Int))), U.i (IntKind.wrap .u32 (IntKind.wrap .i64 (getN b.list (12 : Int) (4 : Int))))], [U.i (0 : Int)]] else False) ((nat_lit 2097153 = nat_lit 2097153 ∧ nat_lit 0 = nat_lit 0 ∧ nat_lit 2097153 = nat_lit 2097153 ∧ (1 : Int) ≤ (4 : Int) ∧ (4 : Int) ≤ (4 : Int) ∧ b.list.length ≤ (1099511627776 : Nat)) ∧ Alt (bif decide ((0 : Int) ≤ (0 : Int) ∧ (0 : Int) < (b.list.length : Int)) then (nat_lit 2097153 = nat_lit 2097153 ∧ nat_lit 0 = nat_lit 0 ∧ nat_lit 2097153 = nat_lit 2097153 ∧ (1 : Int) ≤ (4 : Int) ∧ (4 : Int) ≤ (4 : Int) ∧ b.list.length ≤ (1099511627776 : Nat)) ∧ (nat_lit 2097153 = nat_lit 2097153 ∧ nat_lit 0 = nat_lit 0 ∧ nat_lit 2097153 = nat_lit 2097153 ∧ (1 : Int) ≤ (4 : Int) ∧ (4 : Int) ≤ (4 : Int) ∧ b.list.length ≤ (1099511627776 : Nat)) ∧ bif !mayR (IntKind.wrap .i64 (U.int (nth (U.i (0 : Int)) b.list (Int.toNat (0 : Int))))) (IntKind.wrap .i64 (getN b.list (4 : Int) (4 : Int))) (IntKind.wrap .i64 (getN b.list (2 : Int) (2 : Int))) (IntKind.wrap .i64 (getN b.list (8 : Int) (4 : Int))) (IntKind.wrap .u32 (IntKind.wrap .i64 (getN b.list (12 : Int) (4 : Int)))) k.int then R [[U.i (0 : Int), U.i (0 : Int), U.i (0 : Int), U.i (0 : Int), U.i (0 : Int)], [U.i (3 : Int)]] else R [[U.i (IntKind.wrap .i64 (U.int (nth (U.i (0 : Int)) b.list (Int.toNat (0 : Int))))), U.i (IntKind.wrap .i64 (getN b.list (4 : Int) (4 : Int))), U.i (IntKind.wrap .i64 (getN b.list (2 : Int) (2 : Int))), U.i (IntKind.wrap .i64 (getN b.list (8 : Int) (4 : Int))), U.i (IntKind.wrap .u32 (IntKind.wrap .i64 (getN b.list (12 : Int) (4 : Int))))], [U.i (0 : Int)]] else False) ((nat_lit 2097153 = nat_lit 2097153 ∧ nat_lit 0 = nat_lit 0 ∧ nat_lit 2097153 = nat_lit 2097153 ∧ (1 : Int) ≤ (4 : Int) ∧ (4 : Int) ≤ (4 : Int) ∧ b.list.length ≤ (1099511627776 : Nat)) ∧ Alt (bif decide ((0 : Int) ≤ (0 : Int) ∧ (0 : Int) < (b.list.length : Int)) then (nat_lit 2097153 = nat_lit 2097153 ∧ nat_lit 0 = nat_lit 0 ∧ nat_lit 2097153 = nat_lit 2097153 ∧ (1 : Int) ≤ (4 : Int) ∧ (4 : Int) ≤ (4 : Int) ∧ b.list.length ≤ (1099511627776 : Nat)) ∧ bif !mayR (IntKind.wrap .i64 (U.int (nth (U.i (0 : Int)) b.list (Int.toNat (0 : Int))))) (IntKind.wrap .i64 (getN b.list (4 : Int) (4 : Int))) (IntKind.wrap .i64 (getN b.list (2 : Int) (2 : Int))) (IntKind.wrap .i64 (getN b.list (8 : Int) (4 : Int))) (IntKind.wrap .u32 (IntKind.wrap .i64 (getN b.list (12 : Int) (4 : Int)))) k.int then R [[U.i (0 : Int), U.i (0 : Int), U.i (0 : Int), U.i (0 : Int), U.i (0 : Int)], [U.i (3 : Int)]] else R [[U.i (IntKind.wrap .i64 (U.int (nth (U.i (0 : Int)) b.list (Int.toNat (0 : Int))))), U.i (IntKind.wrap .i64 (getN b.list (4 : Int) (4 : Int))), U.i (IntKind.wrap .i64 (getN b.list (2 : Int) (2 : Int))), U.i (IntKind.wrap .i64 (getN b.list (8 : Int) (4 : Int))), U.i (IntKind.wrap .u32 (IntKind.wrap .i64 (getN b.list (12 : Int) (4 : Int))))], [U.i (0 : Int)]] else False) ((nat_lit 2097153 = nat_lit 2097153 ∧ nat_lit 0 = nat_lit 0 ∧ nat_lit 2097153 = nat_lit 2097153 ∧ (1 : Int) ≤ (4 : Int) ∧ (4 : Int) ≤ (4 : Int) ∧ b.list.length ≤ (1099511627776 : Nat)) ∧ bif decide ((0 : Int) ≤ (0 : Int) ∧ (0 : Int) < (b.list.length : Int)) then bif !mayR (IntKind.wrap .i64 (U.int (nth (U.i (0 : Int)) b.list (Int.toNat (0 : Int))))) (IntKind.wrap .i64 (getN b.list (4 : Int) (4 : Int))) (IntKind.wrap .i64 (getN b.list (2 : Int) (2 : Int))) (IntKind.wrap .i64 (getN b.list (8 : Int) (4 : Int))) (IntKind.wrap .u32 (IntKind.wrap .i64 (getN b.list (12 : Int) (4 : Int)))) k.int then R [[U.i (0 : Int), U.i (0 : Int), U.i (0 : Int), U.i (0 : Int), U.i (0 : Int)], [U.i (3 : Int)]] else R [[U.i (IntKind.wrap .i64 (U.int (nth (U.i (0 : Int)) b.list (Int.toNat (0 : Int))))), U.i (IntKind.wrap .i64 (getN b.list (4 : Int) (4 : Int))), U.i (IntKind.wrap .i64 (getN b.list (2 : Int) (2 : Int))), U.i (IntKind.wrap .i64 (getN b.list (8 : Int) (4 : Int))), U.i (IntKind.wrap .u32 (IntKind.wrap .i64 (getN b.list (12 : Int) (4 : Int))))], [U.i (0 : Int)]] else False)))))) (Alt (bif decide ((0 : Int) ≤ (0 : Int) ∧ (0 : Int) < (b.list.length : Int)) then (nat_lit 2097153 = nat_lit 2097153 ∧ nat_lit 0 = nat_lit 0 ∧ nat_lit 2097153 = nat_lit 2097153 ∧ (1 : Int) ≤ (2 : Int) ∧ (2 : Int) ≤ (4 : Int) ∧ b.list.length ≤ (1099511627776 : Nat)) ∧ (nat_lit 2097153 = nat_lit 2097153 ∧ nat_lit 0 = nat_lit 0 ∧ nat_lit 2097153 = nat_lit 2097153 ∧ (1 : Int) ≤ (4 : Int) ∧ (4 : Int) ≤ (4 : Int) ∧ b.list.length ≤ (1099511627776 : Nat)) ∧ (nat_lit 2097153 = nat_lit 2097153 ∧ nat_lit 0 = nat_lit 0 ∧ nat_lit 2097153 = nat_lit 2097153 ∧ (1 : Int) ≤ (4 : Int) ∧ (4 : Int) ≤ (4 : Int) ∧ b.list.length ≤ (1099511627776 : Nat)) ∧ (nat_lit 2097153 = nat_lit 2097153 ∧ nat_lit 0 = nat_lit 0 ∧ nat_lit 2097153 = nat_lit 2097153 ∧ (1 : Int) ≤ (4 : Int) ∧ (4 : Int) ≤ (4 : Int) ∧ b.list.length ≤ (1099511627776 : Nat)) ∧ bif !mayR (IntKind.wrap .i64 (U.int (nth (U.i (0 : Int)) b.list (Int.toNat (0 : Int))))) (IntKind.wrap .i64 (getN b.list (4 : Int) (4 : Int))) (IntKind.wrap .i64 (getN b.list (2 : Int) (2 : Int))) (IntKind.wrap .i64 (getN b.list (8 : Int) (4 : Int))) (IntKind.wrap .u32 (IntKind.wrap .i64 (getN b.list (12 : Int) (4 : Int)))) k.int then R [[U.i (0 : Int), U.i (0 : Int), U.i (0 : Int), U.i (0 : Int), U.i (0 : Int)], [U.i (3 : Int)]] else R [[U.i (IntKind.wrap .i64 (U.int (nth (U.i (0 : Int)) b.list (Int.toNat (0 : Int))))), U.i (IntKind.wrap .i64 (getN b.list (4 : Int) (4 : Int))), U.i (IntKind.wrap .i64 (getN b.list (2 : Int) (2 : Int))), U.i (IntKind.wrap .i64 (getN b.list (8 : Int) (4 : Int))), U.i (IntKind.wrap .u32 (IntKind.wrap .i64 (getN b.list (12 : Int) (4 : Int))))], [U.i (0 : Int)]] else False) ((nat_lit 2097153 = nat_lit 2097153 ∧ nat_lit 0 = nat_lit 0 ∧ nat_lit 2097153 = nat_lit 2097153 ∧ (1 : Int) ≤ (2 : Int) ∧ (2 : Int) ≤ (4 : Int) ∧ b.list.length ≤ (1099511627776 : Nat)) ∧ Alt (bif decide ((0 : Int) ≤ (0 : Int) ∧ (0 : Int) < (b.list.length : Int)) then (nat_lit 2097153 = nat_lit 2097153 ∧ nat_lit 0 = nat_lit 0 ∧ nat_lit 2097153 = nat_lit 2097153 ∧ (1 : Int) ≤ (4 : Int) ∧ (4 : Int) ≤ (4 : Int) ∧ b.list.length ≤ (1099511627776 : Nat)) ∧ (nat_lit 2097153 = nat_lit 2097153 ∧ nat_lit 0 = nat_lit 0 ∧ nat_lit 2097153 = nat_lit 2097153 ∧ (1 : Int) ≤ (4 : Int) ∧ (4 : Int) ≤ (4 : Int) ∧ b.list.length ≤ (1099511627776 : Nat)) ∧ (nat_lit 2097153 = nat_lit 2097153 ∧ nat_lit 0 = nat_lit 0 ∧ nat_lit 2097153 = nat_lit 2097153 ∧ (1 : Int) ≤ (4 : Int) ∧ (4 : Int) ≤ (4 : Int) ∧ b.list.length ≤ (1099511627776 : Nat)) ∧ bif !mayR (IntKind.wrap .i64 (U.int (nth (U.i (0 : Int)) b.list (Int.toNat (0 : Int))))) (IntKind.wrap .i64 (getN b.list (4 : Int) (4 : Int))) (IntKind.wrap .i64 (getN b.list (2 : Int) (2 : Int))) (IntKind.wrap .i64 (getN b.list (8 : Int) (4 : Int))) (IntKind.wrap .u32 (IntKind.wrap .i64 (getN b.list (12 : Int) (4 : Int)))) k.int then R [[U.i (0 : Int), U.i (0 : Int), U.i (0 : Int), U.i (0 : Int), U.i (0 : Int)], [U.i (3 : Int)]] else R [[U.i (IntKind.wrap .i64 (U.int (nth (U.i (0 : Int)) b.list (Int.toNat (0 : Int))))), U.i (IntKind.wrap .i64 (getN b.list (4 : Int) (4 : Int))), U.i (IntKind.wrap .i64 (getN b.list (2 : Int) (2 : Int))), U.i (IntKind.wrap .i64 (getN b.list (8 : Int) (4 : Int))), U.i (IntKind.wrap .u32 (IntKind.wrap .i64 (getN b.list (12 : Int) (4 : Int))))], [U.i (0 : Int)]] else False) ((nat_lit 2097153 = nat_lit 2097153 ∧ nat_lit 0 = nat_lit 0 ∧ nat_lit 2097153 = nat_lit 2097153 ∧ (1 : Int) ≤ (4 : Int) ∧ (4 : Int) ≤ (4 : Int) ∧ b.list.length ≤ (1099511627776 : Nat)) ∧ Alt (bif decide ((0 : Int) ≤ (0 : Int) ∧ (0 : Int) < (b.list.length : Int)) then (nat_lit 2097153 = nat_lit 2097153 ∧ nat_lit 0 = nat_lit 0 ∧ nat_lit 2097153 = nat_lit 2097153 ∧ (1 : Int) ≤ (4 : Int) ∧ (4 : Int) ≤ (4 : Int) ∧ b.list.length ≤ (1099511627776 : Nat)) ∧ (nat_lit 2097153 = nat_lit 2097153 ∧ nat_lit 0 = nat_lit 0 ∧ nat_lit 2097153 = nat_lit 2097153 ∧ (1 : Int) ≤ (4 : Int) ∧ (4 : Int) ≤ (4 : Int) ∧ b.list.length ≤ (1099511627776 : Nat)) ∧ bif !mayR (IntKind.wrap .i64 (U.int (nth (U.i (0 : Int)) b.list (Int.toNat (0 : Int))))) (IntKind.wrap .i64 (getN b.list (4 : Int) (4 : Int))) (IntKind.wrap .i64 (getN b.list (2 : Int) (2 : Int))) (IntKind.wrap .i64 (getN b.list (8 : Int) (4 : Int))) (IntKind.wrap .u32 (IntKind.wrap .i64 (getN b.list (12 : Int) (4 : Int)))) k.int then R [[U.i (0 : Int), U.i (0 : Int), U.i (0 : Int), U.i (0 : Int), U.i (0 : Int)], [U.i (3 : Int)]] else R [[U.i (IntKind.wrap .i64 (U.int (nth (U.i (0 : Int)) b.list (Int.toNat (0 : Int))))), U.i (IntKind.wrap .i64 (getN b.list (4 : Int) (4 : Int))), U.i (IntKind.wrap .i64 (getN b.list (2 : Int) (2 : Int))), U.i (IntKind.wrap .i64 (getN b.list (8 : Int) (4 : Int))), U.i (IntKind.wrap .u32 (IntKind.wrap .i64 (getN b.list (12 : Int) (4 : Int))))], [U.i (0 : Int)]] else False) ((nat_lit 2097153 = nat_lit 2097153 ∧ nat_lit 0 = nat_lit 0 ∧ nat_lit 2097153 = nat_lit 2097153 ∧ (1 : Int) ≤ (4 : Int) ∧ (4 : Int) ≤ (4 : Int) ∧ b.list.length ≤ (1099511627776 : Nat)) ∧ Alt (bif decide ((0 : Int) ≤ (0 : Int) ∧ (0 : Int) < (b.list.length : Int)) then (nat_lit 2097153 = nat_lit 2097153 ∧ nat_lit 0 = nat_lit 0 ∧ nat_lit 2097153 = nat_lit 2097153 ∧ (1 : Int) ≤ (4 : Int) ∧ (4 : Int) ≤ (4 : Int) ∧ b.list.length ≤ (1099511627776 : Nat)) ∧ bif !mayR (IntKind.wrap .i64 (U.int (nth (U.i (0 : Int)) b.list (Int.toNat (0 : Int))))) (IntKind.wrap .i64 (getN b.list (4 : Int) (4 : Int))) (IntKind.wrap .i64 (getN b.list (2 : Int) (2 : Int))) (IntKind.wrap .i64 (getN b.list (8 : Int) (4 : Int))) (IntKind.wrap .u32 (IntKind.wrap .i64 (getN b.list (12 : Int) (4 : Int)))) k.int then R [[U.i (0 : Int), U.i (0 : Int), U.i (0 : Int), U.i (0 : Int), U.i (0 : Int)], [U.i (3 : Int)]] else R [[U.i (IntKind.wrap .i64 (U.int (nth (U.i (0 : Int)) b.list (Int.toNat (0 : Int))))), U.i (IntKind.wrap .i64 (getN b.list (4 : Int) (4 : Int))), U.i (IntKind.wrap .i64 (getN b.list (2 : Int) (2 : Int))), U.i (IntKind.wrap .i64 (getN b.list (8 : Int) (4 : Int))), U.i (IntKind.wrap .u32 (IntKind.wrap .i64 (getN b.list (12 : Int) (4 : Int))))], [U.i (0 : Int)]] else False) ((nat_lit 2097153 = nat_lit 2097153 ∧ nat_lit 0 = nat_lit 0 ∧ nat_lit 2097153 = nat_lit 2097153 ∧ (1 : Int) ≤ (4 : Int) ∧ (4 : Int) ≤ (4 : Int) ∧ b.list.length ≤ (1099511627776 : Nat)) ∧ bif decide ((0 : Int) ≤ (0 : Int) ∧ (0 : Int) < (b.list.length : Int)) then bif !mayR (IntKind.wrap .i64 (U.int (nth (U.i (0 : Int)) b.list (Int.toNat (0 : Int))))) (IntKind.wrap .i64 (getN b.list (4 : Int) (4 : Int))) (IntKind.wrap .i64 (getN b.list (2 : Int) (2 : Int))) (IntKind.wrap .i64 (getN b.list (8 : Int) (4 : Int))) (IntKind.wrap .u32 (IntKind.wrap .i64 (getN b.list (12 : Int) (4 : Int)))) k.int then R [[U.i (0 : Int), U.i (0 : Int), U.i (0 : Int), U.i (0 : Int), U.i (0 : Int)], [U.i (3 : Int)]] else R [[U.i (IntKind.wrap .i64 (U.int (nth (U.i (0 : Int)) b.list (Int.toNat (0 : Int))))), U.i (IntKind.wrap .i64 (getN b.list (4 : Int) (4 : Int))), U.i (IntKind.wrap .i64 (getN b.list (2 : Int) (2 : Int))), U.i (IntKind.wrap .i64 (getN b.list (8 : Int) (4 : Int))), U.i (IntKind.wrap .u32 (IntKind.wrap .i64 (getN b.list (12 : Int) (4 : Int))))], [U.i (0 : Int)]] else False)))))) else False) := by kernel_rfl
noncomputable def regetC : Ctx := mkC PR eqs0 (fnsCons 54 mayS (fnsConsP 75 atP atS fnsNil)) trsNil noLoops noOut noOut
theorem reget_tree (R : RF) (b k : U) : (run regetC Try.f76 [[b], [k]] R) = (bif (b.list.length : Int) != (16 : Int) then R [[U.i (0 : Int), U.i (0 : Int), U.i (0 : Int), U.i (0 : Int), U.i (0 : Int)], [U.i (3 : Int)]] else atP [[b], [U.i (0 : Int)], [U.i (1 : Int)]] ∧ atP [[b], [U.i (2 : Int)], [U.i (2 : Int)]] ∧ atP [[b], [U.i (4 : Int)], [U.i (4 : Int)]] ∧ atP [[b], [U.i (8 : Int)], [U.i (4 : Int)]] ∧ atP [[b], [U.i (12 : Int)], [U.i (4 : Int)]] ∧ bif decide ((0 : Int) ≤ (1 : Int) ∧ (1 : Int) < (b.list.length : Int)) then bif U.int (nth (U.i (0 : Int)) b.list (Int.toNat (1 : Int))) != (0 : Int) then R [[U.i (0 : Int), U.i (0 : Int), U.i (0 : Int), U.i (0 : Int), U.i (0 : Int)], [U.i (3 : Int)]] else bif !mayR (IntKind.wrap .i64 (getN b.list (0 : Int) (1 : Int))) (IntKind.wrap .i64 (getN b.list (4 : Int) (4 : Int))) (IntKind.wrap .i64 (getN b.list (2 : Int) (2 : Int))) (IntKind.wrap .i64 (getN b.list (8 : Int) (4 : Int))) (IntKind.wrap .u32 (IntKind.wrap .i64 (getN b.list (12 : Int) (4 : Int)))) k.int then R [[U.i (0 : Int), U.i (0 : Int), U.i (0 : Int), U.i (0 : Int), U.i (0 : Int)], [U.i (3 : Int)]] else R [[U.i (IntKind.wrap .i64 (getN b.list (0 : Int) (1 : Int))), U.i (IntKind.wrap .i64 (getN b.list (4 : Int) (4 : Int))), U.i (IntKind.wrap .i64 (getN b.list (2 : Int) (2 : Int))), U.i (IntKind.wrap .i64 (getN b.list (8 : Int) (4 : Int))), U.i (IntKind.wrap .u32 (IntKind.wrap .i64 (getN b.list (12 : Int) (4 : Int))))], [U.i (0 : Int)]] else False) := by kernel_rfl
end Go.Mat

namespace Go.Mat
open Go Go.Den Go.Proofs
theorem leV_bd : ∀ {l : List U}, byteOk l → 0 ≤ leV l ∧ leV l < 256 ^ l.length
  | [], _ => by simp [leV]
  | u :: r, h => by
    have h1 := h u (List.mem_cons_self ..)
    have h2 := leV_bd (l := r) fun x hx => h x (List.mem_cons_of_mem _ hx)
    rw [leV, List.length_cons, Int.pow_succ]
    omega
theorem getN_bd {b : List U} {a n : Int} (h : byteOk b) (hn : 0 ≤ n) : 0 ≤ getN b a n ∧ getN b a n < 256 ^ n.toNat := by
  unfold getN
  cases ht : thereR b a n with
  | false =>
    have : (0 : Int) < 256 ^ n.toNat := Int.pow_pos (by omega)
    exact ⟨by simp, this⟩
  | true =>
    have h1 := leV_bd (sub_bytes a n h)
    have h2 := sub_len ht hn
    rw [show (sub b a n).length = n.toNat by omega] at h1
    exact h1
theorem getN1 {b : List U} {a : Int} (h : byteOk b) : 0 ≤ getN b a 1 ∧ getN b a 1 ≤ 255 := by
  have := getN_bd (a := a) (n := 1) h (by omega)
  simp only [Int.reduceToNat, Int.reducePow] at this
  omega
theorem getN2 {b : List U} {a : Int} (h : byteOk b) : 0 ≤ getN b a 2 ∧ getN b a 2 ≤ 65535 := by
  have := getN_bd (a := a) (n := 2) h (by omega)
  simp only [Int.reduceToNat, Int.reducePow] at this
  omega
theorem getN4 {b : List U} {a : Int} (h : byteOk b) : 0 ≤ getN b a 4 ∧ getN b a 4 ≤ 4294967295 := by
  have := getN_bd (a := a) (n := 4) h (by omega)
  simp only [Int.reduceToNat, Int.reducePow] at this
  omega
theorem getE_iff {b : List U} {a n : Int} : (getE b a n != 0) = !thereR b a n := by
  unfold getE
  cases thereR b a n <;> rfl
theorem read_ok : SpecFP PR 73 readP readS := fun fn us hfn hpre => by
  have hf : PR.funcs[(73 : Nat)]? = some Try.f73 := by kernel_rfl
  rw [hf] at hfn; cases hfn
  refine fn_okH (C := readC) (mkC_ok eqs0_ok mixed_ok (.consP there_ok (.consP get_ok .nil)) .nil) hf (by kernel_rfl) (loops_none (by kernel_rfl)) fun hok => ?_
  have hp : Try.f73.params.toList = [32, 3] := by kernel_rfl
  rw [hp] at hok
  obtain ⟨b, a, hus⟩ : ∃ b a, us = [[b], [a]] := by
    obtain ⟨u, u2, rfl, h1, h2⟩ := shape2 (by kernel_rfl : Cs PR 32 = some (false, [.sl false [.int .u8]])) (by kernel_rfl : Cs PR 3 = some (false, [.int .i64])) hok.1
    obtain ⟨b, rfl⟩ := len1 h1
    obtain ⟨a, rfl⟩ := len1 h2
    exact ⟨b, a, rfl⟩
  subst hus
  have hbk : byteOk b.list := bytes_ok (hok.2 [vl (.int .u8) b, vi a] (by kernel_rfl)).1
  refine .eq (read_tree _ b a) ?_
  have hb : b.list.length ≤ 1099511627776 := hpre
  have hn := getN2 (a := a.int) hbk
  unfold readS readV readA readE readR
  simp only [nth_zero, nth_succ]
  refine ⟨⟨by show (1 : Int) ≤ 2; omega, by show (2 : Int) ≤ 4; omega, rfl, hb⟩, ?_⟩
  rw [getE_iff]
  refine bi (fun h => by rw [nt h]; rfl) (fun h => ?_)
  have h := nf h
  rw [h]
  have hi := thereR_iff.1 h
  rw [i64_in (x := a.int + 2) (by omega) (by omega), i64_in (x := getN b.list a.int 2) (by omega) (by omega), i64_in (x := a.int + 2 + getN b.list a.int 2) (by omega) (by omega), Bool.true_and]
  refine ⟨⟨by show 0 ≤ getN b.list a.int 2; omega, by show getN b.list a.int 2 ≤ _; omega, hb⟩, bi (fun h1 => by rw [nt h1]; rfl) (fun h1 => ?_)⟩
  rw [nf h1]
  rfl
theorem rread_ok : SpecFP PR 63 readP readS := fun fn us hfn hpre => by
  have hf : PR.funcs[(63 : Nat)]? = some Try.f63 := by kernel_rfl
  rw [hf] at hfn; cases hfn
  refine fn_okH (C := rreadC) (mkC_ok eqs0_ok mixed_ok (.consP rget_ok .nil) .nil) hf (by kernel_rfl) (loops_none (by kernel_rfl)) fun hok => ?_
  have hp : Try.f63.params.toList = [32, 3] := by kernel_rfl
  rw [hp] at hok
  obtain ⟨b, a, hus⟩ : ∃ b a, us = [[b], [a]] := by
    obtain ⟨u, u2, rfl, h1, h2⟩ := shape2 (by kernel_rfl : Cs PR 32 = some (false, [.sl false [.int .u8]])) (by kernel_rfl : Cs PR 3 = some (false, [.int .i64])) hok.1
    obtain ⟨b, rfl⟩ := len1 h1
    obtain ⟨a, rfl⟩ := len1 h2
    exact ⟨b, a, rfl⟩
  subst hus
  have hbk : byteOk b.list := bytes_ok (hok.2 [vl (.int .u8) b, vi a] (by kernel_rfl)).1
  refine .eq (rread_tree _ b a) ?_
  have hb : b.list.length ≤ 1099511627776 := hpre
  have hn := getN2 (a := a.int) hbk
  unfold readS readV readA readE readR
  simp only [nth_zero, nth_succ]
  refine ⟨⟨by show (1 : Int) ≤ 2; omega, by show (2 : Int) ≤ 4; omega, rfl, hb⟩, ?_⟩
  rw [getE_iff]
  refine bi (fun h => by rw [nt h]; rfl) (fun h => ?_)
  have h := nf h
  rw [h]
  have hi := thereR_iff.1 h
  rw [i64_in (x := (b.list.length : Int) - a.int) (by omega) (by omega), i64_in (x := (b.list.length : Int) - a.int - 2) (by omega) (by omega), i64_in (x := a.int + 2) (by omega) (by omega), i64_in (x := getN b.list a.int 2) (by omega) (by omega), i64_in (x := a.int + 2 + getN b.list a.int 2) (by omega) (by omega), Bool.true_and]
  refine bd (fun h1 => ?_) (fun h1 => ?_)
  · rw [show thereR b.list (a.int + 2) (getN b.list a.int 2) = false from Bool.eq_false_iff.2 fun h' => by have := thereR_iff.1 h'; omega]; rfl
  · rw [show thereR b.list (a.int + 2) (getN b.list a.int 2) = true from thereR_iff.2 ⟨by omega, by omega, by omega⟩]
    exact broom ⟨by omega, by omega, by omega, by omega⟩ rfl rfl
theorem at_ok : SpecFP PR 75 atP atS := fun fn us hfn hpre => by
  have hf : PR.funcs[(75 : Nat)]? = some Try.f75 := by kernel_rfl
  rw [hf] at hfn; cases hfn
  refine fn_okH (C := rreadC) (mkC_ok eqs0_ok mixed_ok (.consP rget_ok .nil) .nil) hf (by kernel_rfl) (loops_none (by kernel_rfl)) fun hok => ?_
  have hp : Try.f75.params.toList = [32, 3, 3] := by kernel_rfl
  rw [hp] at hok
  obtain ⟨b, a, n, hus⟩ : ∃ b a n, us = [[b], [a], [n]] := by
    obtain ⟨u, u2, u3, rfl, h1, h2, h3⟩ := shape3 (by kernel_rfl : Cs PR 32 = some (false, [.sl false [.int .u8]])) (by kernel_rfl : Cs PR 3 = some (false, [.int .i64])) (by kernel_rfl : Cs PR 3 = some (false, [.int .i64])) hok.1
    obtain ⟨b, rfl⟩ := len1 h1
    obtain ⟨a, rfl⟩ := len1 h2
    obtain ⟨n, rfl⟩ := len1 h3
    exact ⟨b, a, n, rfl⟩
  subst hus
  refine .eq (at_tree _ b a n) ?_
  unfold atP at hpre
  exact ⟨⟨hpre.1, hpre.2.1, rfl, hpre.2.2⟩, rfl⟩
theorem clo_ok : SpecT PR 82 cloF := fun fn hfn => by
  have hf : PR.funcs[(82 : Nat)]? = some Try.f82 := by kernel_rfl
  rw [hf] at hfn; cases hfn
  refine fnT_okH (C := cloC) (mkC_ok eqs0_ok mixed_ok (.consP get_ok .nil) .nil) hf (by kernel_rfl) (loops_none (by kernel_rfl)) fun vs objs R h1 h2 h => ?_
  clear h1 h2
  unfold cloF at h
  split at h
  · rename_i a n p o i b
    obtain ⟨⟨rfl, rfl, rfl, h1, h4, hb⟩, h⟩ := h
    refine .eq (clo_tree R a n b) ?_
    exact ⟨⟨h1, h4, rfl, hb⟩, h⟩
  · exact h.elim
theorem egetR_no {b : List U} {k : Int} (h : ¬ (b.length = 16 ∧ (U.at b 1).int = 0)) : egetR b k = false := by
  unfold egetR
  refine Bool.eq_false_iff.2 fun h' => h ?_
  simp only [Bool.and_eq_true, decide_eq_true_eq, beq_iff_eq] at h'
  exact ⟨h'.1.1, h'.1.2⟩
theorem u32_in {x : Int} (h : 0 ≤ x) (h' : x ≤ 4294967295) : IntKind.wrap .u32 x = x := by
  simp only [IntKind.wrap, IntKind.bits, IntKind.signed]; simp; omega
theorem eK_eq {b : List U} (h : b.length = 16) : getN b 0 1 = eK b := by
  have ht : thereR b 0 1 = true := thereR_iff.2 ⟨by omega, by omega, by omega⟩
  unfold getN eK
  rw [ht, cond_true, sub_eq ht (by omega)]
  match b, h with
  | x :: r, _ => simp [leV]
theorem eget_ok : SpecF PR 81 egetS := fun fn us hfn => by
  have hf : PR.funcs[(81 : Nat)]? = some Try.f81 := by kernel_rfl
  rw [hf] at hfn; cases hfn
  refine fn_okH (C := egetC) (mkC_ok eqs0_ok mixed_ok (.cons may_ok .nil) (.cons clo_ok .nil)) hf (by kernel_rfl) (loops_none (by kernel_rfl)) fun hok => ?_
  have hp : Try.f81.params.toList = [32, 3] := by kernel_rfl
  rw [hp] at hok
  obtain ⟨b, k, hus⟩ : ∃ b k, us = [[b], [k]] := by
    obtain ⟨u, u2, rfl, h1, h2⟩ := shape2 (by kernel_rfl : Cs PR 32 = some (false, [.sl false [.int .u8]])) (by kernel_rfl : Cs PR 3 = some (false, [.int .i64])) hok.1
    obtain ⟨b, rfl⟩ := len1 h1
    obtain ⟨k, rfl⟩ := len1 h2
    exact ⟨b, k, rfl⟩
  subst hus
  have hbk : byteOk b.list := bytes_ok (hok.2 [vl (.int .u8) b, vi k] (by kernel_rfl)).1
  refine .eq (eget_tree _ b k) ?_
  have hS : egetS [[b], [k]] = [[.i (bif egetR b.list k.int then eK b.list else 0), .i (bif egetR b.list k.int then eS b.list else 0), .i (bif egetR b.list k.int then eC b.list else 0), .i (bif egetR b.list k.int then eZ b.list else 0), .i (bif egetR b.list k.int then eM b.list else 0)], [.i (bif egetR b.list k.int then 0 else 3)]] := rfl
  rw [hS]
  refine bi (fun h => ?_) (fun h => ?_)
  · have h := nt h
    rw [egetR_no (fun h' => by rw [h'.1] at h; simp at h)]; rfl
  have h := nf h
  simp only [beq_iff_eq] at h
  have hl : b.list.length = 16 := by omega
  refine dt ⟨by omega, by omega⟩ (bi (fun h1 => ?_) (fun h1 => ?_))
  · have h1 := nt h1
    rw [egetR_no (fun h' => by have h2 := h'.2; simp only [U.at] at h2; rw [show Int.toNat 1 = 1 from rfl, h2] at h1; simp at h1)]; rfl
  have h1 := nf h1
  have hb40 : b.list.length ≤ 1099511627776 := by omega
  have d0 : decide ((0 : Int) ≤ 0 ∧ (0 : Int) < (b.list.length : Int)) = true := decide_eq_true ⟨by omega, by omega⟩
  have g2 := getN2 (a := 2) hbk
  have g4 := getN4 (a := 4) hbk
  have g8 := getN4 (a := 8) hbk
  have g12 := getN4 (a := 12) hbk
  have gk := hbk _ (mem_at (L := b.list) (i := 0) (by omega))
  simp only [U.at] at gk
  have w0 : IntKind.wrap .i64 (nth (U.i 0) b.list 0).int = (nth (U.i 0) b.list 0).int := i64_in (by omega) (by omega)
  have w2 : IntKind.wrap .i64 (getN b.list 2 2) = getN b.list 2 2 := i64_in (by omega) (by omega)
  have w4 : IntKind.wrap .i64 (getN b.list 4 4) = getN b.list 4 4 := i64_in (by omega) (by omega)
  have w8 : IntKind.wrap .i64 (getN b.list 8 4) = getN b.list 8 4 := i64_in (by omega) (by omega)
  have w12 : IntKind.wrap .u32 (IntKind.wrap .i64 (getN b.list 12 4)) = getN b.list 12 4 := by rw [i64_in (by omega) (by omega), u32_in (by omega) (by omega)]
  have hR : egetR b.list k.int = mayR (nth (U.i 0) b.list 0).int (getN b.list 4 4) (getN b.list 2 2) (getN b.list 8 4) (getN b.list 12 4) k.int := by
    unfold egetR
    rw [decide_eq_true hl, show ((U.at b.list 1).int == 0) = true from h1]
    rfl
  have d1 : decide ((0 : Int) < (b.list.length : Int)) = true := decide_eq_true (by omega)
  simp only [d0, d1, cond_true, hb40, Int.toNat_zero, w0, w2, w4, w8, w12, Int.reduceLE, and_self, true_and, Alt_self, ← hR]
  exact bi (fun h2 => by rw [nt h2]; rfl) (fun h2 => by rw [nf h2]; rfl)
theorem reget_ok : SpecF PR 76 egetS := fun fn us hfn => by
  have hf : PR.funcs[(76 : Nat)]? = some Try.f76 := by kernel_rfl
  rw [hf] at hfn; cases hfn
  refine fn_okH (C := regetC) (mkC_ok eqs0_ok mixed_ok (.cons rmay_ok (.consP at_ok .nil)) .nil) hf (by kernel_rfl) (loops_none (by kernel_rfl)) fun hok => ?_
  have hp : Try.f76.params.toList = [32, 3] := by kernel_rfl
  rw [hp] at hok
  obtain ⟨b, k, hus⟩ : ∃ b k, us = [[b], [k]] := by
    obtain ⟨u, u2, rfl, h1, h2⟩ := shape2 (by kernel_rfl : Cs PR 32 = some (false, [.sl false [.int .u8]])) (by kernel_rfl : Cs PR 3 = some (false, [.int .i64])) hok.1
    obtain ⟨b, rfl⟩ := len1 h1
    obtain ⟨k, rfl⟩ := len1 h2
    exact ⟨b, k, rfl⟩
  subst hus
  have hbk : byteOk b.list := bytes_ok (hok.2 [vl (.int .u8) b, vi k] (by kernel_rfl)).1
  refine .eq (reget_tree _ b k) ?_
  have hS : egetS [[b], [k]] = [[.i (bif egetR b.list k.int then eK b.list else 0), .i (bif egetR b.list k.int then eS b.list else 0), .i (bif egetR b.list k.int then eC b.list else 0), .i (bif egetR b.list k.int then eZ b.list else 0), .i (bif egetR b.list k.int then eM b.list else 0)], [.i (bif egetR b.list k.int then 0 else 3)]] := rfl
  rw [hS]
  refine bi (fun h => ?_) (fun h => ?_)
  · have h := nt h
    rw [egetR_no (fun h' => by rw [h'.1] at h; simp at h)]; rfl
  have h := nf h
  simp only [beq_iff_eq] at h
  have hl : b.list.length = 16 := by omega
  have hb40 : b.list.length ≤ 1099511627776 := by omega
  have g0 := getN1 (a := 0) hbk
  have g2 := getN2 (a := 2) hbk
  have g4 := getN4 (a := 4) hbk
  have g8 := getN4 (a := 8) hbk
  have g12 := getN4 (a := 12) hbk
  have w0 : IntKind.wrap .i64 (getN b.list 0 1) = eK b.list := by rw [i64_in (by omega) (by omega), eK_eq hl]
  have w2 : IntKind.wrap .i64 (getN b.list 2 2) = getN b.list 2 2 := i64_in (by omega) (by omega)
  have w4 : IntKind.wrap .i64 (getN b.list 4 4) = getN b.list 4 4 := i64_in (by omega) (by omega)
  have w8 : IntKind.wrap .i64 (getN b.list 8 4) = getN b.list 8 4 := i64_in (by omega) (by omega)
  have w12 : IntKind.wrap .u32 (IntKind.wrap .i64 (getN b.list 12 4)) = getN b.list 12 4 := by rw [i64_in (by omega) (by omega), u32_in (by omega) (by omega)]
  simp only [w0, w2, w4, w8, w12]
  refine ⟨⟨by show (1 : Int) ≤ 1; omega, by show (1 : Int) ≤ 4; omega, hb40⟩, ⟨by show (1 : Int) ≤ 2; omega, by show (2 : Int) ≤ 4; omega, hb40⟩, ⟨by show (1 : Int) ≤ 4; omega, by show (4 : Int) ≤ 4; omega, hb40⟩, ⟨by show (1 : Int) ≤ 4; omega, by show (4 : Int) ≤ 4; omega, hb40⟩, ⟨by show (1 : Int) ≤ 4; omega, by show (4 : Int) ≤ 4; omega, hb40⟩, dt ⟨by omega, by omega⟩ (bi (fun h1 => ?_) (fun h1 => ?_))⟩
  · have h1 := nt h1
    rw [egetR_no (fun h' => by have h2 := h'.2; simp only [U.at] at h2; rw [show Int.toNat 1 = 1 from rfl, h2] at h1; simp at h1)]; rfl
  have h1 := nf h1
  have hR : egetR b.list k.int = mayR (eK b.list) (getN b.list 4 4) (getN b.list 2 2) (getN b.list 8 4) (getN b.list 12 4) k.int := by
    unfold egetR
    rw [decide_eq_true hl, show ((U.at b.list 1).int == 0) = true from h1]
    rfl
  rw [← hR]
  exact bi (fun h2 => by rw [nt h2]; rfl) (fun h2 => by rw [nf h2]; rfl)
end Go.Mat

namespace Go.Mat
open Go Go.Den Go.Proofs
abbrev entT : TypeId := 54
abbrev leafT : TypeId := 51
def entU (b : List U) : U := .l [.i (eK b), .i (eS b), .i (eC b), .i (eZ b), .i (eM b)]
def entsK (b : List U) (k : Int) : Nat → Int → Bool
  | 0, _ => true
  | m + 1, a => decide (a + 16 ≤ (b.length : Int)) && egetR (sub b a 16) k && entsK b k m (a + 16)
def entsG (b : List U) : Nat → Int → List U
  | 0, _ => []
  | m + 1, a => entU (sub b a 16) :: entsG b m (a + 16)
def padU (L : List U) (i : Int) : List U := L ++ List.replicate (i - L.length).toNat (.l [])
def leavesK (b : List U) (k : Int) : Nat → Int → List U → Bool
  | 0, _, _ => true
  | m + 1, a, L => thereR b a 2 && decide ((L.length : Int) ≤ getN b a 2) && decide (getN b a 2 < 512) && entsK b k 8 (a + 2) && leavesK b k m (a + 130) (padU L (getN b a 2) ++ [.l (entsG b 8 (a + 2))])
def leavesG (b : List U) : Nat → Int → List U → List U
  | 0, _, L => L
  | m + 1, a, L => leavesG b m (a + 130) (padU L (getN b a 2) ++ [.l (entsG b 8 (a + 2))])
abbrev tgL (b : List U) (a : Int) : List U := leavesG b (getN b a 2).toNat (a + 2) []
def tgR (b : List U) (a n k : Int) : Bool := thereR b a 2 && leavesK b k (getN b a 2).toNat (a + 2) [] && tableR (tgL b a) n k
def tgP : List (List U) → Prop := fun us => (nth (.i 0) (nth [] us 0) 0).list.length ≤ 1099511627776
def tgS : List (List U) → List (List U) := fun us => [[.l (bif tgR (nth (.i 0) (nth [] us 0) 0).list (nth (.i 0) (nth [] us 1) 0).int (nth (.i 0) (nth [] us 2) 0).int (nth (.i 0) (nth [] us 3) 0).int then tgL (nth (.i 0) (nth [] us 0) 0).list (nth (.i 0) (nth [] us 1) 0).int else [])],
  [.i (bif tgR (nth (.i 0) (nth [] us 0) 0).list (nth (.i 0) (nth [] us 1) 0).int (nth (.i 0) (nth [] us 2) 0).int (nth (.i 0) (nth [] us 3) 0).int then (nth (.i 0) (nth [] us 1) 0).int + 2 + 130 * getN (nth (.i 0) (nth [] us 0) 0).list (nth (.i 0) (nth [] us 1) 0).int 2 else 0)],
  [.i (bif tgR (nth (.i 0) (nth [] us 0) 0).list (nth (.i 0) (nth [] us 1) 0).int (nth (.i 0) (nth [] us 2) 0).int (nth (.i 0) (nth [] us 3) 0).int then 0 else 3)]]
abbrev tgO (L : List U) : List (Nat × Den.Obj) := [(1024, .box [.own 1026]), (1026, .arr leafT []), (1664, .box [.own 1666]), (1666, .arr leafT L)]
abbrev tgBad : St := ⟨[(8, .ptr 1024 0), (9, vi (.i 0)), (10, vi (.i 3))], [(1024, .box [.own 8519682]), (8519682, .arr leafT [])]⟩
def tgIs (o1 o2 : Nat) (t1 t2 : TypeId) (z : List U) (p8 p13 o8 o13 : Nat) : Prop := o1 = 1026 ∧ o2 = 1666 ∧ t1 = leafT ∧ t2 = leafT ∧ z = [] ∧ p8 = 1024 ∧ p13 = 1664 ∧ o8 = 0 ∧ o13 = 0
noncomputable def tgLoop2 : LoopF := fun _ svs os k => match svs, os with
  | [.val (.int .u64) v, .ptr p13 o13, .ptr p8 o8, .val (.sl false [.int .u8]) b, .val (.int .i64) a, .val (.int .i64) n, .val (.int .i64) kk, .val (.int .u64) m, .val (.int .u64) i], [.box [.own o1], .arr t1 z, .box [.own o2], .arr t2 L] =>
    (tgIs o1 o2 t1 t2 z p8 p13 o8 o13 ∧ 0 ≤ v.int ∧ v.int < 512 ∧ L.length ≤ 512) ∧
    k (.exit 2) ⟨[(13, .ptr 1664 0), (8, .ptr 1024 0), (0, vl (.int .u8) b), (1, vi a), (2, vi n), (3, vi kk), (30, vu m), (31, vu i)], tgO (padU L v.int)⟩
  | _, _ => False
noncomputable def tgLoop4 : LoopF := fun _ svs os k => match svs, os with
  | [.val (.int .i64) j, .own o16, .ptr p13 o13, .ptr p8 o8, .val (.sl false [.int .u8]) b, .val (.int .i64) a, .val (.int .i64) n, .val (.int .i64) kk, .val (.int .u64) m, .val (.int .u64) i], [.arr t16 xs, .box [.own o1], .arr t1 z, .box [.own o2], .arr t2 L] =>
    (tgIs o1 o2 t1 t2 z p8 p13 o8 o13 ∧ o16 = 2172 ∧ t16 = entT ∧ a = .i a.int ∧ b.list.length ≤ 1099511627776 ∧ 0 ≤ a.int ∧ a.int ≤ b.list.length ∧ 0 ≤ j.int ∧ j.int ≤ 8 ∧ (xs.length : Int) = j.int ∧ byteOk b.list) ∧
    (bif entsK b.list kk.int (8 - j.int).toNat a.int then
      k (.exit 4) ⟨[(16, .own 2172), (13, .ptr 1664 0), (8, .ptr 1024 0), (0, vl (.int .u8) b), (1, vi (.i (a.int + 16 * (8 - j.int)))), (2, vi n), (3, vi kk), (30, vu m), (31, vu i)], (2172, .arr entT (xs ++ entsG b.list (8 - j.int).toNat a.int)) :: tgO L⟩
      else k .ret tgBad)
  | _, _ => False
noncomputable def tgLoop0 : LoopF := fun _ svs os k => match svs, os with
  | [.val (.int .u64) i, .val (.int .u64) m, .ptr p13 o13, .ptr p8 o8, .val (.sl false [.int .u8]) b, .val (.int .i64) a, .val (.int .i64) n, .val (.int .i64) kk], [.box [.own o1], .arr t1 z, .box [.own o2], .arr t2 L] =>
    (tgIs o1 o2 t1 t2 z p8 p13 o8 o13 ∧ a = .i a.int ∧ b.list.length ≤ 1099511627776 ∧ 0 ≤ a.int ∧ a.int ≤ b.list.length ∧ 0 ≤ i.int ∧ i.int ≤ m.int ∧ m.int ≤ 65535 ∧ L.length ≤ 512 ∧ byteOk b.list) ∧
    (bif leavesK b.list kk.int (m.int - i.int).toNat a.int L then
      k (.exit 0) ⟨[(13, .ptr 1664 0), (8, .ptr 1024 0), (1, vi (.i (a.int + 130 * (m.int - i.int)))), (2, vi n), (3, vi kk)], tgO (leavesG b.list (m.int - i.int).toNat a.int L)⟩
      else k .ret tgBad)
  | _, _ => False
noncomputable def tgC : Ctx := mkC PR eqs0 (fnsConsP 72 getP getS (fnsCons 81 egetS (fnsCons 46 tableS fnsNil))) trsNil
  (loopCons 4 [67, 16, 13, 8, 0, 1, 2, 3, 30, 31] [2172, 1024, 1026, 1664, 1666] tgLoop4 (loopCons 2 [14, 13, 8, 0, 1, 2, 3, 30, 31] [1024, 1026, 1664, 1666] tgLoop2 (loopCons 0 [31, 30, 13, 8, 0, 1, 2, 3] [1024, 1026, 1664, 1666] tgLoop0 noLoops)))
  (outCons 4 [16, 13, 8, 0, 1, 2, 3, 30, 31] [2172, 1024, 1026, 1664, 1666] (outCons 1048580 [8, 9, 10] [1024, 8519682] (outCons 2 [13, 8, 0, 1, 2, 3, 30, 31] [1024, 1026, 1664, 1666] (outCons 0 [13, 8, 1, 2, 3] [1024, 1026, 1664, 1666] (outCons 1048576 [8, 9, 10] [1024, 8519682] noOut))))) noOut
theorem tg_round2 (pan : KP) (μ : Mu) (N : Nat) (k : KE) (v b a n kk m i : U) (L : List U) : (exec (tgC.panics pan) (loopBody Try.f74 1) 2 ⟨[(14, vu v), (13, .ptr 1664 0), (8, .ptr 1024 0), (0, vl (.int .u8) b), (1, vi a), (2, vi n), (3, vi kk), (30, vu m), (31, vu i)], tgO L⟩ (again PR (some ([13, 8, 0, 1, 2, 3, 30, 31], [1024, 1026, 1664, 1666])) none pan [14, 13, 8, 0, 1, 2, 3, 30, 31] [1024, 1026, 1664, 1666] tgLoop2 μ N k)) = (bif decide ((L.length : Int) < IntKind.wrap .i64 v.int) then bif decide (List.length L + ((0 : Nat) + (1 : Nat)) ≤ room) && !oddB (1666 : Nat) then bif Nat.blt (μ [.val (.int IntKind.u64) v, .ptr (nat_lit 1664) (nat_lit 0), .ptr (nat_lit 1024) (nat_lit 0), .val (.sl false [.int .u8]) b, .val (.int IntKind.i64) a, .val (.int IntKind.i64) n, .val (.int IntKind.i64) kk, .val (.int IntKind.u64) m, .val (.int IntKind.u64) i] [.box [.own (nat_lit 1026)], .arr (nat_lit 51) [], .box [.own (nat_lit 1666)], .arr (nat_lit 51) (L ++ [U.l []])]) N then (tgIs (1026 : Nat) (1666 : Nat) leafT (51 : Nat) [] (1024 : Nat) (1664 : Nat) (0 : Nat) (0 : Nat) ∧ (0 : Int) ≤ v.int ∧ v.int < (512 : Int) ∧ List.length (L ++ [U.l []]) ≤ (512 : Nat)) ∧ k (Ex.exit (nat_lit 2)) (St.mk [(nat_lit 13, .ptr (nat_lit 1664) (nat_lit 0)), (nat_lit 8, .ptr (nat_lit 1024) (nat_lit 0)), (nat_lit 0, .val (.sl false [.int .u8]) b), (nat_lit 1, .val (.int IntKind.i64) a), (nat_lit 2, .val (.int IntKind.i64) n), (nat_lit 3, .val (.int IntKind.i64) kk), (nat_lit 30, .val (.int IntKind.u64) m), (nat_lit 31, .val (.int IntKind.u64) i)] [(nat_lit 1024, .box [.own (nat_lit 1026)]), (nat_lit 1026, .arr (nat_lit 51) []), (nat_lit 1664, .box [.own (nat_lit 1666)]), (nat_lit 1666, .arr (nat_lit 51) (padU (L ++ [U.l []]) v.int))]) else False else False else k (Ex.exit (nat_lit 2)) (St.mk [(nat_lit 13, .ptr (nat_lit 1664) (nat_lit 0)), (nat_lit 8, .ptr (nat_lit 1024) (nat_lit 0)), (nat_lit 0, .val (.sl false [.int .u8]) b), (nat_lit 1, .val (.int IntKind.i64) a), (nat_lit 2, .val (.int IntKind.i64) n), (nat_lit 3, .val (.int IntKind.i64) kk), (nat_lit 30, .val (.int IntKind.u64) m), (nat_lit 31, .val (.int IntKind.u64) i)] [(nat_lit 1024, .box [.own (nat_lit 1026)]), (nat_lit 1026, .arr (nat_lit 51) []), (nat_lit 1664, .box [.own (nat_lit 1666)]), (nat_lit 1666, .arr (nat_lit 51) L)])) := by kernel_rfl
theorem tg_round4 (pan : KP) (μ : Mu) (N : Nat) (k : KE) (j b a n kk m i : U) (xs L : List U) : (exec (tgC.panics pan) (loopBody Try.f74 2) 4 ⟨[(67, vi j), (16, .own 2172), (13, .ptr 1664 0), (8, .ptr 1024 0), (0, vl (.int .u8) b), (1, vi a), (2, vi n), (3, vi kk), (30, vu m), (31, vu i)], (2172, .arr entT xs) :: tgO L⟩ (again PR (some ([16, 13, 8, 0, 1, 2, 3, 30, 31], [2172, 1024, 1026, 1664, 1666])) (some ([8, 9, 10], [1024, 8519682])) pan [67, 16, 13, 8, 0, 1, 2, 3, 30, 31] [2172, 1024, 1026, 1664, 1666] tgLoop4 μ N k)) = (bif decide (j.int < (8 : Int)) then bif decide (IntKind.wrap .i64 ((b.list.length : Int) - a.int) < (16 : Int)) then k Ex.ret (St.mk [(nat_lit 8, .ptr (nat_lit 1024) (nat_lit 0)), (nat_lit 9, .val (.int IntKind.i64) (U.i (0 : Int))), (nat_lit 10, .val (.int IntKind.i64) (U.i (3 : Int)))] [(nat_lit 1024, .box [.own (nat_lit 8519682)]), (nat_lit 8519682, .arr (nat_lit 51) [])]) else bif decide ((0 : Int) ≤ a.int ∧ a.int ≤ IntKind.wrap .i64 (a.int + (16 : Int)) ∧ IntKind.wrap .i64 (a.int + (16 : Int)) ≤ IntKind.wrap .i64 (a.int + (16 : Int)) ∧ IntKind.wrap .i64 (a.int + (16 : Int)) ≤ (b.list.length : Int)) && true then bif (bif egetR (List.drop (Int.toNat a.int) (List.take (Int.toNat (IntKind.wrap .i64 (a.int + (16 : Int)))) b.list)) kk.int then (0 : Int) else (3 : Int)) != (0 : Int) then k Ex.ret (St.mk [(nat_lit 8, .ptr (nat_lit 1024) (nat_lit 0)), (nat_lit 9, .val (.int IntKind.i64) (U.i (0 : Int))), (nat_lit 10, .val (.int IntKind.i64) (U.i (3 : Int)))] [(nat_lit 1024, .box [.own (nat_lit 8519682)]), (nat_lit 8519682, .arr (nat_lit 51) [])]) else bif decide (List.length xs + ((0 : Nat) + (1 : Nat)) ≤ room) && !oddB (2172 : Nat) then bif Nat.blt (μ [.val (.int IntKind.i64) (U.i (IntKind.wrap .i64 (j.int + (1 : Int)))), .own (nat_lit 2172), .ptr (nat_lit 1664) (nat_lit 0), .ptr (nat_lit 1024) (nat_lit 0), .val (.sl false [.int .u8]) b, .val (.int IntKind.i64) (U.i (IntKind.wrap .i64 (a.int + (16 : Int)))), .val (.int IntKind.i64) n, .val (.int IntKind.i64) kk, .val (.int IntKind.u64) m, .val (.int IntKind.u64) i] [.arr (nat_lit 54) (xs ++ [U.l [U.i (bif egetR (List.drop (Int.toNat a.int) (List.take (Int.toNat (IntKind.wrap .i64 (a.int + (16 : Int)))) b.list)) kk.int then eK (List.drop (Int.toNat a.int) (List.take (Int.toNat (IntKind.wrap .i64 (a.int + (16 : Int)))) b.list)) else (0 : Int)), U.i (bif egetR (List.drop (Int.toNat a.int) (List.take (Int.toNat (IntKind.wrap .i64 (a.int + (16 : Int)))) b.list)) kk.int then eS (List.drop (Int.toNat a.int) (List.take (Int.toNat (IntKind.wrap .i64 (a.int + (16 : Int)))) b.list)) else (0 : Int)), U.i (bif egetR (List.drop (Int.toNat a.int) (List.take (Int.toNat (IntKind.wrap .i64 (a.int + (16 : Int)))) b.list)) kk.int then eC (List.drop (Int.toNat a.int) (List.take (Int.toNat (IntKind.wrap .i64 (a.int + (16 : Int)))) b.list)) else (0 : Int)), U.i (bif egetR (List.drop (Int.toNat a.int) (List.take (Int.toNat (IntKind.wrap .i64 (a.int + (16 : Int)))) b.list)) kk.int then eZ (List.drop (Int.toNat a.int) (List.take (Int.toNat (IntKind.wrap .i64 (a.int + (16 : Int)))) b.list)) else (0 : Int)), U.i (bif egetR (List.drop (Int.toNat a.int) (List.take (Int.toNat (IntKind.wrap .i64 (a.int + (16 : Int)))) b.list)) kk.int then eM (List.drop (Int.toNat a.int) (List.take (Int.toNat (IntKind.wrap .i64 (a.int + (16 : Int)))) b.list)) else (0 : Int))]]), .box [.own (nat_lit 1026)], .arr (nat_lit 51) [], .box [.own (nat_lit 1666)], .arr (nat_lit 51) L]) N then (tgIs (1026 : Nat) (1666 : Nat) leafT leafT [] (1024 : Nat) (1664 : Nat) (0 : Nat) (0 : Nat) ∧ nat_lit 2172 = nat_lit 2172 ∧ nat_lit 54 = nat_lit 54 ∧ U.i (IntKind.wrap .i64 (a.int + (16 : Int))) = U.i (IntKind.wrap .i64 (a.int + (16 : Int))) ∧ b.list.length ≤ (1099511627776 : Nat) ∧ (0 : Int) ≤ IntKind.wrap .i64 (a.int + (16 : Int)) ∧ IntKind.wrap .i64 (a.int + (16 : Int)) ≤ (b.list.length : Int) ∧ (0 : Int) ≤ IntKind.wrap .i64 (j.int + (1 : Int)) ∧ IntKind.wrap .i64 (j.int + (1 : Int)) ≤ (8 : Int) ∧ (↑(List.length (xs ++ [U.l [U.i (bif egetR (List.drop (Int.toNat a.int) (List.take (Int.toNat (IntKind.wrap .i64 (a.int + (16 : Int)))) b.list)) kk.int then eK (List.drop (Int.toNat a.int) (List.take (Int.toNat (IntKind.wrap .i64 (a.int + (16 : Int)))) b.list)) else (0 : Int)), U.i (bif egetR (List.drop (Int.toNat a.int) (List.take (Int.toNat (IntKind.wrap .i64 (a.int + (16 : Int)))) b.list)) kk.int then eS (List.drop (Int.toNat a.int) (List.take (Int.toNat (IntKind.wrap .i64 (a.int + (16 : Int)))) b.list)) else (0 : Int)), U.i (bif egetR (List.drop (Int.toNat a.int) (List.take (Int.toNat (IntKind.wrap .i64 (a.int + (16 : Int)))) b.list)) kk.int then eC (List.drop (Int.toNat a.int) (List.take (Int.toNat (IntKind.wrap .i64 (a.int + (16 : Int)))) b.list)) else (0 : Int)), U.i (bif egetR (List.drop (Int.toNat a.int) (List.take (Int.toNat (IntKind.wrap .i64 (a.int + (16 : Int)))) b.list)) kk.int then eZ (List.drop (Int.toNat a.int) (List.take (Int.toNat (IntKind.wrap .i64 (a.int + (16 : Int)))) b.list)) else (0 : Int)), U.i (bif egetR (List.drop (Int.toNat a.int) (List.take (Int.toNat (IntKind.wrap .i64 (a.int + (16 : Int)))) b.list)) kk.int then eM (List.drop (Int.toNat a.int) (List.take (Int.toNat (IntKind.wrap .i64 (a.int + (16 : Int)))) b.list)) else (0 : Int))]])) : Int) = IntKind.wrap .i64 (j.int + (1 : Int)) ∧ byteOk b.list) ∧ bif entsK b.list kk.int (Int.toNat ((8 : Int) - IntKind.wrap .i64 (j.int + (1 : Int)))) (IntKind.wrap .i64 (a.int + (16 : Int))) then k (Ex.exit (nat_lit 4)) (St.mk [(nat_lit 16, .own (nat_lit 2172)), (nat_lit 13, .ptr (nat_lit 1664) (nat_lit 0)), (nat_lit 8, .ptr (nat_lit 1024) (nat_lit 0)), (nat_lit 0, .val (.sl false [.int .u8]) b), (nat_lit 1, .val (.int IntKind.i64) (U.i (IntKind.wrap .i64 (a.int + (16 : Int)) + (16 : Int) * ((8 : Int) - IntKind.wrap .i64 (j.int + (1 : Int)))))), (nat_lit 2, .val (.int IntKind.i64) n), (nat_lit 3, .val (.int IntKind.i64) kk), (nat_lit 30, .val (.int IntKind.u64) m), (nat_lit 31, .val (.int IntKind.u64) i)] [(nat_lit 2172, .arr (nat_lit 54) (xs ++ [U.l [U.i (bif egetR (List.drop (Int.toNat a.int) (List.take (Int.toNat (IntKind.wrap .i64 (a.int + (16 : Int)))) b.list)) kk.int then eK (List.drop (Int.toNat a.int) (List.take (Int.toNat (IntKind.wrap .i64 (a.int + (16 : Int)))) b.list)) else (0 : Int)), U.i (bif egetR (List.drop (Int.toNat a.int) (List.take (Int.toNat (IntKind.wrap .i64 (a.int + (16 : Int)))) b.list)) kk.int then eS (List.drop (Int.toNat a.int) (List.take (Int.toNat (IntKind.wrap .i64 (a.int + (16 : Int)))) b.list)) else (0 : Int)), U.i (bif egetR (List.drop (Int.toNat a.int) (List.take (Int.toNat (IntKind.wrap .i64 (a.int + (16 : Int)))) b.list)) kk.int then eC (List.drop (Int.toNat a.int) (List.take (Int.toNat (IntKind.wrap .i64 (a.int + (16 : Int)))) b.list)) else (0 : Int)), U.i (bif egetR (List.drop (Int.toNat a.int) (List.take (Int.toNat (IntKind.wrap .i64 (a.int + (16 : Int)))) b.list)) kk.int then eZ (List.drop (Int.toNat a.int) (List.take (Int.toNat (IntKind.wrap .i64 (a.int + (16 : Int)))) b.list)) else (0 : Int)), U.i (bif egetR (List.drop (Int.toNat a.int) (List.take (Int.toNat (IntKind.wrap .i64 (a.int + (16 : Int)))) b.list)) kk.int then eM (List.drop (Int.toNat a.int) (List.take (Int.toNat (IntKind.wrap .i64 (a.int + (16 : Int)))) b.list)) else (0 : Int))]] ++ entsG b.list (Int.toNat ((8 : Int) - IntKind.wrap .i64 (j.int + (1 : Int)))) (IntKind.wrap .i64 (a.int + (16 : Int))))), (nat_lit 1024, .box [.own (nat_lit 1026)]), (nat_lit 1026, .arr (nat_lit 51) []), (nat_lit 1664, .box [.own (nat_lit 1666)]), (nat_lit 1666, .arr (nat_lit 51) L)]) else k Ex.ret (St.mk [(nat_lit 8, .ptr (nat_lit 1024) (nat_lit 0)), (nat_lit 9, .val (.int IntKind.i64) (U.i (0 : Int))), (nat_lit 10, .val (.int IntKind.i64) (U.i (3 : Int)))] [(nat_lit 1024, .box [.own (nat_lit 8519682)]), (nat_lit 8519682, .arr (nat_lit 51) [])]) else False else False else False else k (Ex.exit (nat_lit 4)) (St.mk [(nat_lit 16, .own (nat_lit 2172)), (nat_lit 13, .ptr (nat_lit 1664) (nat_lit 0)), (nat_lit 8, .ptr (nat_lit 1024) (nat_lit 0)), (nat_lit 0, .val (.sl false [.int .u8]) b), (nat_lit 1, .val (.int IntKind.i64) a), (nat_lit 2, .val (.int IntKind.i64) n), (nat_lit 3, .val (.int IntKind.i64) kk), (nat_lit 30, .val (.int IntKind.u64) m), (nat_lit 31, .val (.int IntKind.u64) i)] [(nat_lit 2172, .arr (nat_lit 54) xs), (nat_lit 1024, .box [.own (nat_lit 1026)]), (nat_lit 1026, .arr (nat_lit 51) []), (nat_lit 1664, .box [.own (nat_lit 1666)]), (nat_lit 1666, .arr (nat_lit 51) L)])) := by kernel_rfl
theorem tg_round0 (pan : KP) (μ : Mu) (N : Nat) (k : KE) (i m b a n kk : U) (L : List U) : (exec (tgC.panics pan) (loopBody Try.f74 0) 0 ⟨[(31, vu i), (30, vu m), (13, .ptr 1664 0), (8, .ptr 1024 0), (0, vl (.int .u8) b), (1, vi a), (2, vi n), (3, vi kk)], tgO L⟩ (again PR (some ([13, 8, 1, 2, 3], [1024, 1026, 1664, 1666])) (some ([8, 9, 10], [1024, 8519682])) pan [31, 30, 13, 8, 0, 1, 2, 3] [1024, 1026, 1664, 1666] tgLoop0 μ N k)) = (bif decide (i.int < m.int) then getP [[b], [a], [U.i (2 : Int)], [U.b false]] ∧ bif getE b.list a.int (2 : Int) != (0 : Int) then k Ex.ret (St.mk [(nat_lit 8, .ptr (nat_lit 1024) (nat_lit 0)), (nat_lit 9, .val (.int IntKind.i64) (U.i (0 : Int))), (nat_lit 10, .val (.int IntKind.i64) (U.i (3 : Int)))] [(nat_lit 1024, .box [.own (nat_lit 8519682)]), (nat_lit 8519682, .arr (nat_lit 51) [])]) else bif decide (IntKind.wrap .i64 (getN b.list a.int (2 : Int)) < (L.length : Int)) then k Ex.ret (St.mk [(nat_lit 8, .ptr (nat_lit 1024) (nat_lit 0)), (nat_lit 9, .val (.int IntKind.i64) (U.i (0 : Int))), (nat_lit 10, .val (.int IntKind.i64) (U.i (3 : Int)))] [(nat_lit 1024, .box [.own (nat_lit 8519682)]), (nat_lit 8519682, .arr (nat_lit 51) [])]) else bif decide (getN b.list a.int (2 : Int) ≥ (512 : Int)) then k Ex.ret (St.mk [(nat_lit 8, .ptr (nat_lit 1024) (nat_lit 0)), (nat_lit 9, .val (.int IntKind.i64) (U.i (0 : Int))), (nat_lit 10, .val (.int IntKind.i64) (U.i (3 : Int)))] [(nat_lit 1024, .box [.own (nat_lit 8519682)]), (nat_lit 8519682, .arr (nat_lit 51) [])]) else (tgIs (1026 : Nat) (1666 : Nat) leafT leafT [] (1024 : Nat) (1664 : Nat) (0 : Nat) (0 : Nat) ∧ (0 : Int) ≤ getN b.list a.int (2 : Int) ∧ getN b.list a.int (2 : Int) < (512 : Int) ∧ List.length L ≤ (512 : Nat)) ∧ (tgIs (1026 : Nat) (1666 : Nat) leafT leafT [] (1024 : Nat) (1664 : Nat) (0 : Nat) (0 : Nat) ∧ nat_lit 2172 = nat_lit 2172 ∧ nat_lit 54 = nat_lit 54 ∧ U.i (IntKind.wrap .i64 (a.int + (2 : Int))) = U.i (IntKind.wrap .i64 (a.int + (2 : Int))) ∧ b.list.length ≤ (1099511627776 : Nat) ∧ (0 : Int) ≤ IntKind.wrap .i64 (a.int + (2 : Int)) ∧ IntKind.wrap .i64 (a.int + (2 : Int)) ≤ (b.list.length : Int) ∧ (0 : Int) ≤ (0 : Int) ∧ (0 : Int) ≤ (8 : Int) ∧ (↑(0 : Nat) : Int) = (0 : Int) ∧ byteOk b.list) ∧ bif entsK b.list kk.int (Int.toNat ((8 : Int) - (0 : Int))) (IntKind.wrap .i64 (a.int + (2 : Int))) then bif decide (List.length (padU L (getN b.list a.int (2 : Int))) + ((0 : Nat) + (1 : Nat)) ≤ room) && !oddB (1666 : Nat) then bif Nat.blt (μ [.val (.int IntKind.u64) (U.i (IntKind.wrap .u64 (i.int + (1 : Int)))), .val (.int IntKind.u64) m, .ptr (nat_lit 1664) (nat_lit 0), .ptr (nat_lit 1024) (nat_lit 0), .val (.sl false [.int .u8]) b, .val (.int IntKind.i64) (U.i (IntKind.wrap .i64 (a.int + (2 : Int)) + (16 : Int) * ((8 : Int) - (0 : Int)))), .val (.int IntKind.i64) n, .val (.int IntKind.i64) kk] [.box [.own (nat_lit 1026)], .arr (nat_lit 51) [], .box [.own (nat_lit 1666)], .arr (nat_lit 51) (padU L (getN b.list a.int (2 : Int)) ++ [U.l ([] ++ entsG b.list (Int.toNat ((8 : Int) - (0 : Int))) (IntKind.wrap .i64 (a.int + (2 : Int))))])]) N then (tgIs (1026 : Nat) (1666 : Nat) leafT (51 : Nat) [] (1024 : Nat) (1664 : Nat) (0 : Nat) (0 : Nat) ∧ U.i (IntKind.wrap .i64 (a.int + (2 : Int)) + (16 : Int) * ((8 : Int) - (0 : Int))) = U.i (IntKind.wrap .i64 (a.int + (2 : Int)) + (16 : Int) * ((8 : Int) - (0 : Int))) ∧ b.list.length ≤ (1099511627776 : Nat) ∧ (0 : Int) ≤ IntKind.wrap .i64 (a.int + (2 : Int)) + (16 : Int) * ((8 : Int) - (0 : Int)) ∧ IntKind.wrap .i64 (a.int + (2 : Int)) + (16 : Int) * ((8 : Int) - (0 : Int)) ≤ (b.list.length : Int) ∧ (0 : Int) ≤ IntKind.wrap .u64 (i.int + (1 : Int)) ∧ IntKind.wrap .u64 (i.int + (1 : Int)) ≤ m.int ∧ m.int ≤ (65535 : Int) ∧ List.length (padU L (getN b.list a.int (2 : Int)) ++ [U.l ([] ++ entsG b.list (Int.toNat ((8 : Int) - (0 : Int))) (IntKind.wrap .i64 (a.int + (2 : Int))))]) ≤ (512 : Nat) ∧ byteOk b.list) ∧ bif leavesK b.list kk.int (Int.toNat (m.int - IntKind.wrap .u64 (i.int + (1 : Int)))) (IntKind.wrap .i64 (a.int + (2 : Int)) + (16 : Int) * ((8 : Int) - (0 : Int))) (padU L (getN b.list a.int (2 : Int)) ++ [U.l ([] ++ entsG b.list (Int.toNat ((8 : Int) - (0 : Int))) (IntKind.wrap .i64 (a.int + (2 : Int))))]) then k (Ex.exit (nat_lit 0)) (St.mk [(nat_lit 13, .ptr (nat_lit 1664) (nat_lit 0)), (nat_lit 8, .ptr (nat_lit 1024) (nat_lit 0)), (nat_lit 1, .val (.int IntKind.i64) (U.i (IntKind.wrap .i64 (a.int + (2 : Int)) + (16 : Int) * ((8 : Int) - (0 : Int)) + (130 : Int) * (m.int - IntKind.wrap .u64 (i.int + (1 : Int)))))), (nat_lit 2, .val (.int IntKind.i64) n), (nat_lit 3, .val (.int IntKind.i64) kk)] [(nat_lit 1024, .box [.own (nat_lit 1026)]), (nat_lit 1026, .arr (nat_lit 51) []), (nat_lit 1664, .box [.own (nat_lit 1666)]), (nat_lit 1666, .arr (nat_lit 51) (leavesG b.list (Int.toNat (m.int - IntKind.wrap .u64 (i.int + (1 : Int)))) (IntKind.wrap .i64 (a.int + (2 : Int)) + (16 : Int) * ((8 : Int) - (0 : Int))) (padU L (getN b.list a.int (2 : Int)) ++ [U.l ([] ++ entsG b.list (Int.toNat ((8 : Int) - (0 : Int))) (IntKind.wrap .i64 (a.int + (2 : Int))))])))]) else k Ex.ret (St.mk [(nat_lit 8, .ptr (nat_lit 1024) (nat_lit 0)), (nat_lit 9, .val (.int IntKind.i64) (U.i (0 : Int))), (nat_lit 10, .val (.int IntKind.i64) (U.i (3 : Int)))] [(nat_lit 1024, .box [.own (nat_lit 8519682)]), (nat_lit 8519682, .arr (nat_lit 51) [])]) else False else False else k Ex.ret (St.mk [(nat_lit 8, .ptr (nat_lit 1024) (nat_lit 0)), (nat_lit 9, .val (.int IntKind.i64) (U.i (0 : Int))), (nat_lit 10, .val (.int IntKind.i64) (U.i (3 : Int)))] [(nat_lit 1024, .box [.own (nat_lit 8519682)]), (nat_lit 8519682, .arr (nat_lit 51) [])]) else k (Ex.exit (nat_lit 0)) (St.mk [(nat_lit 13, .ptr (nat_lit 1664) (nat_lit 0)), (nat_lit 8, .ptr (nat_lit 1024) (nat_lit 0)), (nat_lit 1, .val (.int IntKind.i64) a), (nat_lit 2, .val (.int IntKind.i64) n), (nat_lit 3, .val (.int IntKind.i64) kk)] [(nat_lit 1024, .box [.own (nat_lit 1026)]), (nat_lit 1026, .arr (nat_lit 51) []), (nat_lit 1664, .box [.own (nat_lit 1666)]), (nat_lit 1666, .arr (nat_lit 51) L)])) := by kernel_rfl
theorem tg_tree (R : RF) (b a n k : U) : (run tgC Try.f74 [[b], [a], [n], [k]] R) = (getP [[b], [a], [U.i (2 : Int)], [U.b false]] ∧ bif getE b.list a.int (2 : Int) != (0 : Int) then R [[U.l []], [U.i (0 : Int)], [U.i (3 : Int)]] else (tgIs ((2 : Nat) * ((8 : Nat) * (64 : Nat) + (1 : Nat))) ((2 : Nat) * ((13 : Nat) * (64 : Nat) + (1 : Nat))) (51 : Nat) (51 : Nat) [] ((2 : Nat) * ((8 : Nat) * (64 : Nat))) ((2 : Nat) * ((13 : Nat) * (64 : Nat))) (0 : Nat) (0 : Nat) ∧ U.i (IntKind.wrap .i64 (a.int + (2 : Int))) = U.i (IntKind.wrap .i64 (a.int + (2 : Int))) ∧ b.list.length ≤ (1099511627776 : Nat) ∧ (0 : Int) ≤ IntKind.wrap .i64 (a.int + (2 : Int)) ∧ IntKind.wrap .i64 (a.int + (2 : Int)) ≤ (b.list.length : Int) ∧ (0 : Int) ≤ (0 : Int) ∧ (0 : Int) ≤ getN b.list a.int (2 : Int) ∧ getN b.list a.int (2 : Int) ≤ (65535 : Int) ∧ (0 : Nat) ≤ (512 : Nat) ∧ byteOk b.list) ∧ bif leavesK b.list k.int (Int.toNat (getN b.list a.int (2 : Int) - (0 : Int))) (IntKind.wrap .i64 (a.int + (2 : Int))) [] then bif !tableR (leavesG b.list (Int.toNat (getN b.list a.int (2 : Int) - (0 : Int))) (IntKind.wrap .i64 (a.int + (2 : Int))) []) n.int k.int then R [[U.l []], [U.i (0 : Int)], [U.i (3 : Int)]] else R [[U.l (leavesG b.list (Int.toNat (getN b.list a.int (2 : Int) - (0 : Int))) (IntKind.wrap .i64 (a.int + (2 : Int))) [])], [U.i (IntKind.wrap .i64 (a.int + (2 : Int)) + (130 : Int) * (getN b.list a.int (2 : Int) - (0 : Int)))], [U.i (0 : Int)]] else R [[U.l []], [U.i (0 : Int)], [U.i (3 : Int)]]) := by kernel_rfl
end Go.Mat

namespace Go.Mat
open Go Go.Den Go.Proofs
theorem padU_step {L : List U} {v : Int} (h : (L.length : Int) < v) : padU (L ++ [.l []]) v = padU L v := by
  unfold padU
  rw [List.length_append, List.length_singleton, List.append_assoc, show (v - (L.length : Int)).toNat = (v - ((L.length + 1 : Nat) : Int)).toNat + 1 by omega, List.replicate_succ]
  rfl
theorem padU_all {L : List U} {v : Int} (h : v ≤ (L.length : Int)) : padU L v = L := by
  unfold padU
  rw [show (v - (L.length : Int)).toNat = 0 by omega]
  simp
theorem padU_len {L : List U} {v : Int} (h : (L.length : Int) ≤ v) : ((padU L v).length : Int) = v := by
  unfold padU
  rw [List.length_append, List.length_replicate]; omega
theorem entsK_len {b : List U} {k : Int} : ∀ {m : Nat} {a : Int}, a ≤ b.length → entsK b k m a = true → a + 16 * m ≤ (b.length : Int)
  | 0, a, h, _ => by omega
  | m + 1, a, _, h => by
    rw [entsK] at h
    simp only [Bool.and_eq_true, decide_eq_true_eq] at h
    have := entsK_len h.1.1 h.2
    omega
theorem tgIs_rfl : tgIs 1026 1666 leafT leafT [] 1024 1664 0 0 := ⟨rfl, rfl, rfl, rfl, rfl, rfl, rfl, rfl, rfl⟩
theorem tg_loop2 : LoopOk tgC 2 (loopBody Try.f74 1) := by
  refine loopOk_of (F := tgLoop2) (ts := [14, 13, 8, 0, 1, 2, 3, 30, 31]) (os := [1024, 1026, 1664, 1666]) rfl (fun svs os => match svs, os with | .val _ v :: _, [_, _, _, .arr _ L] => (v.int - (L.length : Int)).toNat | _, _ => 0) ?_
  intro pan svs os k ho1 ho2 h
  unfold tgLoop2 at h
  split at h
  · rename_i v p13 o13 p8 o8 b a n kk m i o1 t1 z o2 t2 L
    obtain ⟨⟨⟨rfl, rfl, rfl, rfl, rfl, rfl, rfl, rfl, rfl⟩, h0, h5, hl⟩, hk⟩ := h
    refine .eq (tg_round2 pan _ _ k v b a n kk m i L) ?_
    have hw : IntKind.wrap .i64 v.int = v.int := i64_in (by omega) (by omega)
    simp only [hw]
    refine bd (fun hlt => ?_) (fun hlt => ?_)
    · have hlt' : (v.int - ((L ++ [U.l []]).length : Int)).toNat < (v.int - (L.length : Int)).toNat := by
        rw [List.length_append, List.length_singleton]; omega
      rw [← padU_step hlt] at hk
      exact broom (by simp [room]; omega) rfl (blt hlt' ⟨⟨tgIs_rfl, h0, h5, by rw [List.length_append, List.length_singleton]; omega⟩, hk⟩)
    · rw [padU_all (by omega)] at hk
      exact hk
  · exact h.elim
theorem tg_loop4 : LoopOk tgC 4 (loopBody Try.f74 2) := by
  refine loopOk_of (F := tgLoop4) (ts := [67, 16, 13, 8, 0, 1, 2, 3, 30, 31]) (os := [2172, 1024, 1026, 1664, 1666]) rfl (fun svs _ => match svs with | .val _ j :: _ => (8 - j.int).toNat | _ => 0) ?_
  intro pan svs os k ho1 ho2 h
  unfold tgLoop4 at h
  split at h
  · rename_i j o16 p13 o13 p8 o8 b a n kk m i t16 xs o1 t1 z o2 t2 L
    obtain ⟨⟨⟨rfl, rfl, rfl, rfl, rfl, rfl, rfl, rfl, rfl⟩, rfl, rfl, ha, hb, h0, h1, h2, h3, hx, hbk⟩, hk⟩ := h
    refine .eq (tg_round4 pan _ _ k j b a n kk m i xs L) ?_
    have w1 : IntKind.wrap .i64 ((b.list.length : Int) - a.int) = (b.list.length : Int) - a.int := i64_in (by omega) (by omega)
    have w2 : IntKind.wrap .i64 (a.int + 16) = a.int + 16 := i64_in (by omega) (by omega)
    have w3 : IntKind.wrap .i64 (j.int + 1) = j.int + 1 := i64_in (by omega) (by omega)
    have hs : List.drop a.int.toNat (List.take (a.int + 16).toNat b.list) = sub b.list a.int 16 := rfl
    simp only [w1, w2, w3, hs]
    refine bd (fun hlt => ?_) (fun hlt => ?_)
    · rw [show (8 - j.int).toNat = (8 - (j.int + 1)).toNat + 1 by omega, entsK, entsG] at hk
      refine bd (fun h16 => ?_) (fun h16 => ?_)
      · rw [decide_eq_false (by omega : ¬ a.int + 16 ≤ (b.list.length : Int)), Bool.false_and, Bool.false_and, cond_false] at hk
        exact hk
      · refine broom ⟨by omega, by omega, by omega, by omega⟩ rfl ?_
        rw [decide_eq_true (by omega : a.int + 16 ≤ (b.list.length : Int)), Bool.true_and] at hk
        cases hE : egetR (sub b.list a.int 16) kk.int with
        | false =>
          rw [hE, Bool.false_and, cond_false] at hk
          exact hk
        | true =>
          rw [hE, Bool.true_and] at hk
          have hlt' : (8 - (j.int + 1)).toNat < (8 - j.int).toNat := by omega
          have hkk : (bif entsK b.list kk.int (8 - (j.int + 1)).toNat (a.int + 16) then
              k (.exit 4) ⟨[(16, .own 2172), (13, .ptr 1664 0), (8, .ptr 1024 0), (0, vl (.int .u8) b), (1, vi (.i (a.int + 16 + 16 * (8 - (j.int + 1))))), (2, vi n), (3, vi kk), (30, vu m), (31, vu i)], (2172, .arr entT ((xs ++ [entU (sub b.list a.int 16)]) ++ entsG b.list (8 - (j.int + 1)).toNat (a.int + 16))) :: tgO L⟩
              else k .ret tgBad) := by
            rw [List.append_assoc, List.singleton_append, show a.int + 16 + 16 * (8 - (j.int + 1)) = a.int + 16 * (8 - j.int) by omega]
            exact hk
          refine broom (by simp [room]; omega) rfl (blt hlt' ⟨⟨tgIs_rfl, by trivial, by trivial, by trivial, hb, by omega, by omega, by omega, by omega, by rw [List.length_append, List.length_singleton]; omega, hbk⟩, hkk⟩)
    · have hj : j.int = 8 := by omega
      rw [hj, show (8 - (8 : Int)).toNat = 0 from rfl, entsK, entsG, List.append_nil, cond_true, show a.int + 16 * (8 - (8 : Int)) = a.int by omega, ← ha] at hk
      exact hk
  · exact h.elim
theorem tg_loop0 : LoopOk tgC 0 (loopBody Try.f74 0) := by
  refine loopOk_of (F := tgLoop0) (ts := [31, 30, 13, 8, 0, 1, 2, 3]) (os := [1024, 1026, 1664, 1666]) rfl (fun svs _ => match svs with | .val _ i :: .val _ m :: _ => (m.int - i.int).toNat | _ => 0) ?_
  intro pan svs os k ho1 ho2 h
  unfold tgLoop0 at h
  split at h
  · rename_i i m p13 o13 p8 o8 b a n kk o1 t1 z o2 t2 L
    obtain ⟨⟨⟨rfl, rfl, rfl, rfl, rfl, rfl, rfl, rfl, rfl⟩, ha, hb, h0, h1, h2, h3, h4, hl, hbk⟩, hk⟩ := h
    refine .eq (tg_round0 pan _ _ k i m b a n kk L) ?_
    have hn := getN2 (a := a.int) hbk
    have w2 : IntKind.wrap .i64 (a.int + 2) = a.int + 2 := i64_in (by omega) (by omega)
    have w3 : IntKind.wrap .u64 (i.int + 1) = i.int + 1 := u64_in (by omega) (by omega)
    have w4 : IntKind.wrap .i64 (getN b.list a.int 2) = getN b.list a.int 2 := i64_in (by omega) (by omega)
    have e8 : ((8 : Int) - 0).toNat = 8 := rfl
    simp only [w2, w3, w4, e8, getE_iff, List.nil_append]
    refine bd (fun hlt => ⟨⟨by show (1 : Int) ≤ 2; omega, by show (2 : Int) ≤ 4; omega, rfl, hb⟩, ?_⟩) (fun hlt => ?_)
    · rw [show (m.int - i.int).toNat = (m.int - (i.int + 1)).toNat + 1 by omega, leavesK, leavesG] at hk
      refine bi (fun ht => ?_) (fun ht => ?_)
      · have ht := nt ht
        rw [show thereR b.list a.int 2 = false by simpa using ht, Bool.false_and, Bool.false_and, Bool.false_and, Bool.false_and, cond_false] at hk
        exact hk
      have ht : thereR b.list a.int 2 = true := by simpa using nf ht
      have hi := thereR_iff.1 ht
      rw [ht, Bool.true_and] at hk
      refine bd (fun hc => ?_) (fun hc => ?_)
      · rw [decide_eq_false (by omega : ¬ (L.length : Int) ≤ getN b.list a.int 2), Bool.false_and, Bool.false_and, Bool.false_and, cond_false] at hk
        exact hk
      rw [decide_eq_true (by omega : (L.length : Int) ≤ getN b.list a.int 2), Bool.true_and] at hk
      refine bd (fun hd => ?_) (fun hd => ?_)
      · rw [decide_eq_false (by omega : ¬ getN b.list a.int 2 < 512), Bool.false_and, Bool.false_and, cond_false] at hk
        exact hk
      rw [decide_eq_true (by omega : getN b.list a.int 2 < 512), Bool.true_and] at hk
      refine ⟨⟨tgIs_rfl, by omega, by omega, hl⟩, ⟨tgIs_rfl, by trivial, by trivial, by trivial, hb, by omega, by omega, by omega, by omega, by trivial, hbk⟩, ?_⟩
      cases hE : entsK b.list kk.int 8 (a.int + 2) with
      | false =>
        rw [hE, Bool.false_and, cond_false] at hk
        exact hk
      | true =>
        rw [hE, Bool.true_and] at hk
        have he := entsK_len (by omega) hE
        have hp := padU_len (L := L) (v := getN b.list a.int 2) (by omega)
        have hlt' : (m.int - (i.int + 1)).toNat < (m.int - i.int).toNat := by omega
        rw [show a.int + 130 = a.int + 2 + 16 * (8 - 0) by omega, show a.int + 130 * (m.int - i.int) = a.int + 2 + 16 * (8 - 0) + 130 * (m.int - (i.int + 1)) by omega] at hk
        exact broom (by simp [room]; omega) rfl (blt hlt' ⟨⟨tgIs_rfl, by trivial, hb, by omega, by omega, by omega, by omega, h4, by rw [List.length_append, List.length_singleton]; omega, hbk⟩, hk⟩)
    · rw [show (m.int - i.int).toNat = 0 by omega, show m.int - i.int = 0 by omega, leavesK, leavesG, cond_true, Int.mul_zero, Int.add_zero, ← ha] at hk
      exact hk
  · exact h.elim
theorem tg_ok : SpecFP PR 74 tgP tgS := fun fn us hfn hpre => by
  have hf : PR.funcs[(74 : Nat)]? = some Try.f74 := by kernel_rfl
  rw [hf] at hfn; cases hfn
  refine fn_okH (C := tgC) (mkC_ok eqs0_ok mixed_ok (.consP get_ok (.cons eget_ok (.cons tab_ok .nil))) .nil) hf (by kernel_rfl) (loops_three (by kernel_rfl) tg_loop0 tg_loop2 tg_loop4) fun hok => ?_
  have hp : Try.f74.params.toList = [32, 3, 3, 3] := by kernel_rfl
  rw [hp] at hok
  obtain ⟨b, a, n, k, hus⟩ : ∃ b a n k, us = [[b], [a], [n], [k]] := by
    obtain ⟨u, u2, u3, u4, rfl, h1, h2, h3, h4⟩ := shape4 (by kernel_rfl : Cs PR 32 = some (false, [.sl false [.int .u8]])) (by kernel_rfl : Cs PR 3 = some (false, [.int .i64])) (by kernel_rfl : Cs PR 3 = some (false, [.int .i64])) (by kernel_rfl : Cs PR 3 = some (false, [.int .i64])) hok.1
    obtain ⟨b, rfl⟩ := len1 h1
    obtain ⟨a, rfl⟩ := len1 h2
    obtain ⟨n, rfl⟩ := len1 h3
    obtain ⟨k, rfl⟩ := len1 h4
    exact ⟨b, a, n, k, rfl⟩
  subst hus
  have hbk : byteOk b.list := bytes_ok (hok.2 [vl (.int .u8) b, vi a, vi n, vi k] (by kernel_rfl)).1
  refine .eq (tg_tree _ b a n k) ?_
  have hb : b.list.length ≤ 1099511627776 := hpre
  have hn := getN2 (a := a.int) hbk
  have hS : tgS [[b], [a], [n], [k]] = [[.l (bif tgR b.list a.int n.int k.int then tgL b.list a.int else [])], [.i (bif tgR b.list a.int n.int k.int then a.int + 2 + 130 * getN b.list a.int 2 else 0)], [.i (bif tgR b.list a.int n.int k.int then 0 else 3)]] := rfl
  rw [hS, getE_iff]
  unfold tgR
  refine ⟨⟨by show (1 : Int) ≤ 2; omega, by show (2 : Int) ≤ 4; omega, rfl, hb⟩, ?_⟩
  refine bi (fun h => ?_) (fun h => ?_)
  · have h := nt h
    rw [show thereR b.list a.int 2 = false by simpa using h]; rfl
  have h : thereR b.list a.int 2 = true := by simpa using nf h
  have hi := thereR_iff.1 h
  have w2 : IntKind.wrap .i64 (a.int + 2) = a.int + 2 := i64_in (by omega) (by omega)
  rw [h, Bool.true_and]
  simp only [w2, Int.sub_zero]
  refine ⟨⟨tgIs_rfl, by trivial, hb, by omega, by omega, by omega, by omega, by omega, by omega, hbk⟩, ?_⟩
  refine bi (fun h1 => ?_) (fun h1 => by rw [h1]; rfl)
  rw [h1, Bool.true_and]
  refine bi (fun h2 => ?_) (fun h2 => ?_)
  · rw [show tableR (tgL b.list a.int) n.int k.int = false by simpa using h2]; rfl
  · rw [show tableR (tgL b.list a.int) n.int k.int = true by simpa using h2]; rfl
end Go.Mat

namespace Go.Mat
open Go Go.Den Go.Proofs
abbrev rtgO (L : List U) : List (Nat × Den.Obj) := [(1024, .box [.own 1026]), (1026, .arr leafT []), (1792, .box [.own 1794]), (1794, .arr leafT L)]
def rtgIs (o1 o2 : Nat) (t1 t2 : TypeId) (z : List U) (p8 p13 o8 o13 : Nat) : Prop := o1 = 1026 ∧ o2 = 1794 ∧ t1 = leafT ∧ t2 = leafT ∧ z = [] ∧ p8 = 1024 ∧ p13 = 1792 ∧ o8 = 0 ∧ o13 = 0
noncomputable def rtgLoop2 : LoopF := fun _ svs os k => match svs, os with
  | [.val (.int .i64) v, .ptr p13 o13, .ptr p8 o8, .val (.sl false [.int .u8]) b, .val (.int .i64) a, .val (.int .i64) n, .val (.int .i64) kk, .val (.int .u64) m, .val (.int .i64) i, .val (.int .i64) la], [.box [.own o1], .arr t1 z, .box [.own o2], .arr t2 L] =>
    (rtgIs o1 o2 t1 t2 z p8 p13 o8 o13 ∧ 0 ≤ v.int ∧ v.int < 512 ∧ L.length ≤ 512) ∧
    k (.exit 2) ⟨[(14, .ptr 1792 0), (8, .ptr 1024 0), (0, vl (.int .u8) b), (13, vi a), (2, vi n), (3, vi kk), (11, vu m), (16, vi i), (15, vi la)], rtgO (padU L v.int)⟩
  | _, _ => False
noncomputable def rtgLoop4 : LoopF := fun _ svs os k => match svs, os with
  | [.val (.int .i64) j, .own o16, .ptr p13 o13, .ptr p8 o8, .val (.sl false [.int .u8]) b, .val (.int .i64) a, .val (.int .i64) n, .val (.int .i64) kk, .val (.int .u64) m, .val (.int .i64) i, .val (.int .i64) la], [.arr t16 xs, .box [.own o1], .arr t1 z, .box [.own o2], .arr t2 L] =>
    (rtgIs o1 o2 t1 t2 z p8 p13 o8 o13 ∧ o16 = 2428 ∧ t16 = entT ∧ a = .i a.int ∧ b.list.length ≤ 1099511627776 ∧ 0 ≤ a.int ∧ 0 ≤ j.int ∧ j.int ≤ 8 ∧ (xs.length : Int) = j.int ∧ a.int + 16 * (8 - j.int) ≤ b.list.length) ∧
    (bif entsK b.list kk.int (8 - j.int).toNat a.int then
      k (.exit 4) ⟨[(18, .own 2428), (14, .ptr 1792 0), (8, .ptr 1024 0), (0, vl (.int .u8) b), (13, vi (.i (a.int + 16 * (8 - j.int)))), (2, vi n), (3, vi kk), (11, vu m), (16, vi i), (15, vi la)], (2428, .arr entT (xs ++ entsG b.list (8 - j.int).toNat a.int)) :: rtgO L⟩
      else k .ret tgBad)
  | _, _ => False
noncomputable def rtgLoop0 : LoopF := fun _ svs os k => match svs, os with
  | [.val (.int .i64) i, .val (.int .u64) m, .val (.int .i64) la, .ptr p13 o13, .ptr p8 o8, .val (.sl false [.int .u8]) b, .val (.int .i64) a, .val (.int .i64) n, .val (.int .i64) kk], [.box [.own o1], .arr t1 z, .box [.own o2], .arr t2 L] =>
    (rtgIs o1 o2 t1 t2 z p8 p13 o8 o13 ∧ a = .i a.int ∧ b.list.length ≤ 1099511627776 ∧ 0 ≤ a.int ∧ a.int ≤ b.list.length ∧ 0 ≤ i.int ∧ i.int ≤ m.int ∧ m.int ≤ 65535 ∧ L.length ≤ 512 ∧ (L.length : Int) = la.int + 1 ∧ byteOk b.list) ∧
    (bif leavesK b.list kk.int (m.int - i.int).toNat a.int L then
      k (.exit 0) ⟨[(14, .ptr 1792 0), (8, .ptr 1024 0), (13, vi (.i (a.int + 130 * (m.int - i.int)))), (2, vi n), (3, vi kk)], rtgO (leavesG b.list (m.int - i.int).toNat a.int L)⟩
      else k .ret tgBad)
  | _, _ => False
noncomputable def rtgC : Ctx := mkC PR eqs0 (fnsConsP 62 getP getS (fnsConsP 75 atP atS (fnsCons 76 egetS (fnsCons 32 rtableS fnsNil)))) trsNil
  (loopCons 4 [19, 18, 14, 8, 0, 13, 2, 3, 11, 16, 15] [2428, 1024, 1026, 1792, 1794] rtgLoop4 (loopCons 2 [17, 14, 8, 0, 13, 2, 3, 11, 16, 15] [1024, 1026, 1792, 1794] rtgLoop2 (loopCons 0 [16, 11, 15, 14, 8, 0, 13, 2, 3] [1024, 1026, 1792, 1794] rtgLoop0 noLoops)))
  (outCons 4 [18, 14, 8, 0, 13, 2, 3, 11, 16, 15] [2428, 1024, 1026, 1792, 1794] (outCons 1048580 [8, 9, 10] [1024, 8519682] (outCons 2 [14, 8, 0, 13, 2, 3, 11, 16, 15] [1024, 1026, 1792, 1794] (outCons 0 [14, 8, 13, 2, 3] [1024, 1026, 1792, 1794] (outCons 1048576 [8, 9, 10] [1024, 8519682] noOut))))) noOut
theorem rtg_round2 (pan : KP) (μ : Mu) (N : Nat) (k : KE) (v b a n kk m i la : U) (L : List U) : (exec (rtgC.panics pan) (loopBody Try.f64 1) 2 ⟨[(17, vi v), (14, .ptr 1792 0), (8, .ptr 1024 0), (0, vl (.int .u8) b), (13, vi a), (2, vi n), (3, vi kk), (11, vu m), (16, vi i), (15, vi la)], rtgO L⟩ (again PR (some ([14, 8, 0, 13, 2, 3, 11, 16, 15], [1024, 1026, 1792, 1794])) none pan [17, 14, 8, 0, 13, 2, 3, 11, 16, 15] [1024, 1026, 1792, 1794] rtgLoop2 μ N k)) = (bif decide ((L.length : Int) < v.int) then bif decide (List.length L + ((0 : Nat) + (1 : Nat)) ≤ room) && !oddB (1794 : Nat) then bif Nat.blt (μ [.val (.int IntKind.i64) v, .ptr (nat_lit 1792) (nat_lit 0), .ptr (nat_lit 1024) (nat_lit 0), .val (.sl false [.int .u8]) b, .val (.int IntKind.i64) a, .val (.int IntKind.i64) n, .val (.int IntKind.i64) kk, .val (.int IntKind.u64) m, .val (.int IntKind.i64) i, .val (.int IntKind.i64) la] [.box [.own (nat_lit 1026)], .arr (nat_lit 51) [], .box [.own (nat_lit 1794)], .arr (nat_lit 51) (L ++ [U.l []])]) N then (rtgIs (1026 : Nat) (1794 : Nat) leafT (51 : Nat) [] (1024 : Nat) (1792 : Nat) (0 : Nat) (0 : Nat) ∧ (0 : Int) ≤ v.int ∧ v.int < (512 : Int) ∧ List.length (L ++ [U.l []]) ≤ (512 : Nat)) ∧ k (Ex.exit (nat_lit 2)) (St.mk [(nat_lit 14, .ptr (nat_lit 1792) (nat_lit 0)), (nat_lit 8, .ptr (nat_lit 1024) (nat_lit 0)), (nat_lit 0, .val (.sl false [.int .u8]) b), (nat_lit 13, .val (.int IntKind.i64) a), (nat_lit 2, .val (.int IntKind.i64) n), (nat_lit 3, .val (.int IntKind.i64) kk), (nat_lit 11, .val (.int IntKind.u64) m), (nat_lit 16, .val (.int IntKind.i64) i), (nat_lit 15, .val (.int IntKind.i64) la)] [(nat_lit 1024, .box [.own (nat_lit 1026)]), (nat_lit 1026, .arr (nat_lit 51) []), (nat_lit 1792, .box [.own (nat_lit 1794)]), (nat_lit 1794, .arr (nat_lit 51) (padU (L ++ [U.l []]) v.int))]) else False else False else k (Ex.exit (nat_lit 2)) (St.mk [(nat_lit 14, .ptr (nat_lit 1792) (nat_lit 0)), (nat_lit 8, .ptr (nat_lit 1024) (nat_lit 0)), (nat_lit 0, .val (.sl false [.int .u8]) b), (nat_lit 13, .val (.int IntKind.i64) a), (nat_lit 2, .val (.int IntKind.i64) n), (nat_lit 3, .val (.int IntKind.i64) kk), (nat_lit 11, .val (.int IntKind.u64) m), (nat_lit 16, .val (.int IntKind.i64) i), (nat_lit 15, .val (.int IntKind.i64) la)] [(nat_lit 1024, .box [.own (nat_lit 1026)]), (nat_lit 1026, .arr (nat_lit 51) []), (nat_lit 1792, .box [.own (nat_lit 1794)]), (nat_lit 1794, .arr (nat_lit 51) L)])) := by kernel_rfl
theorem rtg_round4 (pan : KP) (μ : Mu) (N : Nat) (k : KE) (j b a n kk m i la : U) (xs L : List U) : (exec (rtgC.panics pan) (loopBody Try.f64 2) 4 ⟨[(19, vi j), (18, .own 2428), (14, .ptr 1792 0), (8, .ptr 1024 0), (0, vl (.int .u8) b), (13, vi a), (2, vi n), (3, vi kk), (11, vu m), (16, vi i), (15, vi la)], (2428, .arr entT xs) :: rtgO L⟩ (again PR (some ([18, 14, 8, 0, 13, 2, 3, 11, 16, 15], [2428, 1024, 1026, 1792, 1794])) (some ([8, 9, 10], [1024, 8519682])) pan [19, 18, 14, 8, 0, 13, 2, 3, 11, 16, 15] [2428, 1024, 1026, 1792, 1794] rtgLoop4 μ N k)) = (bif decide (j.int < (8 : Int)) then bif decide ((0 : Int) ≤ a.int ∧ a.int ≤ IntKind.wrap .i64 (a.int + (16 : Int)) ∧ IntKind.wrap .i64 (a.int + (16 : Int)) ≤ IntKind.wrap .i64 (a.int + (16 : Int)) ∧ IntKind.wrap .i64 (a.int + (16 : Int)) ≤ (b.list.length : Int)) && true then bif (bif egetR (List.drop (Int.toNat a.int) (List.take (Int.toNat (IntKind.wrap .i64 (a.int + (16 : Int)))) b.list)) kk.int then (0 : Int) else (3 : Int)) != (0 : Int) then k Ex.ret (St.mk [(nat_lit 8, .ptr (nat_lit 1024) (nat_lit 0)), (nat_lit 9, .val (.int IntKind.i64) (U.i (0 : Int))), (nat_lit 10, .val (.int IntKind.i64) (U.i (3 : Int)))] [(nat_lit 1024, .box [.own (nat_lit 8519682)]), (nat_lit 8519682, .arr (nat_lit 51) [])]) else bif decide (List.length xs + ((0 : Nat) + (1 : Nat)) ≤ room) && !oddB (2428 : Nat) then bif Nat.blt (μ [.val (.int IntKind.i64) (U.i (IntKind.wrap .i64 (j.int + (1 : Int)))), .own (nat_lit 2428), .ptr (nat_lit 1792) (nat_lit 0), .ptr (nat_lit 1024) (nat_lit 0), .val (.sl false [.int .u8]) b, .val (.int IntKind.i64) (U.i (IntKind.wrap .i64 (a.int + (16 : Int)))), .val (.int IntKind.i64) n, .val (.int IntKind.i64) kk, .val (.int IntKind.u64) m, .val (.int IntKind.i64) i, .val (.int IntKind.i64) la] [.arr (nat_lit 54) (xs ++ [U.l [U.i (bif egetR (List.drop (Int.toNat a.int) (List.take (Int.toNat (IntKind.wrap .i64 (a.int + (16 : Int)))) b.list)) kk.int then eK (List.drop (Int.toNat a.int) (List.take (Int.toNat (IntKind.wrap .i64 (a.int + (16 : Int)))) b.list)) else (0 : Int)), U.i (bif egetR (List.drop (Int.toNat a.int) (List.take (Int.toNat (IntKind.wrap .i64 (a.int + (16 : Int)))) b.list)) kk.int then eS (List.drop (Int.toNat a.int) (List.take (Int.toNat (IntKind.wrap .i64 (a.int + (16 : Int)))) b.list)) else (0 : Int)), U.i (bif egetR (List.drop (Int.toNat a.int) (List.take (Int.toNat (IntKind.wrap .i64 (a.int + (16 : Int)))) b.list)) kk.int then eC (List.drop (Int.toNat a.int) (List.take (Int.toNat (IntKind.wrap .i64 (a.int + (16 : Int)))) b.list)) else (0 : Int)), U.i (bif egetR (List.drop (Int.toNat a.int) (List.take (Int.toNat (IntKind.wrap .i64 (a.int + (16 : Int)))) b.list)) kk.int then eZ (List.drop (Int.toNat a.int) (List.take (Int.toNat (IntKind.wrap .i64 (a.int + (16 : Int)))) b.list)) else (0 : Int)), U.i (bif egetR (List.drop (Int.toNat a.int) (List.take (Int.toNat (IntKind.wrap .i64 (a.int + (16 : Int)))) b.list)) kk.int then eM (List.drop (Int.toNat a.int) (List.take (Int.toNat (IntKind.wrap .i64 (a.int + (16 : Int)))) b.list)) else (0 : Int))]]), .box [.own (nat_lit 1026)], .arr (nat_lit 51) [], .box [.own (nat_lit 1794)], .arr (nat_lit 51) L]) N then (rtgIs (1026 : Nat) (1794 : Nat) leafT leafT [] (1024 : Nat) (1792 : Nat) (0 : Nat) (0 : Nat) ∧ nat_lit 2428 = nat_lit 2428 ∧ nat_lit 54 = nat_lit 54 ∧ U.i (IntKind.wrap .i64 (a.int + (16 : Int))) = U.i (IntKind.wrap .i64 (a.int + (16 : Int))) ∧ b.list.length ≤ (1099511627776 : Nat) ∧ (0 : Int) ≤ IntKind.wrap .i64 (a.int + (16 : Int)) ∧ (0 : Int) ≤ IntKind.wrap .i64 (j.int + (1 : Int)) ∧ IntKind.wrap .i64 (j.int + (1 : Int)) ≤ (8 : Int) ∧ (↑(List.length (xs ++ [U.l [U.i (bif egetR (List.drop (Int.toNat a.int) (List.take (Int.toNat (IntKind.wrap .i64 (a.int + (16 : Int)))) b.list)) kk.int then eK (List.drop (Int.toNat a.int) (List.take (Int.toNat (IntKind.wrap .i64 (a.int + (16 : Int)))) b.list)) else (0 : Int)), U.i (bif egetR (List.drop (Int.toNat a.int) (List.take (Int.toNat (IntKind.wrap .i64 (a.int + (16 : Int)))) b.list)) kk.int then eS (List.drop (Int.toNat a.int) (List.take (Int.toNat (IntKind.wrap .i64 (a.int + (16 : Int)))) b.list)) else (0 : Int)), U.i (bif egetR (List.drop (Int.toNat a.int) (List.take (Int.toNat (IntKind.wrap .i64 (a.int + (16 : Int)))) b.list)) kk.int then eC (List.drop (Int.toNat a.int) (List.take (Int.toNat (IntKind.wrap .i64 (a.int + (16 : Int)))) b.list)) else (0 : Int)), U.i (bif egetR (List.drop (Int.toNat a.int) (List.take (Int.toNat (IntKind.wrap .i64 (a.int + (16 : Int)))) b.list)) kk.int then eZ (List.drop (Int.toNat a.int) (List.take (Int.toNat (IntKind.wrap .i64 (a.int + (16 : Int)))) b.list)) else (0 : Int)), U.i (bif egetR (List.drop (Int.toNat a.int) (List.take (Int.toNat (IntKind.wrap .i64 (a.int + (16 : Int)))) b.list)) kk.int then eM (List.drop (Int.toNat a.int) (List.take (Int.toNat (IntKind.wrap .i64 (a.int + (16 : Int)))) b.list)) else (0 : Int))]])) : Int) = IntKind.wrap .i64 (j.int + (1 : Int)) ∧ IntKind.wrap .i64 (a.int + (16 : Int)) + (16 : Int) * ((8 : Int) - IntKind.wrap .i64 (j.int + (1 : Int))) ≤ (b.list.length : Int)) ∧ bif entsK b.list kk.int (Int.toNat ((8 : Int) - IntKind.wrap .i64 (j.int + (1 : Int)))) (IntKind.wrap .i64 (a.int + (16 : Int))) then k (Ex.exit (nat_lit 4)) (St.mk [(nat_lit 18, .own (nat_lit 2428)), (nat_lit 14, .ptr (nat_lit 1792) (nat_lit 0)), (nat_lit 8, .ptr (nat_lit 1024) (nat_lit 0)), (nat_lit 0, .val (.sl false [.int .u8]) b), (nat_lit 13, .val (.int IntKind.i64) (U.i (IntKind.wrap .i64 (a.int + (16 : Int)) + (16 : Int) * ((8 : Int) - IntKind.wrap .i64 (j.int + (1 : Int)))))), (nat_lit 2, .val (.int IntKind.i64) n), (nat_lit 3, .val (.int IntKind.i64) kk), (nat_lit 11, .val (.int IntKind.u64) m), (nat_lit 16, .val (.int IntKind.i64) i), (nat_lit 15, .val (.int IntKind.i64) la)] [(nat_lit 2428, .arr (nat_lit 54) (xs ++ [U.l [U.i (bif egetR (List.drop (Int.toNat a.int) (List.take (Int.toNat (IntKind.wrap .i64 (a.int + (16 : Int)))) b.list)) kk.int then eK (List.drop (Int.toNat a.int) (List.take (Int.toNat (IntKind.wrap .i64 (a.int + (16 : Int)))) b.list)) else (0 : Int)), U.i (bif egetR (List.drop (Int.toNat a.int) (List.take (Int.toNat (IntKind.wrap .i64 (a.int + (16 : Int)))) b.list)) kk.int then eS (List.drop (Int.toNat a.int) (List.take (Int.toNat (IntKind.wrap .i64 (a.int + (16 : Int)))) b.list)) else (0 : Int)), U.i (bif egetR (List.drop (Int.toNat a.int) (List.take (Int.toNat (IntKind.wrap .i64 (a.int + (16 : Int)))) b.list)) kk.int then eC (List.drop (Int.toNat a.int) (List.take (Int.toNat (IntKind.wrap .i64 (a.int + (16 : Int)))) b.list)) else (0 : Int)), U.i (bif egetR (List.drop (Int.toNat a.int) (List.take (Int.toNat (IntKind.wrap .i64 (a.int + (16 : Int)))) b.list)) kk.int then eZ (List.drop (Int.toNat a.int) (List.take (Int.toNat (IntKind.wrap .i64 (a.int + (16 : Int)))) b.list)) else (0 : Int)), U.i (bif egetR (List.drop (Int.toNat a.int) (List.take (Int.toNat (IntKind.wrap .i64 (a.int + (16 : Int)))) b.list)) kk.int then eM (List.drop (Int.toNat a.int) (List.take (Int.toNat (IntKind.wrap .i64 (a.int + (16 : Int)))) b.list)) else (0 : Int))]] ++ entsG b.list (Int.toNat ((8 : Int) - IntKind.wrap .i64 (j.int + (1 : Int)))) (IntKind.wrap .i64 (a.int + (16 : Int))))), (nat_lit 1024, .box [.own (nat_lit 1026)]), (nat_lit 1026, .arr (nat_lit 51) []), (nat_lit 1792, .box [.own (nat_lit 1794)]), (nat_lit 1794, .arr (nat_lit 51) L)]) else k Ex.ret (St.mk [(nat_lit 8, .ptr (nat_lit 1024) (nat_lit 0)), (nat_lit 9, .val (.int IntKind.i64) (U.i (0 : Int))), (nat_lit 10, .val (.int IntKind.i64) (U.i (3 : Int)))] [(nat_lit 1024, .box [.own (nat_lit 8519682)]), (nat_lit 8519682, .arr (nat_lit 51) [])]) else False else False else False else k (Ex.exit (nat_lit 4)) (St.mk [(nat_lit 18, .own (nat_lit 2428)), (nat_lit 14, .ptr (nat_lit 1792) (nat_lit 0)), (nat_lit 8, .ptr (nat_lit 1024) (nat_lit 0)), (nat_lit 0, .val (.sl false [.int .u8]) b), (nat_lit 13, .val (.int IntKind.i64) a), (nat_lit 2, .val (.int IntKind.i64) n), (nat_lit 3, .val (.int IntKind.i64) kk), (nat_lit 11, .val (.int IntKind.u64) m), (nat_lit 16, .val (.int IntKind.i64) i), (nat_lit 15, .val (.int IntKind.i64) la)] [(nat_lit 2428, .arr (nat_lit 54) xs), (nat_lit 1024, .box [.own (nat_lit 1026)]), (nat_lit 1026, .arr (nat_lit 51) []), (nat_lit 1792, .box [.own (nat_lit 1794)]), (nat_lit 1794, .arr (nat_lit 51) L)])) := by kernel_rfl
theorem rtg_round0 (pan : KP) (μ : Mu) (N : Nat) (k : KE) (i m la b a n kk : U) (L : List U) : (exec (rtgC.panics pan) (loopBody Try.f64 0) 0 ⟨[(16, vi i), (11, vu m), (15, vi la), (14, .ptr 1792 0), (8, .ptr 1024 0), (0, vl (.int .u8) b), (13, vi a), (2, vi n), (3, vi kk)], rtgO L⟩ (again PR (some ([14, 8, 13, 2, 3], [1024, 1026, 1792, 1794])) (some ([8, 9, 10], [1024, 8519682])) pan [16, 11, 15, 14, 8, 0, 13, 2, 3] [1024, 1026, 1792, 1794] rtgLoop0 μ N k)) = (bif decide (i.int < IntKind.wrap .i64 m.int) then bif decide (IntKind.wrap .i64 ((b.list.length : Int) - a.int) < (130 : Int)) then k Ex.ret (St.mk [(nat_lit 8, .ptr (nat_lit 1024) (nat_lit 0)), (nat_lit 9, .val (.int IntKind.i64) (U.i (0 : Int))), (nat_lit 10, .val (.int IntKind.i64) (U.i (3 : Int)))] [(nat_lit 1024, .box [.own (nat_lit 8519682)]), (nat_lit 8519682, .arr (nat_lit 51) [])]) else atP [[b], [a], [U.i (2 : Int)]] ∧ bif decide (IntKind.wrap .i64 (getN b.list a.int (2 : Int)) ≤ la.int) then k Ex.ret (St.mk [(nat_lit 8, .ptr (nat_lit 1024) (nat_lit 0)), (nat_lit 9, .val (.int IntKind.i64) (U.i (0 : Int))), (nat_lit 10, .val (.int IntKind.i64) (U.i (3 : Int)))] [(nat_lit 1024, .box [.own (nat_lit 8519682)]), (nat_lit 8519682, .arr (nat_lit 51) [])]) else bif decide (IntKind.wrap .i64 (getN b.list a.int (2 : Int)) ≥ (512 : Int)) then k Ex.ret (St.mk [(nat_lit 8, .ptr (nat_lit 1024) (nat_lit 0)), (nat_lit 9, .val (.int IntKind.i64) (U.i (0 : Int))), (nat_lit 10, .val (.int IntKind.i64) (U.i (3 : Int)))] [(nat_lit 1024, .box [.own (nat_lit 8519682)]), (nat_lit 8519682, .arr (nat_lit 51) [])]) else (rtgIs (1026 : Nat) (1794 : Nat) leafT leafT [] (1024 : Nat) (1792 : Nat) (0 : Nat) (0 : Nat) ∧ (0 : Int) ≤ IntKind.wrap .i64 (getN b.list a.int (2 : Int)) ∧ IntKind.wrap .i64 (getN b.list a.int (2 : Int)) < (512 : Int) ∧ List.length L ≤ (512 : Nat)) ∧ (rtgIs (1026 : Nat) (1794 : Nat) leafT leafT [] (1024 : Nat) (1792 : Nat) (0 : Nat) (0 : Nat) ∧ nat_lit 2428 = nat_lit 2428 ∧ nat_lit 54 = nat_lit 54 ∧ U.i (IntKind.wrap .i64 (a.int + (2 : Int))) = U.i (IntKind.wrap .i64 (a.int + (2 : Int))) ∧ b.list.length ≤ (1099511627776 : Nat) ∧ (0 : Int) ≤ IntKind.wrap .i64 (a.int + (2 : Int)) ∧ (0 : Int) ≤ (0 : Int) ∧ (0 : Int) ≤ (8 : Int) ∧ (↑(0 : Nat) : Int) = (0 : Int) ∧ IntKind.wrap .i64 (a.int + (2 : Int)) + (16 : Int) * ((8 : Int) - (0 : Int)) ≤ (b.list.length : Int)) ∧ bif entsK b.list kk.int (Int.toNat ((8 : Int) - (0 : Int))) (IntKind.wrap .i64 (a.int + (2 : Int))) then bif decide (List.length (padU L (IntKind.wrap .i64 (getN b.list a.int (2 : Int)))) + ((0 : Nat) + (1 : Nat)) ≤ room) && !oddB (1794 : Nat) then bif Nat.blt (μ [.val (.int IntKind.i64) (U.i (IntKind.wrap .i64 (i.int + (1 : Int)))), .val (.int IntKind.u64) m, .val (.int IntKind.i64) (U.i (IntKind.wrap .i64 (getN b.list a.int (2 : Int)))), .ptr (nat_lit 1792) (nat_lit 0), .ptr (nat_lit 1024) (nat_lit 0), .val (.sl false [.int .u8]) b, .val (.int IntKind.i64) (U.i (IntKind.wrap .i64 (a.int + (2 : Int)) + (16 : Int) * ((8 : Int) - (0 : Int)))), .val (.int IntKind.i64) n, .val (.int IntKind.i64) kk] [.box [.own (nat_lit 1026)], .arr (nat_lit 51) [], .box [.own (nat_lit 1794)], .arr (nat_lit 51) (padU L (IntKind.wrap .i64 (getN b.list a.int (2 : Int))) ++ [U.l ([] ++ entsG b.list (Int.toNat ((8 : Int) - (0 : Int))) (IntKind.wrap .i64 (a.int + (2 : Int))))])]) N then (rtgIs (1026 : Nat) (1794 : Nat) leafT (51 : Nat) [] (1024 : Nat) (1792 : Nat) (0 : Nat) (0 : Nat) ∧ U.i (IntKind.wrap .i64 (a.int + (2 : Int)) + (16 : Int) * ((8 : Int) - (0 : Int))) = U.i (IntKind.wrap .i64 (a.int + (2 : Int)) + (16 : Int) * ((8 : Int) - (0 : Int))) ∧ b.list.length ≤ (1099511627776 : Nat) ∧ (0 : Int) ≤ IntKind.wrap .i64 (a.int + (2 : Int)) + (16 : Int) * ((8 : Int) - (0 : Int)) ∧ IntKind.wrap .i64 (a.int + (2 : Int)) + (16 : Int) * ((8 : Int) - (0 : Int)) ≤ (b.list.length : Int) ∧ (0 : Int) ≤ IntKind.wrap .i64 (i.int + (1 : Int)) ∧ IntKind.wrap .i64 (i.int + (1 : Int)) ≤ m.int ∧ m.int ≤ (65535 : Int) ∧ List.length (padU L (IntKind.wrap .i64 (getN b.list a.int (2 : Int))) ++ [U.l ([] ++ entsG b.list (Int.toNat ((8 : Int) - (0 : Int))) (IntKind.wrap .i64 (a.int + (2 : Int))))]) ≤ (512 : Nat) ∧ (↑(List.length (padU L (IntKind.wrap .i64 (getN b.list a.int (2 : Int))) ++ [U.l ([] ++ entsG b.list (Int.toNat ((8 : Int) - (0 : Int))) (IntKind.wrap .i64 (a.int + (2 : Int))))])) : Int) = IntKind.wrap .i64 (getN b.list a.int (2 : Int)) + (1 : Int) ∧ byteOk b.list) ∧ bif leavesK b.list kk.int (Int.toNat (m.int - IntKind.wrap .i64 (i.int + (1 : Int)))) (IntKind.wrap .i64 (a.int + (2 : Int)) + (16 : Int) * ((8 : Int) - (0 : Int))) (padU L (IntKind.wrap .i64 (getN b.list a.int (2 : Int))) ++ [U.l ([] ++ entsG b.list (Int.toNat ((8 : Int) - (0 : Int))) (IntKind.wrap .i64 (a.int + (2 : Int))))]) then k (Ex.exit (nat_lit 0)) (St.mk [(nat_lit 14, .ptr (nat_lit 1792) (nat_lit 0)), (nat_lit 8, .ptr (nat_lit 1024) (nat_lit 0)), (nat_lit 13, .val (.int IntKind.i64) (U.i (IntKind.wrap .i64 (a.int + (2 : Int)) + (16 : Int) * ((8 : Int) - (0 : Int)) + (130 : Int) * (m.int - IntKind.wrap .i64 (i.int + (1 : Int)))))), (nat_lit 2, .val (.int IntKind.i64) n), (nat_lit 3, .val (.int IntKind.i64) kk)] [(nat_lit 1024, .box [.own (nat_lit 1026)]), (nat_lit 1026, .arr (nat_lit 51) []), (nat_lit 1792, .box [.own (nat_lit 1794)]), (nat_lit 1794, .arr (nat_lit 51) (leavesG b.list (Int.toNat (m.int - IntKind.wrap .i64 (i.int + (1 : Int)))) (IntKind.wrap .i64 (a.int + (2 : Int)) + (16 : Int) * ((8 : Int) - (0 : Int))) (padU L (IntKind.wrap .i64 (getN b.list a.int (2 : Int))) ++ [U.l ([] ++ entsG b.list (Int.toNat ((8 : Int) - (0 : Int))) (IntKind.wrap .i64 (a.int + (2 : Int))))])))]) else k Ex.ret (St.mk [(nat_lit 8, .ptr (nat_lit 1024) (nat_lit 0)), (nat_lit 9, .val (.int IntKind.i64) (U.i (0 : Int))), (nat_lit 10, .val (.int IntKind.i64) (U.i (3 : Int)))] [(nat_lit 1024, .box [.own (nat_lit 8519682)]), (nat_lit 8519682, .arr (nat_lit 51) [])]) else False else False else k Ex.ret (St.mk [(nat_lit 8, .ptr (nat_lit 1024) (nat_lit 0)), (nat_lit 9, .val (.int IntKind.i64) (U.i (0 : Int))), (nat_lit 10, .val (.int IntKind.i64) (U.i (3 : Int)))] [(nat_lit 1024, .box [.own (nat_lit 8519682)]), (nat_lit 8519682, .arr (nat_lit 51) [])]) else k (Ex.exit (nat_lit 0)) (St.mk [(nat_lit 14, .ptr (nat_lit 1792) (nat_lit 0)), (nat_lit 8, .ptr (nat_lit 1024) (nat_lit 0)), (nat_lit 13, .val (.int IntKind.i64) a), (nat_lit 2, .val (.int IntKind.i64) n), (nat_lit 3, .val (.int IntKind.i64) kk)] [(nat_lit 1024, .box [.own (nat_lit 1026)]), (nat_lit 1026, .arr (nat_lit 51) []), (nat_lit 1792, .box [.own (nat_lit 1794)]), (nat_lit 1794, .arr (nat_lit 51) L)])) := by kernel_rfl
theorem rtg_tree (R : RF) (b a n k : U) : (run rtgC Try.f64 [[b], [a], [n], [k]] R) = (getP [[b], [a], [U.i (2 : Int)], [U.b false]] ∧ bif getE b.list a.int (2 : Int) != (0 : Int) then R [[U.l []], [U.i (0 : Int)], [U.i (3 : Int)]] else bif decide (k.int < (0 : Int)) then R [[U.l []], [U.i (0 : Int)], [U.i (3 : Int)]] else bif decide (k.int > (6 : Int)) then R [[U.l []], [U.i (0 : Int)], [U.i (3 : Int)]] else (rtgIs ((2 : Nat) * ((8 : Nat) * (64 : Nat) + (1 : Nat))) ((2 : Nat) * ((14 : Nat) * (64 : Nat) + (1 : Nat))) (51 : Nat) (51 : Nat) [] ((2 : Nat) * ((8 : Nat) * (64 : Nat))) ((2 : Nat) * ((14 : Nat) * (64 : Nat))) (0 : Nat) (0 : Nat) ∧ U.i (IntKind.wrap .i64 (a.int + (2 : Int))) = U.i (IntKind.wrap .i64 (a.int + (2 : Int))) ∧ b.list.length ≤ (1099511627776 : Nat) ∧ (0 : Int) ≤ IntKind.wrap .i64 (a.int + (2 : Int)) ∧ IntKind.wrap .i64 (a.int + (2 : Int)) ≤ (b.list.length : Int) ∧ (0 : Int) ≤ (0 : Int) ∧ (0 : Int) ≤ getN b.list a.int (2 : Int) ∧ getN b.list a.int (2 : Int) ≤ (65535 : Int) ∧ (0 : Nat) ≤ (512 : Nat) ∧ (↑(0 : Nat) : Int) = (-1 : Int) + (1 : Int) ∧ byteOk b.list) ∧ bif leavesK b.list k.int (Int.toNat (getN b.list a.int (2 : Int) - (0 : Int))) (IntKind.wrap .i64 (a.int + (2 : Int))) [] then bif !rtableR (leavesG b.list (Int.toNat (getN b.list a.int (2 : Int) - (0 : Int))) (IntKind.wrap .i64 (a.int + (2 : Int))) []) n.int k.int then R [[U.l []], [U.i (0 : Int)], [U.i (3 : Int)]] else R [[U.l (leavesG b.list (Int.toNat (getN b.list a.int (2 : Int) - (0 : Int))) (IntKind.wrap .i64 (a.int + (2 : Int))) [])], [U.i (IntKind.wrap .i64 (a.int + (2 : Int)) + (130 : Int) * (getN b.list a.int (2 : Int) - (0 : Int)))], [U.i (0 : Int)]] else R [[U.l []], [U.i (0 : Int)], [U.i (3 : Int)]]) := by kernel_rfl
end Go.Mat

namespace Go.Mat
open Go Go.Den Go.Proofs
theorem rtgIs_rfl : rtgIs 1026 1794 leafT leafT [] 1024 1792 0 0 := ⟨rfl, rfl, rfl, rfl, rfl, rfl, rfl, rfl, rfl⟩
theorem leavesK_fits {b : List U} {k a : Int} {m : Nat} {L : List U} (h : leavesK b k (m + 1) a L = true) : 0 ≤ a ∧ a + 130 ≤ (b.length : Int) := by
  rw [leavesK] at h
  simp only [Bool.and_eq_true, decide_eq_true_eq] at h
  have h1 := thereR_iff.1 h.1.1.1.1
  have h2 := entsK_len (by omega) h.1.2
  omega
theorem leavesG_len {b : List U} {k : Int} : ∀ {m : Nat} {a : Int} {L : List U}, leavesK b k m a L = true → L.length ≤ 512 → (leavesG b m a L).length ≤ 512
  | 0, _, _, _, h => h
  | m + 1, a, L, h, hl => by
    rw [leavesK] at h
    simp only [Bool.and_eq_true, decide_eq_true_eq] at h
    have hp := padU_len (L := L) (v := getN b a 2) h.1.1.1.2
    rw [leavesG]
    exact leavesG_len h.2 (by rw [List.length_append, List.length_singleton]; omega)
theorem rtg_loop2 : LoopOk rtgC 2 (loopBody Try.f64 1) := by
  refine loopOk_of (F := rtgLoop2) (ts := [17, 14, 8, 0, 13, 2, 3, 11, 16, 15]) (os := [1024, 1026, 1792, 1794]) rfl (fun svs os => match svs, os with | .val _ v :: _, [_, _, _, .arr _ L] => (v.int - (L.length : Int)).toNat | _, _ => 0) ?_
  intro pan svs os k ho1 ho2 h
  unfold rtgLoop2 at h
  split at h
  · rename_i v p13 o13 p8 o8 b a n kk m i la o1 t1 z o2 t2 L
    obtain ⟨⟨⟨rfl, rfl, rfl, rfl, rfl, rfl, rfl, rfl, rfl⟩, h0, h5, hl⟩, hk⟩ := h
    refine .eq (rtg_round2 pan _ _ k v b a n kk m i la L) ?_
    refine bd (fun hlt => ?_) (fun hlt => ?_)
    · have hlt' : (v.int - ((L ++ [U.l []]).length : Int)).toNat < (v.int - (L.length : Int)).toNat := by
        rw [List.length_append, List.length_singleton]; omega
      rw [← padU_step hlt] at hk
      exact broom (by simp [room]; omega) rfl (blt hlt' ⟨⟨rtgIs_rfl, h0, h5, by rw [List.length_append, List.length_singleton]; omega⟩, hk⟩)
    · rw [padU_all (by omega)] at hk
      exact hk
  · exact h.elim
theorem rtg_loop4 : LoopOk rtgC 4 (loopBody Try.f64 2) := by
  refine loopOk_of (F := rtgLoop4) (ts := [19, 18, 14, 8, 0, 13, 2, 3, 11, 16, 15]) (os := [2428, 1024, 1026, 1792, 1794]) rfl (fun svs _ => match svs with | .val _ j :: _ => (8 - j.int).toNat | _ => 0) ?_
  intro pan svs os k ho1 ho2 h
  unfold rtgLoop4 at h
  split at h
  · rename_i j o16 p13 o13 p8 o8 b a n kk m i la t16 xs o1 t1 z o2 t2 L
    obtain ⟨⟨⟨rfl, rfl, rfl, rfl, rfl, rfl, rfl, rfl, rfl⟩, rfl, rfl, ha, hb, h0, h2, h3, hx, hfit⟩, hk⟩ := h
    refine .eq (rtg_round4 pan _ _ k j b a n kk m i la xs L) ?_
    have w2 : IntKind.wrap .i64 (a.int + 16) = a.int + 16 := i64_in (by omega) (by omega)
    have w3 : IntKind.wrap .i64 (j.int + 1) = j.int + 1 := i64_in (by omega) (by omega)
    have hs : List.drop a.int.toNat (List.take (a.int + 16).toNat b.list) = sub b.list a.int 16 := rfl
    simp only [w2, w3, hs]
    refine bd (fun hlt => ?_) (fun hlt => ?_)
    · rw [show (8 - j.int).toNat = (8 - (j.int + 1)).toNat + 1 by omega, entsK, entsG] at hk
      refine broom ⟨by omega, by omega, by omega, by omega⟩ rfl ?_
      rw [decide_eq_true (by omega : a.int + 16 ≤ (b.list.length : Int)), Bool.true_and] at hk
      cases hE : egetR (sub b.list a.int 16) kk.int with
      | false =>
        rw [hE, Bool.false_and, cond_false] at hk
        exact hk
      | true =>
        rw [hE, Bool.true_and] at hk
        have hlt' : (8 - (j.int + 1)).toNat < (8 - j.int).toNat := by omega
        have hkk : (bif entsK b.list kk.int (8 - (j.int + 1)).toNat (a.int + 16) then
            k (.exit 4) ⟨[(18, .own 2428), (14, .ptr 1792 0), (8, .ptr 1024 0), (0, vl (.int .u8) b), (13, vi (.i (a.int + 16 + 16 * (8 - (j.int + 1))))), (2, vi n), (3, vi kk), (11, vu m), (16, vi i), (15, vi la)], (2428, .arr entT ((xs ++ [entU (sub b.list a.int 16)]) ++ entsG b.list (8 - (j.int + 1)).toNat (a.int + 16))) :: rtgO L⟩
            else k .ret tgBad) := by
          rw [List.append_assoc, List.singleton_append, show a.int + 16 + 16 * (8 - (j.int + 1)) = a.int + 16 * (8 - j.int) by omega]
          exact hk
        refine broom (by simp [room]; omega) rfl (blt hlt' ⟨⟨rtgIs_rfl, by trivial, by trivial, by trivial, hb, by omega, by omega, by omega, by rw [List.length_append, List.length_singleton]; omega, by omega⟩, hkk⟩)
    · have hj : j.int = 8 := by omega
      rw [hj, show (8 - (8 : Int)).toNat = 0 from rfl, entsK, entsG, List.append_nil, cond_true, show a.int + 16 * (8 - (8 : Int)) = a.int by omega, ← ha] at hk
      exact hk
  · exact h.elim
theorem rtg_loop0 : LoopOk rtgC 0 (loopBody Try.f64 0) := by
  refine loopOk_of (F := rtgLoop0) (ts := [16, 11, 15, 14, 8, 0, 13, 2, 3]) (os := [1024, 1026, 1792, 1794]) rfl (fun svs _ => match svs with | .val _ i :: .val _ m :: _ => (m.int - i.int).toNat | _ => 0) ?_
  intro pan svs os k ho1 ho2 h
  unfold rtgLoop0 at h
  split at h
  · rename_i i m la p13 o13 p8 o8 b a n kk o1 t1 z o2 t2 L
    obtain ⟨⟨⟨rfl, rfl, rfl, rfl, rfl, rfl, rfl, rfl, rfl⟩, ha, hb, h0, h1, h2, h3, h4, hl, hla, hbk⟩, hk⟩ := h
    refine .eq (rtg_round0 pan _ _ k i m la b a n kk L) ?_
    have hn := getN2 (a := a.int) hbk
    have w0 : IntKind.wrap .i64 m.int = m.int := i64_in (by omega) (by omega)
    have w1 : IntKind.wrap .i64 ((b.list.length : Int) - a.int) = (b.list.length : Int) - a.int := i64_in (by omega) (by omega)
    have w2 : IntKind.wrap .i64 (a.int + 2) = a.int + 2 := i64_in (by omega) (by omega)
    have w3 : IntKind.wrap .i64 (i.int + 1) = i.int + 1 := i64_in (by omega) (by omega)
    have w4 : IntKind.wrap .i64 (getN b.list a.int 2) = getN b.list a.int 2 := i64_in (by omega) (by omega)
    have e8 : ((8 : Int) - 0).toNat = 8 := rfl
    simp only [w0, w1, w2, w3, w4, e8, List.nil_append]
    refine bd (fun hlt => ?_) (fun hlt => ?_)
    · rw [show (m.int - i.int).toNat = (m.int - (i.int + 1)).toNat + 1 by omega] at hk
      refine bd (fun hf => ?_) (fun hf => ⟨⟨by show (1 : Int) ≤ 2; omega, by show (2 : Int) ≤ 4; omega, hb⟩, ?_⟩)
      · cases hK : leavesK b.list kk.int ((m.int - (i.int + 1)).toNat + 1) a.int L with
        | true => have := leavesK_fits hK; omega
        | false =>
          rw [hK, cond_false] at hk
          exact hk
      rw [leavesK, leavesG, show thereR b.list a.int 2 = true from thereR_iff.2 ⟨by omega, by omega, by omega⟩, Bool.true_and] at hk
      refine bd (fun hc => ?_) (fun hc => ?_)
      · rw [decide_eq_false (by omega : ¬ (L.length : Int) ≤ getN b.list a.int 2), Bool.false_and, Bool.false_and, Bool.false_and, cond_false] at hk
        exact hk
      rw [decide_eq_true (by omega : (L.length : Int) ≤ getN b.list a.int 2), Bool.true_and] at hk
      refine bd (fun hd => ?_) (fun hd => ?_)
      · rw [decide_eq_false (by omega : ¬ getN b.list a.int 2 < 512), Bool.false_and, Bool.false_and, cond_false] at hk
        exact hk
      rw [decide_eq_true (by omega : getN b.list a.int 2 < 512), Bool.true_and] at hk
      refine ⟨⟨rtgIs_rfl, by omega, by omega, hl⟩, ⟨rtgIs_rfl, by trivial, by trivial, by trivial, hb, by omega, by omega, by omega, by trivial, by omega⟩, ?_⟩
      cases hE : entsK b.list kk.int 8 (a.int + 2) with
      | false =>
        rw [hE, Bool.false_and, cond_false] at hk
        exact hk
      | true =>
        rw [hE, Bool.true_and] at hk
        have hp := padU_len (L := L) (v := getN b.list a.int 2) (by omega)
        have hlt' : (m.int - (i.int + 1)).toNat < (m.int - i.int).toNat := by omega
        rw [show a.int + 130 = a.int + 2 + 16 * (8 - 0) by omega, show a.int + 130 * (m.int - i.int) = a.int + 2 + 16 * (8 - 0) + 130 * (m.int - (i.int + 1)) by omega] at hk
        exact broom (by simp [room]; omega) rfl (blt hlt' ⟨⟨rtgIs_rfl, by trivial, hb, by omega, by omega, by omega, by omega, h4, by rw [List.length_append, List.length_singleton]; omega, by rw [List.length_append, List.length_singleton]; omega, hbk⟩, hk⟩)
    · rw [show (m.int - i.int).toNat = 0 by omega, show m.int - i.int = 0 by omega, leavesK, leavesG, cond_true, Int.mul_zero, Int.add_zero, ← ha] at hk
      exact hk
  · exact h.elim
theorem tableR_c {L : List U} {n c : Int} (h : c < 0 ∨ 6 < c) : tableR L n c = false := by
  unfold tableR
  rw [if_pos (by omega)]
theorem rtg_ok : SpecFP PR 64 tgP tgS := fun fn us hfn hpre => by
  have hf : PR.funcs[(64 : Nat)]? = some Try.f64 := by kernel_rfl
  rw [hf] at hfn; cases hfn
  refine fn_okH (C := rtgC) (mkC_ok eqs0_ok mixed_ok (.consP rget_ok (.consP at_ok (.cons reget_ok (.cons rtab_ok .nil)))) .nil) hf (by kernel_rfl) (loops_three (by kernel_rfl) rtg_loop0 rtg_loop2 rtg_loop4) fun hok => ?_
  have hp : Try.f64.params.toList = [32, 3, 3, 3] := by kernel_rfl
  rw [hp] at hok
  obtain ⟨b, a, n, k, hus⟩ : ∃ b a n k, us = [[b], [a], [n], [k]] := by
    obtain ⟨u, u2, u3, u4, rfl, h1, h2, h3, h4⟩ := shape4 (by kernel_rfl : Cs PR 32 = some (false, [.sl false [.int .u8]])) (by kernel_rfl : Cs PR 3 = some (false, [.int .i64])) (by kernel_rfl : Cs PR 3 = some (false, [.int .i64])) (by kernel_rfl : Cs PR 3 = some (false, [.int .i64])) hok.1
    obtain ⟨b, rfl⟩ := len1 h1
    obtain ⟨a, rfl⟩ := len1 h2
    obtain ⟨n, rfl⟩ := len1 h3
    obtain ⟨k, rfl⟩ := len1 h4
    exact ⟨b, a, n, k, rfl⟩
  subst hus
  have hbk : byteOk b.list := bytes_ok (hok.2 [vl (.int .u8) b, vi a, vi n, vi k] (by kernel_rfl)).1
  refine .eq (rtg_tree _ b a n k) ?_
  have hb : b.list.length ≤ 1099511627776 := hpre
  have hn := getN2 (a := a.int) hbk
  have hS : tgS [[b], [a], [n], [k]] = [[.l (bif tgR b.list a.int n.int k.int then tgL b.list a.int else [])], [.i (bif tgR b.list a.int n.int k.int then a.int + 2 + 130 * getN b.list a.int 2 else 0)], [.i (bif tgR b.list a.int n.int k.int then 0 else 3)]] := rfl
  rw [hS, getE_iff]
  unfold tgR
  refine ⟨⟨by show (1 : Int) ≤ 2; omega, by show (2 : Int) ≤ 4; omega, rfl, hb⟩, ?_⟩
  refine bi (fun h => ?_) (fun h => ?_)
  · have h := nt h
    rw [show thereR b.list a.int 2 = false by simpa using h]; rfl
  have h : thereR b.list a.int 2 = true := by simpa using nf h
  have hi := thereR_iff.1 h
  have w2 : IntKind.wrap .i64 (a.int + 2) = a.int + 2 := i64_in (by omega) (by omega)
  rw [h, Bool.true_and]
  simp only [w2, Int.sub_zero]
  refine bd (fun hc => by rw [tableR_c (.inl hc), Bool.and_false]; rfl) (fun hc => ?_)
  refine bd (fun hd => by rw [tableR_c (.inr (by omega)), Bool.and_false]; rfl) (fun hd => ?_)
  refine ⟨⟨rtgIs_rfl, by trivial, hb, by omega, by omega, by omega, by omega, by omega, by omega, by trivial, hbk⟩, ?_⟩
  refine bi (fun h1 => ?_) (fun h1 => by rw [h1]; rfl)
  have hL := leavesG_len h1 (by simp)
  rw [h1, Bool.true_and, ← rtableR_eq (by omega)]
  refine bi (fun h2 => ?_) (fun h2 => ?_)
  · rw [show tableR (tgL b.list a.int) n.int k.int = false by simpa using h2]; rfl
  · rw [show tableR (tgL b.list a.int) n.int k.int = true by simpa using h2]; rfl
end Go.Mat

namespace Go.Mat
open Go Go.Den Go.Proofs
abbrev rdIs (p o i : Nat) (b : U) : Prop := p = 2097153 ∧ o = 0 ∧ i = 2097153 ∧ b.list.length ≤ 1099511627776
abbrev rdObjs (b : U) (a : Int) : Objs := [(2097153, .box [vl (.int .u8) b, vi (.i a)])]
abbrev unread : Out := .pan (.ifc 123 (.agg []))
noncomputable def rdnumF : Tr := fun vs objs k => match vs, objs with
  | [.ptr p o, .val (.int .i64) n], [(i, .box [.val (.sl false [.int .u8]) b, .val (.int .i64) a])] =>
    (rdIs p o i b ∧ 1 ≤ n.int ∧ n.int ≤ 4) ∧
    (bif thereR b.list a.int n.int then k (.ret [vi (.i (getN b.list a.int n.int))]) (rdObjs b (a.int + n.int)) else k unread [(2097153, .box [vl (.int .u8) b, vi a])])
  | _, _ => False
noncomputable def rdtextF : Tr := fun vs objs k => match vs, objs with
  | [.ptr p o], [(i, .box [.val (.sl false [.int .u8]) b, .val (.int .i64) a])] =>
    rdIs p o i b ∧
    (bif readR b.list a.int then k (.ret [.val .str (.s (readV b.list a.int))]) (rdObjs b (a.int + 2 + getN b.list a.int 2)) else k unread [(2097153, .box [vl (.int .u8) b, vi a])])
  | _, _ => False
noncomputable def rdtabF : Tr := fun vs objs k => match vs, objs with
  | [.ptr p o, .val (.int .i64) n, .val (.int .i64) c], [(i, .box [.val (.sl false [.int .u8]) b, .val (.int .i64) a])] =>
    (rdIs p o i b ∧ 0 ≤ n.int ∧ 0 ≤ c.int) ∧
    (bif tgR b.list a.int (n.int / 2 ^ c.int.toNat) c.int then k (.ret [.agg [vl (.sl true EC) (.l (tgL b.list a.int))]]) (rdObjs b (a.int + 2 + 130 * getN b.list a.int 2)) else k unread [(2097153, .box [vl (.int .u8) b, vi a])])
  | _, _ => False
noncomputable def rdnumC : Ctx := mkC PR eqs0 (fnsConsP 72 getP getS fnsNil) trsNil noLoops noOut noOut
theorem rdnum_tree (R : RT) (n b a : U) : (runD rdnumC Try.f57 [.ptr 2097153 0, vi n] [(2097153, .box [vl (.int .u8) b, vi a])] R) = (getP [[b], [a], [n], [U.b false]] ∧ bif getE (U.list b) (U.int a) (U.int n) != (0 : Int) then R (Out.pan (SV.ifc (nat_lit 123) (SV.agg []))) [(nat_lit 2097153, Obj.box [SV.val (Ct.sl false [Ct.int IntKind.u8])
  b, SV.val (Ct.int IntKind.i64) a])] else R (Out.ret [SV.val (Ct.int IntKind.i64) (U.i (IntKind.wrap IntKind.i64 (getN (U.list b) (U.int a) (U.int n))))]) [(nat_lit 2097153, Obj.box [SV.val (Ct.sl false
  [Ct.int IntKind.u8]) b, SV.val (Ct.int IntKind.i64) (U.i (IntKind.wrap IntKind.i64 (U.int a + U.int n)))])]) := by kernel_rfl
noncomputable def rdtextC : Ctx := mkC PR eqs0 (fnsConsP 73 readP readS fnsNil) trsNil noLoops noOut noOut
theorem rdtext_tree (R : RT) (b a : U) : (runD rdtextC Try.f58 [.ptr 2097153 0] [(2097153, .box [vl (.int .u8) b, vi a])] R) = (readP [[b], [a]] ∧ bif readE (U.list b) (U.int a) != (0 : Int) then R (Out.pan (SV.ifc (nat_lit 123) (SV.agg []))) [(nat_lit 2097153, Obj.box [SV.val (Ct.sl false [Ct.int IntKind.u8]) b, SV.val (Ct.int
  IntKind.i64) a])] else R (Out.ret [SV.val Ct.str (U.s (readV (U.list b) (U.int a)))]) [(nat_lit 2097153, Obj.box [SV.val (Ct.sl false [Ct.int IntKind.u8]) b, SV.val (Ct.int IntKind.i64) (U.i (readA (U.list
  b) (U.int a)))])]) := by kernel_rfl
noncomputable def rdtabC : Ctx := mkC PR eqs0 (fnsConsP 74 tgP tgS fnsNil) trsNil noLoops noOut noOut
theorem rdtab_tree (R : RT) (n c b a : U) : (runD rdtabC Try.f59 [.ptr 2097153 0, vi n, vi c] [(2097153, .box [vl (.int .u8) b, vi a])] R) = (bif decide (c.int > (6 : Int)) then R (Out.pan (SV.ifc (nat_lit 123) (SV.agg []))) [(nat_lit 2097153, .box [.val (.sl false [.int .u8]) b, .val (.int IntKind.i64) a])] else bif decide (c.int < (0 : Int)) then False else (fun T => Alt (Alt (Alt T T) T) (Alt (Alt (Alt T T) T) (Alt T T))) (tgP [[b], [a], [U.i (Int.fdiv n.int ((2 : Int) ^ min (Int.toNat c.int) (IntKind.bits IntKind.i64)))], [c]] ∧ bif (bif tgR b.list a.int (Int.fdiv n.int ((2 : Int) ^ min (Int.toNat c.int) (IntKind.bits IntKind.i64))) c.int then (0 : Int) else (3 : Int)) != (0 : Int) then R (Out.pan (SV.ifc (nat_lit 123) (SV.agg []))) [(nat_lit 2097153, .box [.val (.sl false [.int .u8]) b, .val (.int IntKind.i64) a])] else R (Out.ret [.agg [.val (.sl false [.sl true [.int .i64, .int .i64, .int .i64, .int .i64, .int .u32]]) (U.l (bif tgR b.list a.int (Int.fdiv n.int ((2 : Int) ^ min (Int.toNat c.int) (IntKind.bits IntKind.i64))) c.int then tgL b.list a.int else []))]]) [(nat_lit 2097153, .box [.val (.sl false [.int .u8]) b, .val (.int IntKind.i64) (U.i (bif tgR b.list a.int (Int.fdiv n.int ((2 : Int) ^ min (Int.toNat c.int) (IntKind.bits IntKind.i64))) c.int then a.int + (2 : Int) + (130 : Int) * getN b.list a.int (2 : Int) else (0 : Int)))])])) := by kernel_rfl
end Go.Mat

namespace Go.Mat
open Go Go.Den Go.Proofs
theorem getN_4 {b : List U} {a n : Int} (h : byteOk b) (h1 : 0 ≤ n) (h4 : n ≤ 4) : 0 ≤ getN b a n ∧ getN b a n ≤ 4294967295 := by
  have hg := getN_bd (a := a) h h1
  have hc : n.toNat = 0 ∨ n.toNat = 1 ∨ n.toNat = 2 ∨ n.toNat = 3 ∨ n.toNat = 4 := by omega
  rcases hc with hc | hc | hc | hc | hc <;> rw [hc] at hg <;> simp only [Int.reducePow] at hg <;> omega
theorem readR_fits {b : List U} {a : Int} (h : readR b a = true) : thereR b a 2 = true ∧ 0 ≤ a ∧ a + 2 + getN b a 2 ≤ (b.length : Int) := by
  unfold readR at h
  rw [Bool.and_eq_true] at h
  have h1 := thereR_iff.1 h.1
  have h2 := thereR_iff.1 h.2
  exact ⟨h.1, by omega, by omega⟩
theorem tgR_c {b : List U} {a n c : Int} (h : 6 < c) : tgR b a n c = false := by
  unfold tgR
  rw [tableR_c (.inr h), Bool.and_false]
theorem shr_eq {n c : Int} (h : c ≤ 6) : Int.fdiv n (2 ^ min c.toNat (IntKind.bits .i64)) = n / 2 ^ c.toNat := by
  rw [Nat.min_eq_left (by simp [IntKind.bits]; omega), Int.fdiv_eq_ediv_of_nonneg _ (by exact Int.le_of_lt (Int.pow_pos (by omega)))]
theorem rdnum_ok : SpecT PR 57 rdnumF := fun fn hfn => by
  have hf : PR.funcs[(57 : Nat)]? = some Try.f57 := by kernel_rfl
  rw [hf] at hfn; cases hfn
  refine fnT_okH (C := rdnumC) (mkC_ok eqs0_ok mixed_ok (.consP get_ok .nil) .nil) hf (by kernel_rfl) (loops_none (by kernel_rfl)) fun vs objs R h1 h2 h => ?_
  unfold rdnumF at h
  split at h
  · rename_i p o n i b a
    obtain ⟨⟨⟨rfl, rfl, rfl, hb⟩, hn1, hn4⟩, h⟩ := h
    have hbk : byteOk b.list := bytes_ok (h2 _ _ (List.mem_cons_self ..)).1
    clear h1 h2
    refine .eq (rdnum_tree R n b a) ?_
    have hg := getN_4 (a := a.int) (n := n.int) hbk (by omega) hn4
    rw [getE_iff]
    refine ⟨⟨hn1, hn4, rfl, hb⟩, bi (fun ht => ?_) (fun ht => ?_)⟩
    · rw [show thereR b.list a.int n.int = false by simpa using ht, cond_false] at h
      exact h
    · have ht : thereR b.list a.int n.int = true := by simpa using ht
      have hi := thereR_iff.1 ht
      rw [ht, cond_true] at h
      rw [i64_in (by omega) (by omega), i64_in (by omega) (by omega)]
      exact h
  · exact h.elim
theorem rdtext_ok : SpecT PR 58 rdtextF := fun fn hfn => by
  have hf : PR.funcs[(58 : Nat)]? = some Try.f58 := by kernel_rfl
  rw [hf] at hfn; cases hfn
  refine fnT_okH (C := rdtextC) (mkC_ok eqs0_ok mixed_ok (.consP read_ok .nil) .nil) hf (by kernel_rfl) (loops_none (by kernel_rfl)) fun vs objs R h1 h2 h => ?_
  unfold rdtextF at h
  split at h
  · rename_i p o i b a
    obtain ⟨⟨rfl, rfl, rfl, hb⟩, h⟩ := h
    have hbk : byteOk b.list := bytes_ok (h2 _ _ (List.mem_cons_self ..)).1
    clear h1 h2
    refine .eq (rdtext_tree R b a) ?_
    unfold readE readA
    refine ⟨hb, ?_⟩
    cases ht : readR b.list a.int with
    | true =>
      rw [ht, cond_true] at h
      exact h
    | false =>
      rw [ht, cond_false] at h
      exact h
  · exact h.elim
theorem rdtab_ok : SpecT PR 59 rdtabF := fun fn hfn => by
  have hf : PR.funcs[(59 : Nat)]? = some Try.f59 := by kernel_rfl
  rw [hf] at hfn; cases hfn
  refine fnT_okH (C := rdtabC) (mkC_ok eqs0_ok mixed_ok (.consP tg_ok .nil) .nil) hf (by kernel_rfl) (loops_none (by kernel_rfl)) fun vs objs R h1 h2 h => ?_
  unfold rdtabF at h
  split at h
  · rename_i p o n c i b a
    obtain ⟨⟨⟨rfl, rfl, rfl, hb⟩, hn, hc⟩, h⟩ := h
    have hbk : byteOk b.list := bytes_ok (h2 _ _ (List.mem_cons_self ..)).1
    clear h1 h2
    refine .eq (rdtab_tree R n c b a) ?_
    refine bd (fun h6 => ?_) (fun h6 => df (by omega) ?_)
    · rw [tgR_c (by omega), cond_false] at h
      exact h
    simp only [Alt_self]
    rw [shr_eq (by omega)]
    refine ⟨hb, ?_⟩
    cases ht : tgR b.list a.int (n.int / 2 ^ c.int.toNat) c.int with
    | true =>
      rw [ht, cond_true] at h
      exact h
    | false =>
      rw [ht, cond_false] at h
      exact h
  · exact h.elim
end Go.Mat

namespace Go.Mat
open Go Go.Den Go.Proofs
abbrev spT : TypeId := 72
def spG (b : List U) : Nat → Int → List U
  | 0, _ => []
  | m + 1, a => .l [.i (getN b a 2), .i (getN b (a + 2) 2)] :: spG b m (a + 4)
def rmN (b : List U) (a : Int) : Int := a + 2 + getN b a 2
def rmK (b : List U) (a : Int) : Bool := readR b a && thereR b (rmN b a) 1 && thereR b (rmN b a + 1) 2 && decide (rmN b a + 3 + 4 * getN b (rmN b a + 1) 2 ≤ (b.length : Int))
def rmE (b : List U) (a : Int) : Int := rmN b a + 3 + 4 * getN b (rmN b a + 1) 2
def rmS (b : List U) (a : Int) : List U := spG b (getN b (rmN b a + 1) 2).toNat (rmN b a + 3)
abbrev rdLost (b : U) (pan : KP) : Prop := ∀ (σ : St) (x : U), getO σ.objs 2097153 = some (.box [vl (.int .u8) b, vi x]) → pan (.ifc 123 (.agg [])) σ
noncomputable def rdmapF : Tr := fun vs objs k => match vs, objs with
  | [.ptr p o], [(i, .box [.val (.sl false [.int .u8]) b, .val (.int .i64) a])] =>
    rdIs p o i b ∧
    (bif rmK b.list a.int then k (.ret [.agg [.val .str (.s (readV b.list a.int)), vb (.b (getN b.list (rmN b.list a.int) 1 == 1)), SV.own 2097280]]) [(2097153, .box [vl (.int .u8) b, vi (.i (rmE b.list a.int))]), (2097280, .arr spT (rmS b.list a.int))] else ∀ x : U, k unread [(2097153, .box [vl (.int .u8) b, vi x])])
  | _, _ => False
noncomputable def rdmapLoop : LoopF := fun pan svs os k => match svs, os with
  | [.val (.int .i64) n, .ptr p0 o0, .ptr p3 o3, .ptr p2 o2], [.box [.val (.sl false [.int .u8]) b, .val (.int .i64) a], .box [.val .str s, .val .bool on, .own q], .arr t xs, .box [.val .str s2, .val .bool on2, .own q2], .arr t2 ys] =>
    ((p0 = 2097153 ∧ o0 = 0 ∧ p3 = 384 ∧ o3 = 0 ∧ p2 = 256 ∧ o2 = 0 ∧ q = 8437766 ∧ t = spT ∧ q2 = 262 ∧ t2 = spT) ∧ b.list.length ≤ 1099511627776 ∧ 0 ≤ n.int ∧ n.int ≤ 65535 ∧ a = .i a.int ∧ 0 ≤ a.int ∧ a.int ≤ b.list.length ∧ byteOk b.list ∧ (xs.length : Int) + n.int ≤ 65535) ∧
    (bif decide (a.int + 4 * n.int ≤ (b.list.length : Int)) then
      k (.exit 0) ⟨[(3, .ptr 384 0), (2, .ptr 256 0)], [(2097153, .box [vl (.int .u8) b, vi (.i (a.int + 4 * n.int))]), (384, .box [.val .str s, vb on, .own 8437766]), (8437766, .arr spT (xs ++ spG b.list n.int.toNat a.int)), (256, .box [.val .str s2, vb on2, .own 262]), (262, .arr spT ys)]⟩
      else rdLost b pan)
  | _, _ => False
noncomputable def rdmapC : Ctx := mkC PR eqs0 fnsNil (trsCons 57 [false, false] rdnumF (trsCons 58 [false] rdtextF trsNil))
  (loopCons 0 [4, 0, 3, 2] [2097153, 384, 8437766, 256, 262] rdmapLoop noLoops) (outCons 0 [3, 2] [2097153, 384, 8437766, 256, 262] noOut) noOut
theorem rdmap_round (pan : KP) (μ : Mu) (N : Nat) (k : KE) (n b a s on s2 on2 : U) (xs ys : List U) : (exec (rdmapC.panics pan) (loopBody Try.f60 0) 0 ⟨[(4, vi n), (0, .ptr 2097153 0), (3, .ptr 384 0), (2, .ptr 256 0)], [(2097153, .box [vl (.int .u8) b, vi a]), (384, .box [.val .str s, vb on, .own 8437766]), (8437766, .arr spT xs), (256, .box [.val .str s2, vb on2, .own 262]), (262, .arr spT ys)]⟩ (again PR (some ([3, 2], [2097153, 384, 8437766, 256, 262])) none pan [4, 0, 3, 2] [2097153, 384, 8437766, 256, 262] rdmapLoop μ N k)) = (bif decide (n.int > (0 : Int)) then (rdIs ((2097152 : Nat) + (1 : Nat)) (0 : Nat) ((2097152 : Nat) + (1 : Nat)) b ∧ (1 : Int) ≤ (2 : Int) ∧ (2 : Int) ≤ (4 : Int)) ∧ bif thereR b.list a.int (2 : Int) then Alt ((rdIs ((2097152 : Nat) + (1 : Nat)) (0 : Nat) ((2097152 : Nat) + (1 : Nat)) b ∧ (1 : Int) ≤ (2 : Int) ∧ (2 : Int) ≤ (4 : Int)) ∧ bif thereR b.list (a.int + (2 : Int)) (2 : Int) then bif decide (List.length xs + ((0 : Nat) + (1 : Nat)) ≤ room) && !oddB ((8437765 : Nat) + (1 : Nat)) then bif Nat.blt (μ [.val (.int IntKind.i64) (U.i (IntKind.wrap .i64 (n.int - (1 : Int)))), .ptr (nat_lit 2097153) (nat_lit 0), .ptr (nat_lit 384) (nat_lit 0), .ptr (nat_lit 256) (nat_lit 0)] [.box [.val (.sl false [.int .u8]) b, .val (.int IntKind.i64) (U.i (a.int + (2 : Int) + (2 : Int)))], .box [.val .str s, .val .bool on, .own (nat_lit 8437766)], .arr (nat_lit 72) (xs ++ [U.l [U.i (getN b.list a.int (2 : Int)), U.i (getN b.list (a.int + (2 : Int)) (2 : Int))]]), .box [.val .str s2, .val .bool on2, .own (nat_lit 262)], .arr (nat_lit 72) ys]) N then ((nat_lit 2097153 = nat_lit 2097153 ∧ nat_lit 0 = nat_lit 0 ∧ nat_lit 384 = nat_lit 384 ∧ nat_lit 0 = nat_lit 0 ∧ nat_lit 256 = nat_lit 256 ∧ nat_lit 0 = nat_lit 0 ∧ nat_lit 8437766 = nat_lit 8437766 ∧ nat_lit 72 = nat_lit 72 ∧ nat_lit 262 = nat_lit 262 ∧ nat_lit 72 = nat_lit 72) ∧ b.list.length ≤ (1099511627776 : Nat) ∧ (0 : Int) ≤ IntKind.wrap .i64 (n.int - (1 : Int)) ∧ IntKind.wrap .i64 (n.int - (1 : Int)) ≤ (65535 : Int) ∧ U.i (a.int + (2 : Int) + (2 : Int)) = U.i (a.int + (2 : Int) + (2 : Int)) ∧ (0 : Int) ≤ a.int + (2 : Int) + (2 : Int) ∧ a.int + (2 : Int) + (2 : Int) ≤ (b.list.length : Int) ∧ byteOk b.list ∧ (↑(List.length (xs ++ [U.l [U.i (getN b.list a.int (2 : Int)), U.i (getN b.list (a.int + (2 : Int)) (2 : Int))]])) : Int) + IntKind.wrap .i64 (n.int - (1 : Int)) ≤ (65535 : Int)) ∧ bif decide (a.int + (2 : Int) + (2 : Int) + (4 : Int) * IntKind.wrap .i64 (n.int - (1 : Int)) ≤ (b.list.length : Int)) then k (Ex.exit (nat_lit 0)) (St.mk [(nat_lit 3, .ptr (nat_lit 384) (nat_lit 0)), (nat_lit 2, .ptr (nat_lit 256) (nat_lit 0))] [(nat_lit 2097153, .box [.val (.sl false [.int .u8]) b, .val (.int IntKind.i64) (U.i (a.int + (2 : Int) + (2 : Int) + (4 : Int) * IntKind.wrap .i64 (n.int - (1 : Int))))]), (nat_lit 384, .box [.val .str s, .val .bool on, .own (nat_lit 8437766)]), (nat_lit 8437766, .arr (nat_lit 72) (xs ++ [U.l [U.i (getN b.list a.int (2 : Int)), U.i (getN b.list (a.int + (2 : Int)) (2 : Int))]] ++ spG b.list (Int.toNat (IntKind.wrap .i64 (n.int - (1 : Int)))) (a.int + (2 : Int) + (2 : Int)))), (nat_lit 256, .box [.val .str s2, .val .bool on2, .own (nat_lit 262)]), (nat_lit 262, .arr (nat_lit 72) ys)]) else ∀ (σ : St) (x : U), getO (St.objs σ) (2097153 : Nat) = some (Obj.box [vl (.int .u8) b, vi x]) → pan (SV.ifc (123 : TypeId) (SV.agg [])) σ else False else False else pan (SV.ifc (nat_lit 123) (SV.agg [])) (St.mk [(nat_lit 21, .own (nat_lit 8437766)), (nat_lit 23, .ptr (nat_lit 2097153) (nat_lit 0)), (nat_lit 22, .val (.int IntKind.i64) (U.i (getN b.list a.int (2 : Int)))), (nat_lit 20, .ptr (nat_lit 384) (nat_lit 2)), (nat_lit 5, .val (.int IntKind.i64) (U.i (getN b.list a.int (2 : Int)))), (nat_lit 19, .val (.int IntKind.i64) (U.i (getN b.list a.int (2 : Int)))), (nat_lit 18, .ptr (nat_lit 2097153) (nat_lit 0)), (nat_lit 15, .val .bool (U.b (decide (n.int > (0 : Int))))), (nat_lit 14, .val (.int IntKind.i64) n), (nat_lit 4, .val (.int IntKind.i64) n), (nat_lit 0, .ptr (nat_lit 2097153) (nat_lit 0)), (nat_lit 3, .ptr (nat_lit 384) (nat_lit 0)), (nat_lit 2, .ptr (nat_lit 256) (nat_lit 0))] [(nat_lit 2097153, .box [.val (.sl false [.int .u8]) b, .val (.int IntKind.i64) (U.i (a.int + (2 : Int)))]), (nat_lit 384, .box [.val .str s, .val .bool on, .own (nat_lit 8437766)]), (nat_lit 8437766, .arr (nat_lit 72) xs), (nat_lit 256, .box [.val .str s2, .val .bool on2, .own (nat_lit 262)]), (nat_lit 262, .arr (nat_lit 72) ys)])) ((rdIs ((2097152 : Nat) + (1 : Nat)) (0 : Nat) ((2097152 : Nat) + (1 : Nat)) b ∧ (1 : Int) ≤ (2 : Int) ∧ (2 : Int) ≤ (4 : Int)) ∧ bif thereR b.list (a.int + (2 : Int)) (2 : Int) then (fun T => Alt T T) (bif decide (List.length xs + ((0 : Nat) + (1 : Nat)) ≤ room) && !oddB ((8437765 : Nat) + (1 : Nat)) then bif Nat.blt (μ [.val (.int IntKind.i64) (U.i (IntKind.wrap .i64 (n.int - (1 : Int)))), .ptr (nat_lit 2097153) (nat_lit 0), .ptr (nat_lit 384) (nat_lit 0), .ptr (nat_lit 256) (nat_lit 0)] [.box [.val (.sl false [.int .u8]) b, .val (.int IntKind.i64) (U.i (a.int + (2 : Int) + (2 : Int)))], .box [.val .str s, .val .bool on, .own (nat_lit 8437766)], .arr (nat_lit 72) (xs ++ [U.l [U.i (getN b.list a.int (2 : Int)), U.i (getN b.list (a.int + (2 : Int)) (2 : Int))]]), .box [.val .str s2, .val .bool on2, .own (nat_lit 262)], .arr (nat_lit 72) ys]) N then ((nat_lit 2097153 = nat_lit 2097153 ∧ nat_lit 0 = nat_lit 0 ∧ nat_lit 384 = nat_lit 384 ∧ nat_lit 0 = nat_lit 0 ∧ nat_lit 256 = nat_lit 256 ∧ nat_lit 0 = nat_lit 0 ∧ nat_lit 8437766 = nat_lit 8437766 ∧ nat_lit 72 = nat_lit 72 ∧ nat_lit 262 = nat_lit 262 ∧ nat_lit 72 = nat_lit 72) ∧ b.list.length ≤ (1099511627776 : Nat) ∧ (0 : Int) ≤ IntKind.wrap .i64 (n.int - (1 : Int)) ∧ IntKind.wrap .i64 (n.int - (1 : Int)) ≤ (65535 : Int) ∧ U.i (a.int + (2 : Int) + (2 : Int)) = U.i (a.int + (2 : Int) + (2 : Int)) ∧ (0 : Int) ≤ a.int + (2 : Int) + (2 : Int) ∧ a.int + (2 : Int) + (2 : Int) ≤ (b.list.length : Int) ∧ byteOk b.list ∧ (↑(List.length (xs ++ [U.l [U.i (getN b.list a.int (2 : Int)), U.i (getN b.list (a.int + (2 : Int)) (2 : Int))]])) : Int) + IntKind.wrap .i64 (n.int - (1 : Int)) ≤ (65535 : Int)) ∧ bif decide (a.int + (2 : Int) + (2 : Int) + (4 : Int) * IntKind.wrap .i64 (n.int - (1 : Int)) ≤ (b.list.length : Int)) then k (Ex.exit (nat_lit 0)) (St.mk [(nat_lit 3, .ptr (nat_lit 384) (nat_lit 0)), (nat_lit 2, .ptr (nat_lit 256) (nat_lit 0))] [(nat_lit 2097153, .box [.val (.sl false [.int .u8]) b, .val (.int IntKind.i64) (U.i (a.int + (2 : Int) + (2 : Int) + (4 : Int) * IntKind.wrap .i64 (n.int - (1 : Int))))]), (nat_lit 384, .box [.val .str s, .val .bool on, .own (nat_lit 8437766)]), (nat_lit 8437766, .arr (nat_lit 72) (xs ++ [U.l [U.i (getN b.list a.int (2 : Int)), U.i (getN b.list (a.int + (2 : Int)) (2 : Int))]] ++ spG b.list (Int.toNat (IntKind.wrap .i64 (n.int - (1 : Int)))) (a.int + (2 : Int) + (2 : Int)))), (nat_lit 256, .box [.val .str s2, .val .bool on2, .own (nat_lit 262)]), (nat_lit 262, .arr (nat_lit 72) ys)]) else ∀ (σ : St) (x : U), getO (St.objs σ) (2097153 : Nat) = some (Obj.box [vl (.int .u8) b, vi x]) → pan (SV.ifc (123 : TypeId) (SV.agg [])) σ else False else False) else pan (SV.ifc (nat_lit 123) (SV.agg [])) (St.mk [(nat_lit 23, .ptr (nat_lit 2097153) (nat_lit 0)), (nat_lit 22, .val (.int IntKind.i64) (U.i (getN b.list a.int (2 : Int)))), (nat_lit 20, .ptr (nat_lit 384) (nat_lit 2)), (nat_lit 5, .val (.int IntKind.i64) (U.i (getN b.list a.int (2 : Int)))), (nat_lit 19, .val (.int IntKind.i64) (U.i (getN b.list a.int (2 : Int)))), (nat_lit 18, .ptr (nat_lit 2097153) (nat_lit 0)), (nat_lit 15, .val .bool (U.b (decide (n.int > (0 : Int))))), (nat_lit 14, .val (.int IntKind.i64) n), (nat_lit 4, .val (.int IntKind.i64) n), (nat_lit 0, .ptr (nat_lit 2097153) (nat_lit 0)), (nat_lit 3, .ptr (nat_lit 384) (nat_lit 0)), (nat_lit 2, .ptr (nat_lit 256) (nat_lit 0))] [(nat_lit 2097153, .box [.val (.sl false [.int .u8]) b, .val (.int IntKind.i64) (U.i (a.int + (2 : Int)))]), (nat_lit 384, .box [.val .str s, .val .bool on, .own (nat_lit 8437766)]), (nat_lit 8437766, .arr (nat_lit 72) xs), (nat_lit 256, .box [.val .str s2, .val .bool on2, .own (nat_lit 262)]), (nat_lit 262, .arr (nat_lit 72) ys)])) else pan (SV.ifc (nat_lit 123) (SV.agg [])) (St.mk [(nat_lit 18, .ptr (nat_lit 2097153) (nat_lit 0)), (nat_lit 15, .val .bool (U.b (decide (n.int > (0 : Int))))), (nat_lit 14, .val (.int IntKind.i64) n), (nat_lit 4, .val (.int IntKind.i64) n), (nat_lit 0, .ptr (nat_lit 2097153) (nat_lit 0)), (nat_lit 3, .ptr (nat_lit 384) (nat_lit 0)), (nat_lit 2, .ptr (nat_lit 256) (nat_lit 0))] [(nat_lit 2097153, .box [.val (.sl false [.int .u8]) b, .val (.int IntKind.i64) a]), (nat_lit 384, .box [.val .str s, .val .bool on, .own (nat_lit 8437766)]), (nat_lit 8437766, .arr (nat_lit 72) xs), (nat_lit 256, .box [.val .str s2, .val .bool on2, .own (nat_lit 262)]), (nat_lit 262, .arr (nat_lit 72) ys)]) else k (Ex.exit (nat_lit 0)) (St.mk [(nat_lit 3, .ptr (nat_lit 384) (nat_lit 0)), (nat_lit 2, .ptr (nat_lit 256) (nat_lit 0))] [(nat_lit 2097153, .box [.val (.sl false [.int .u8]) b, .val (.int IntKind.i64) a]), (nat_lit 384, .box [.val .str s, .val .bool on, .own (nat_lit 8437766)]), (nat_lit 8437766, .arr (nat_lit 72) xs), (nat_lit 256, .box [.val .str s2, .val .bool on2, .own (nat_lit 262)]), (nat_lit 262, .arr (nat_lit 72) ys)])) := by kernel_rfl
theorem rdmap_tree (R : RT) (b a : U) : (runD rdmapC Try.f60 [.ptr 2097153 0] [(2097153, .box [vl (.int .u8) b, vi a])] R) = (rdIs ((2097152 : Nat) + (1 : Nat)) (0 : Nat) ((2097152 : Nat) + (1 : Nat)) b ∧ bif readR b.list a.int then (rdIs ((2097152 : Nat) + (1 : Nat)) (0 : Nat) ((2097152 : Nat) + (1 : Nat)) b ∧ (1 : Int) ≤ (1 : Int) ∧ (1 : Int) ≤ (4 : Int)) ∧ bif thereR b.list (a.int + (2 : Int) + getN b.list a.int (2 : Int)) (1 : Int) then (rdIs ((2097152 : Nat) + (1 : Nat)) (0 : Nat) ((2097152 : Nat) + (1 : Nat)) b ∧ (1 : Int) ≤ (2 : Int) ∧ (2 : Int) ≤ (4 : Int)) ∧ bif thereR b.list (a.int + (2 : Int) + getN b.list a.int (2 : Int) + (1 : Int)) (2 : Int) then ((nat_lit 2097153 = nat_lit 2097153 ∧ nat_lit 0 = nat_lit 0 ∧ nat_lit 384 = nat_lit 384 ∧ nat_lit 0 = nat_lit 0 ∧ nat_lit 256 = nat_lit 256 ∧ nat_lit 0 = nat_lit 0 ∧ nat_lit 8437766 = nat_lit 8437766 ∧ nat_lit 72 = nat_lit 72 ∧ nat_lit 262 = nat_lit 262 ∧ nat_lit 72 = nat_lit 72) ∧ b.list.length ≤ (1099511627776 : Nat) ∧ (0 : Int) ≤ getN b.list (a.int + (2 : Int) + getN b.list a.int (2 : Int) + (1 : Int)) (2 : Int) ∧ getN b.list (a.int + (2 : Int) + getN b.list a.int (2 : Int) + (1 : Int)) (2 : Int) ≤ (65535 : Int) ∧ U.i (a.int + (2 : Int) + getN b.list a.int (2 : Int) + (1 : Int) + (2 : Int)) = U.i (a.int + (2 : Int) + getN b.list a.int (2 : Int) + (1 : Int) + (2 : Int)) ∧ (0 : Int) ≤ a.int + (2 : Int) + getN b.list a.int (2 : Int) + (1 : Int) + (2 : Int) ∧ a.int + (2 : Int) + getN b.list a.int (2 : Int) + (1 : Int) + (2 : Int) ≤ (b.list.length : Int) ∧ byteOk b.list ∧ (↑(0 : Nat) : Int) + getN b.list (a.int + (2 : Int) + getN b.list a.int (2 : Int) + (1 : Int)) (2 : Int) ≤ (65535 : Int)) ∧ bif decide (a.int + (2 : Int) + getN b.list a.int (2 : Int) + (1 : Int) + (2 : Int) + (4 : Int) * getN b.list (a.int + (2 : Int) + getN b.list a.int (2 : Int) + (1 : Int)) (2 : Int) ≤ (b.list.length : Int)) then R (Out.ret [.agg [.val .str (U.s (readV b.list a.int)), .val .bool (U.b (getN b.list (a.int + (2 : Int) + getN b.list a.int (2 : Int)) (1 : Int) == (1 : Int))), .own (nat_lit 2097280)]]) [(nat_lit 2097153, .box [.val (.sl false [.int .u8]) b, .val (.int IntKind.i64) (U.i (a.int + (2 : Int) + getN b.list a.int (2 : Int) + (1 : Int) + (2 : Int) + (4 : Int) * getN b.list (a.int + (2 : Int) + getN b.list a.int (2 : Int) + (1 : Int)) (2 : Int)))]), (nat_lit 2097280, .arr (nat_lit 72) ([] ++ spG b.list (Int.toNat (getN b.list (a.int + (2 : Int) + getN b.list a.int (2 : Int) + (1 : Int)) (2 : Int))) (a.int + (2 : Int) + getN b.list a.int (2 : Int) + (1 : Int) + (2 : Int))))] else ∀ (σ : St) (x : U), getO (St.objs σ) (2097153 : Nat) = some (Obj.box [vl (.int .u8) b, vi x]) → Ctx.pan (Ctx.panics rdmapC fun v σ => finT [((2097153 : Nat), .box [vl (.int .u8) b, vi a])] R (Out.pan v) (St.objs σ)) (SV.ifc (123 : TypeId) (SV.agg [])) σ else R (Out.pan (SV.ifc (nat_lit 123) (SV.agg []))) [(nat_lit 2097153, .box [.val (.sl false [.int .u8]) b, .val (.int IntKind.i64) (U.i (a.int + (2 : Int) + getN b.list a.int (2 : Int) + (1 : Int)))])] else R (Out.pan (SV.ifc (nat_lit 123) (SV.agg []))) [(nat_lit 2097153, .box [.val (.sl false [.int .u8]) b, .val (.int IntKind.i64) (U.i (a.int + (2 : Int) + getN b.list a.int (2 : Int)))])] else R (Out.pan (SV.ifc (nat_lit 123) (SV.agg []))) [(nat_lit 2097153, .box [.val (.sl false [.int .u8]) b, .val (.int IntKind.i64) a])]) := by kernel_rfl
end Go.Mat

namespace Go.Mat
open Go Go.Den Go.Proofs
theorem finT_lost {b a x : U} {R : Out → Objs → Prop} {objs : Objs} (h : getO objs 2097153 = some (.box [vl (.int .u8) b, vi x])) (hR : R unread [(2097153, .box [vl (.int .u8) b, vi x])]) :
    finT [(2097153, .box [vl (.int .u8) b, vi a])] R unread objs := by
  have hr : reach objs 400 [2097153] [] = [2097153] := by
    show (match getO objs 2097153 with | none => reach objs 399 [] [] | some o => reach objs 399 (o.hs ++ []) ([] ++ [2097153])) = [2097153]
    rw [h]; rfl
  have hp : pickR objs [(2097153, 2097153)] [(2097153, 2097153)] = [(2097153, .box [vl (.int .u8) b, vi x])] := by
    unfold pickR
    rw [h]; rfl
  have ht : finT [(2097153, .box [vl (.int .u8) b, vi a])] R unread objs = (let ids := reach objs 400 [2097153] []; let m := finMap [(2097153, .box [vl (.int .u8) b, vi a])] objs 1 ids; bif nodupB (fsts m) && nodupB (snds m) && finT.clear [(2097153, .box [vl (.int .u8) b, vi a])] m then R (unread.ren m) (pickR objs m m) else False) := rfl
  rw [ht, hr]
  show (bif true then R unread (pickR objs [(2097153, 2097153)] [(2097153, 2097153)]) else False)
  rw [hp]
  exact hR
theorem there_no {b : List U} {a n : Int} (h0 : 0 ≤ a) (h1 : a ≤ b.length) (h : thereR b a n = false) : (b.length : Int) < a + n := by
  by_cases hc : a + n ≤ b.length
  · rw [thereR_iff.2 ⟨h0, h1, by omega⟩] at h; cases h
  · omega
theorem rdmap_loop : LoopOk rdmapC 0 (loopBody Try.f60 0) := by
  refine loopOk_of (F := rdmapLoop) (ts := [4, 0, 3, 2]) (os := [2097153, 384, 8437766, 256, 262]) rfl (fun svs _ => match svs with | .val _ n :: _ => n.int.toNat | _ => 0) ?_
  intro pan svs os k ho1 ho2 h
  unfold rdmapLoop at h
  split at h
  · rename_i n p0 o0 p3 o3 p2 o2 b a s on q t xs s2 on2 q2 t2 ys
    obtain ⟨⟨⟨rfl, rfl, rfl, rfl, rfl, rfl, rfl, rfl, rfl, rfl⟩, hb, hn0, hn, ha, h0, h1, hbk, hx⟩, hk⟩ := h
    refine .eq (rdmap_round pan _ _ k n b a s on s2 on2 xs ys) ?_
    simp only [Alt_self]
    refine bd (fun hlt => ⟨⟨⟨rfl, rfl, rfl, hb⟩, by omega, by omega⟩, bi (fun ht => ?_) (fun ht => ?_)⟩) (fun hlt => ?_)
    · have hi := thereR_iff.1 ht
      have hw : IntKind.wrap .i64 (n.int - 1) = n.int - 1 := i64_in (by omega) (by omega)
      have hlt' : (n.int - 1).toNat < n.int.toNat := by omega
      rw [show n.int.toNat = (n.int - 1).toNat + 1 by omega, spG, show a.int + 4 * n.int = a.int + 2 + 2 + 4 * (n.int - 1) by omega, show a.int + 4 = a.int + 2 + 2 by omega, List.append_cons] at hk
      simp only [hw]
      refine ⟨?_, ?_⟩
      all_goals
        refine ⟨⟨⟨rfl, rfl, rfl, hb⟩, by omega, by omega⟩, bi (fun ht2 => ?_) (fun ht2 => ?_)⟩
        · have hj := thereR_iff.1 ht2
          exact broom (by simp [room]; omega) rfl (blt hlt' ⟨⟨⟨by trivial, by trivial, by trivial, by trivial, by trivial, by trivial, by trivial, by trivial, by trivial, by trivial⟩, hb, by omega, by omega, by trivial, by omega, by omega, hbk, by rw [List.length_append, List.length_singleton]; omega⟩, hk⟩)
        · have hj := there_no (by omega) (by omega) ht2
          rw [decide_eq_false (by omega), cond_false] at hk
          exact hk _ _ rfl
    · have hj := there_no (by omega) (by omega) ht
      rw [decide_eq_false (by omega), cond_false] at hk
      exact hk _ _ rfl
    · have hz : n.int = 0 := by omega
      rw [hz, show a.int + 4 * 0 = a.int by omega, decide_eq_true h1, cond_true, ← ha, show (0 : Int).toNat = 0 from rfl, spG, List.append_nil] at hk
      exact hk
  · exact h.elim
theorem rdmap_ok : SpecT PR 60 rdmapF := fun fn hfn => by
  have hf : PR.funcs[(60 : Nat)]? = some Try.f60 := by kernel_rfl
  rw [hf] at hfn; cases hfn
  refine fnT_okH (C := rdmapC) (mkC_ok eqs0_ok mixed_ok .nil (.cons rdnum_ok (.cons rdtext_ok .nil))) hf (by kernel_rfl) (loops_one (by kernel_rfl) rdmap_loop) fun vs objs R h1 h2 h => ?_
  unfold rdmapF at h
  split at h
  · rename_i p o i b a
    obtain ⟨⟨rfl, rfl, rfl, hb⟩, h⟩ := h
    have hbk : byteOk b.list := bytes_ok (h2 _ _ (List.mem_cons_self ..)).1
    clear h1 h2
    refine .eq (rdmap_tree R b a) ?_
    have e3 : a.int + 2 + getN b.list a.int 2 + 1 + 2 = a.int + 2 + getN b.list a.int 2 + 3 := by omega
    unfold rmK rmE rmS rmN at h
    simp only [e3]
    refine ⟨⟨rfl, rfl, rfl, hb⟩, bi (fun h1 => ?_) (fun h1 => ?_)⟩
    · have hr := readR_fits h1
      have hg := getN2 (a := a.int) hbk
      rw [h1, Bool.true_and] at h
      refine ⟨⟨⟨rfl, rfl, rfl, hb⟩, by omega, by omega⟩, bi (fun h2 => ?_) (fun h2 => ?_)⟩
      · have hi := thereR_iff.1 h2
        rw [h2, Bool.true_and] at h
        refine ⟨⟨⟨rfl, rfl, rfl, hb⟩, by omega, by omega⟩, bi (fun h3 => ?_) (fun h3 => ?_)⟩
        · have hj := thereR_iff.1 h3
          have hc := getN2 (a := a.int + 2 + getN b.list a.int 2 + 1) hbk
          rw [h3, Bool.true_and] at h
          refine ⟨⟨⟨by trivial, by trivial, by trivial, by trivial, by trivial, by trivial, by trivial, by trivial, by trivial, by trivial⟩, hb, by omega, by omega, by trivial, by omega, by omega, hbk, by omega⟩, bi (fun h4 => ?_) (fun h4 => ?_)⟩
          · rw [h4, cond_true] at h
            exact h
          · rw [h4, cond_false] at h
            exact fun σ x hx => finT_lost hx (h x)
        · rw [h3, Bool.false_and, cond_false] at h
          exact h _
      · rw [h2, Bool.false_and, Bool.false_and, cond_false] at h
        exact h _
    · rw [h1, Bool.false_and, Bool.false_and, Bool.false_and, cond_false] at h
      exact h _
  · exact h.elim
end Go.Mat

namespace Go.Mat
open Go Go.Den Go.Proofs
def rcK (b : List U) (m a : Int) : Bool := if 0 < m ∧ 0 < getN b a 2 then thereR b a 2 && thereR b (a + 2) 2 && decide (getN b a 2 ≤ m) && rcK b (m - getN b a 2) (a + 4) else decide (m ≤ 0)
termination_by m.toNat
decreasing_by omega
def rcS (b : List U) (m a : Int) : List U := if 0 < m ∧ 0 < getN b a 2 then List.replicate (getN b a 2).toNat (.i (getN b (a + 2) 2)) ++ rcS b (m - getN b a 2) (a + 4) else []
termination_by m.toNat
decreasing_by omega
def rcE (b : List U) (m a : Int) : Int := if 0 < m ∧ 0 < getN b a 2 then rcE b (m - getN b a 2) (a + 4) else a
termination_by m.toNat
decreasing_by omega
def rnK (b : List U) (a : Int) : Bool := thereR b a 4 && decide (getN b a 4 ≤ 65536) && rcK b (getN b a 4) (a + 4)
noncomputable def rdcntF : Tr := fun vs objs k => match vs, objs with
  | [.ptr p o], [(i, .box [.val (.sl false [.int .u8]) b, .val (.int .i64) a])] =>
    rdIs p o i b ∧
    (bif rnK b.list a.int then k (.ret [.own 2097280]) [(2097153, .box [vl (.int .u8) b, vi (.i (rcE b.list (getN b.list a.int 4) (a.int + 4)))]), (2097280, .arr intT (rcS b.list (getN b.list a.int 4) (a.int + 4)))] else ∀ x : U, k unread [(2097153, .box [vl (.int .u8) b, vi x])])
  | _, _ => False
noncomputable def rdcntLoop2 : LoopF := fun _ svs os k => match svs, os with
  | [.val (.int .i64) i, .val (.int .i64) l, .own q, .val (.int .i64) v, .val (.int .i64) n, .ptr p0 o0], [.box [.val (.sl false [.int .u8]) b, .val (.int .i64) a], .arr t xs] =>
    ((p0 = 2097153 ∧ o0 = 0 ∧ q = 636 ∧ t = intT) ∧ 0 ≤ i.int ∧ i.int ≤ l.int ∧ l.int ≤ 65535 ∧ (xs.length : Int) + (l.int - i.int) ≤ 65536) ∧
    k (.exit 2) ⟨[(4, .own 636), (3, vi n), (0, .ptr 2097153 0)], [(2097153, .box [vl (.int .u8) b, vi a]), (636, .arr intT (xs ++ List.replicate (l.int - i.int).toNat v))]⟩
  | _, _ => False
noncomputable def rdcntLoop0 : LoopF := fun pan svs os k => match svs, os with
  | [.own q, .val (.int .i64) n, .ptr p0 o0], [.box [.val (.sl false [.int .u8]) b, .val (.int .i64) a], .arr t xs] =>
    ((p0 = 2097153 ∧ o0 = 0 ∧ q = 636 ∧ t = intT) ∧ b.list.length ≤ 1099511627776 ∧ 0 ≤ n.int ∧ n.int ≤ 65536 ∧ a = .i a.int ∧ 0 ≤ a.int ∧ a.int ≤ b.list.length ∧ byteOk b.list ∧ (xs.length : Int) ≤ n.int) ∧
    (bif rcK b.list (n.int - (xs.length : Int)) a.int then
      k (.exit 0) ⟨[(4, .own 636)], [(2097153, .box [vl (.int .u8) b, vi (.i (rcE b.list (n.int - (xs.length : Int)) a.int))]), (636, .arr intT (xs ++ rcS b.list (n.int - (xs.length : Int)) a.int))]⟩
      else rdLost b pan)
  | _, _ => False
noncomputable def rdcntC : Ctx := mkC PR eqs0 fnsNil (trsCons 57 [false, false] rdnumF trsNil)
  (loopCons 2 [34, 33, 4, 6, 3, 0] [2097153, 636] rdcntLoop2 (loopCons 0 [4, 3, 0] [2097153, 636] rdcntLoop0 noLoops)) (outCons 2 [4, 3, 0] [2097153, 636] (outCons 0 [4] [2097153, 636] noOut)) noOut
theorem rdcnt_round2 (pan : KP) (μ : Mu) (N : Nat) (k : KE) (i l v n b a : U) (xs : List U) : (exec (rdcntC.panics pan) (loopBody Try.f61 1) 2 ⟨[(34, vi i), (33, vi l), (4, .own 636), (6, vi v), (3, vi n), (0, .ptr 2097153 0)], [(2097153, .box [vl (.int .u8) b, vi a]), (636, .arr intT xs)]⟩ (again PR (some ([4, 3, 0], [2097153, 636])) none pan [34, 33, 4, 6, 3, 0] [2097153, 636] rdcntLoop2 μ N k)) = (bif decide (i.int < l.int) then bif decide (List.length xs + ((0 : Nat) + (1 : Nat)) ≤ room) && !oddB (636 : Nat) then bif Nat.blt (μ [.val (.int IntKind.i64) (U.i (IntKind.wrap .i64 (i.int + (1 : Int)))), .val (.int IntKind.i64) l, .own (nat_lit 636), .val (.int IntKind.i64) v, .val (.int IntKind.i64) n, .ptr (nat_lit 2097153) (nat_lit 0)] [.box [.val (.sl false [.int .u8]) b, .val (.int IntKind.i64) a], .arr (nat_lit 3) (xs ++ [v])]) N then ((nat_lit 2097153 = nat_lit 2097153 ∧ nat_lit 0 = nat_lit 0 ∧ nat_lit 636 = nat_lit 636 ∧ nat_lit 3 = nat_lit 3) ∧ (0 : Int) ≤ IntKind.wrap .i64 (i.int + (1 : Int)) ∧ IntKind.wrap .i64 (i.int + (1 : Int)) ≤ l.int ∧ l.int ≤ (65535 : Int) ∧ (↑(List.length (xs ++ [v])) : Int) + (l.int - IntKind.wrap .i64 (i.int + (1 : Int))) ≤ (65536 : Int)) ∧ k (Ex.exit (nat_lit 2)) (St.mk [(nat_lit 4, .own (nat_lit 636)), (nat_lit 3, .val (.int IntKind.i64) n), (nat_lit 0, .ptr (nat_lit 2097153) (nat_lit 0))] [(nat_lit 2097153, .box [.val (.sl false [.int .u8]) b, .val (.int IntKind.i64) a]), (nat_lit 636, .arr (nat_lit 3) (xs ++ [v] ++ List.replicate (Int.toNat (l.int - IntKind.wrap .i64 (i.int + (1 : Int)))) v))]) else False else False else k (Ex.exit (nat_lit 2)) (St.mk [(nat_lit 4, .own (nat_lit 636)), (nat_lit 3, .val (.int IntKind.i64) n), (nat_lit 0, .ptr (nat_lit 2097153) (nat_lit 0))] [(nat_lit 2097153, .box [.val (.sl false [.int .u8]) b, .val (.int IntKind.i64) a]), (nat_lit 636, .arr (nat_lit 3) xs)])) := by kernel_rfl
theorem rdcnt_round0 (pan : KP) (μ : Mu) (N : Nat) (k : KE) (n b a : U) (xs : List U) : (exec (rdcntC.panics pan) (loopBody Try.f61 0) 0 ⟨[(4, .own 636), (3, vi n), (0, .ptr 2097153 0)], [(2097153, .box [vl (.int .u8) b, vi a]), (636, .arr intT xs)]⟩ (again PR (some ([4], [2097153, 636])) none pan [4, 3, 0] [2097153, 636] rdcntLoop0 μ N k)) = (bif decide ((xs.length : Int) < n.int) then (rdIs ((2097152 : Nat) + (1 : Nat)) (0 : Nat) ((2097152 : Nat) + (1 : Nat)) b ∧ (1 : Int) ≤ (2 : Int) ∧ (2 : Int) ≤ (4 : Int)) ∧ bif thereR b.list a.int (2 : Int) then (rdIs ((2097152 : Nat) + (1 : Nat)) (0 : Nat) ((2097152 : Nat) + (1 : Nat)) b ∧ (1 : Int) ≤ (2 : Int) ∧ (2 : Int) ≤ (4 : Int)) ∧ bif thereR b.list (a.int + (2 : Int)) (2 : Int) then bif getN b.list a.int (2 : Int) == (0 : Int) then pan (SV.ifc (nat_lit 123) (SV.agg [])) (St.mk [(nat_lit 32, .ifc (nat_lit 123) (SV.agg [])), (nat_lit 31, .agg []), (nat_lit 30, .val .bool (U.b true)), (nat_lit 29, .und), (nat_lit 23, .val .bool (U.b true)), (nat_lit 28, .und), (nat_lit 23, .val .bool (U.b true)), (nat_lit 27, .und), (nat_lit 23, .val .bool (U.b true)), (nat_lit 26, .und), (nat_lit 23, .val .bool (U.b true)), (nat_lit 25, .und), (nat_lit 23, .val .bool (U.b true)), (nat_lit 24, .und), (nat_lit 23, .val .bool (U.b true)), (nat_lit 23, .val .bool (U.b (getN b.list a.int (2 : Int) == (0 : Int)))), (nat_lit 22, .val .bool (U.b (getN b.list a.int (2 : Int) == (0 : Int)))), (nat_lit 21, .val (.int IntKind.i64) (U.i (getN b.list a.int (2 : Int)))), (nat_lit 6, .val (.int IntKind.i64) (U.i (getN b.list (a.int + (2 : Int)) (2 : Int)))), (nat_lit 20, .val (.int IntKind.i64) (U.i (getN b.list (a.int + (2 : Int)) (2 : Int)))), (nat_lit 19, .ptr (nat_lit 2097153) (nat_lit 0)), (nat_lit 5, .val (.int IntKind.i64) (U.i (getN b.list a.int (2 : Int)))), (nat_lit 18, .val (.int IntKind.i64) (U.i (getN b.list a.int (2 : Int)))), (nat_lit 17, .ptr (nat_lit 2097153) (nat_lit 0)), (nat_lit 16, .val .bool (U.b (decide ((xs.length : Int) < n.int)))), (nat_lit 15, .val (.int IntKind.i64) n), (nat_lit 14, .val (.int IntKind.i64) (U.i (xs.length : Int))), (nat_lit 13, .own (nat_lit 636)), (nat_lit 4, .own (nat_lit 636)), (nat_lit 3, .val (.int IntKind.i64) n), (nat_lit 0, .ptr (nat_lit 2097153) (nat_lit 0))] [(nat_lit 2097153, .box [.val (.sl false [.int .u8]) b, .val (.int IntKind.i64) (U.i (a.int + (2 : Int) + (2 : Int)))]), (nat_lit 636, .arr (nat_lit 3) xs)]) else bif decide (getN b.list a.int (2 : Int) > IntKind.wrap .i64 (n.int - (xs.length : Int))) then pan (SV.ifc (nat_lit 123) (SV.agg [])) (St.mk [(nat_lit 32, .ifc (nat_lit 123) (SV.agg [])), (nat_lit 31, .agg []), (nat_lit 30, .val .bool (U.b (decide (getN b.list a.int (2 : Int) > IntKind.wrap .i64 (n.int - (xs.length : Int)))))), (nat_lit 29, .val .bool (U.b (decide (getN b.list a.int (2 : Int) > IntKind.wrap .i64 (n.int - (xs.length : Int)))))), (nat_lit 23, .val .bool (U.b false)), (nat_lit 28, .val (.int IntKind.i64) (U.i (IntKind.wrap .i64 (n.int - (xs.length : Int))))), (nat_lit 23, .val .bool (U.b false)), (nat_lit 27, .val (.int IntKind.i64) (U.i (xs.length : Int))), (nat_lit 23, .val .bool (U.b false)), (nat_lit 26, .own (nat_lit 636)), (nat_lit 23, .val .bool (U.b false)), (nat_lit 25, .val (.int IntKind.i64) n), (nat_lit 23, .val .bool (U.b false)), (nat_lit 24, .val (.int IntKind.i64) (U.i (getN b.list a.int (2 : Int)))), (nat_lit 23, .val .bool (U.b false)), (nat_lit 23, .val .bool (U.b (getN b.list a.int (2 : Int) == (0 : Int)))), (nat_lit 22, .val .bool (U.b (getN b.list a.int (2 : Int) == (0 : Int)))), (nat_lit 21, .val (.int IntKind.i64) (U.i (getN b.list a.int (2 : Int)))), (nat_lit 6, .val (.int IntKind.i64) (U.i (getN b.list (a.int + (2 : Int)) (2 : Int)))), (nat_lit 20, .val (.int IntKind.i64) (U.i (getN b.list (a.int + (2 : Int)) (2 : Int)))), (nat_lit 19, .ptr (nat_lit 2097153) (nat_lit 0)), (nat_lit 5, .val (.int IntKind.i64) (U.i (getN b.list a.int (2 : Int)))), (nat_lit 18, .val (.int IntKind.i64) (U.i (getN b.list a.int (2 : Int)))), (nat_lit 17, .ptr (nat_lit 2097153) (nat_lit 0)), (nat_lit 16, .val .bool (U.b (decide ((xs.length : Int) < n.int)))), (nat_lit 15, .val (.int IntKind.i64) n), (nat_lit 14, .val (.int IntKind.i64) (U.i (xs.length : Int))), (nat_lit 13, .own (nat_lit 636)), (nat_lit 4, .own (nat_lit 636)), (nat_lit 3, .val (.int IntKind.i64) n), (nat_lit 0, .ptr (nat_lit 2097153) (nat_lit 0))] [(nat_lit 2097153, .box [.val (.sl false [.int .u8]) b, .val (.int IntKind.i64) (U.i (a.int + (2 : Int) + (2 : Int)))]), (nat_lit 636, .arr (nat_lit 3) xs)]) else ((nat_lit 2097153 = nat_lit 2097153 ∧ nat_lit 0 = nat_lit 0 ∧ nat_lit 636 = nat_lit 636 ∧ nat_lit 3 = nat_lit 3) ∧ (0 : Int) ≤ (0 : Int) ∧ (0 : Int) ≤ getN b.list a.int (2 : Int) ∧ getN b.list a.int (2 : Int) ≤ (65535 : Int) ∧ (xs.length : Int) + (getN b.list a.int (2 : Int) - (0 : Int)) ≤ (65536 : Int)) ∧ bif Nat.blt (μ [.own (nat_lit 636), .val (.int IntKind.i64) n, .ptr (nat_lit 2097153) (nat_lit 0)] [.box [.val (.sl false [.int .u8]) b, .val (.int IntKind.i64) (U.i (a.int + (2 : Int) + (2 : Int)))], .arr (nat_lit 3) (xs ++ List.replicate (Int.toNat (getN b.list a.int (2 : Int) - (0 : Int))) (U.i (getN b.list (a.int + (2 : Int)) (2 : Int))))]) N then ((nat_lit 2097153 = nat_lit 2097153 ∧ nat_lit 0 = nat_lit 0 ∧ nat_lit 636 = nat_lit 636 ∧ nat_lit 3 = nat_lit 3) ∧ b.list.length ≤ (1099511627776 : Nat) ∧ (0 : Int) ≤ n.int ∧ n.int ≤ (65536 : Int) ∧ U.i (a.int + (2 : Int) + (2 : Int)) = U.i (a.int + (2 : Int) + (2 : Int)) ∧ (0 : Int) ≤ a.int + (2 : Int) + (2 : Int) ∧ a.int + (2 : Int) + (2 : Int) ≤ (b.list.length : Int) ∧ byteOk b.list ∧ (↑(List.length (xs ++ List.replicate (Int.toNat (getN b.list a.int (2 : Int) - (0 : Int))) (U.i (getN b.list (a.int + (2 : Int)) (2 : Int))))) : Int) ≤ n.int) ∧ bif rcK b.list (n.int - (↑(List.length (xs ++ List.replicate (Int.toNat (getN b.list a.int (2 : Int) - (0 : Int))) (U.i (getN b.list (a.int + (2 : Int)) (2 : Int))))) : Int)) (a.int + (2 : Int) + (2 : Int)) then k (Ex.exit (nat_lit 0)) (St.mk [(nat_lit 4, .own (nat_lit 636))] [(nat_lit 2097153, .box [.val (.sl false [.int .u8]) b, .val (.int IntKind.i64) (U.i (rcE b.list (n.int - (↑(List.length (xs ++ List.replicate (Int.toNat (getN b.list a.int (2 : Int) - (0 : Int))) (U.i (getN b.list (a.int + (2 : Int)) (2 : Int))))) : Int)) (a.int + (2 : Int) + (2 : Int))))]), (nat_lit 636, .arr (nat_lit 3) (xs ++ List.replicate (Int.toNat (getN b.list a.int (2 : Int) - (0 : Int))) (U.i (getN b.list (a.int + (2 : Int)) (2 : Int))) ++ rcS b.list (n.int - (↑(List.length (xs ++ List.replicate (Int.toNat (getN b.list a.int (2 : Int) - (0 : Int))) (U.i (getN b.list (a.int + (2 : Int)) (2 : Int))))) : Int)) (a.int + (2 : Int) + (2 : Int))))]) else ∀ (σ : St) (x : U), getO (St.objs σ) (2097153 : Nat) = some (Obj.box [vl (.int .u8) b, vi x]) → pan (SV.ifc (123 : TypeId) (SV.agg [])) σ else False else pan (SV.ifc (nat_lit 123) (SV.agg [])) (St.mk [(nat_lit 19, .ptr (nat_lit 2097153) (nat_lit 0)), (nat_lit 5, .val (.int IntKind.i64) (U.i (getN b.list a.int (2 : Int)))), (nat_lit 18, .val (.int IntKind.i64) (U.i (getN b.list a.int (2 : Int)))), (nat_lit 17, .ptr (nat_lit 2097153) (nat_lit 0)), (nat_lit 16, .val .bool (U.b (decide ((xs.length : Int) < n.int)))), (nat_lit 15, .val (.int IntKind.i64) n), (nat_lit 14, .val (.int IntKind.i64) (U.i (xs.length : Int))), (nat_lit 13, .own (nat_lit 636)), (nat_lit 4, .own (nat_lit 636)), (nat_lit 3, .val (.int IntKind.i64) n), (nat_lit 0, .ptr (nat_lit 2097153) (nat_lit 0))] [(nat_lit 2097153, .box [.val (.sl false [.int .u8]) b, .val (.int IntKind.i64) (U.i (a.int + (2 : Int)))]), (nat_lit 636, .arr (nat_lit 3) xs)]) else pan (SV.ifc (nat_lit 123) (SV.agg [])) (St.mk [(nat_lit 17, .ptr (nat_lit 2097153) (nat_lit 0)), (nat_lit 16, .val .bool (U.b (decide ((xs.length : Int) < n.int)))), (nat_lit 15, .val (.int IntKind.i64) n), (nat_lit 14, .val (.int IntKind.i64) (U.i (xs.length : Int))), (nat_lit 13, .own (nat_lit 636)), (nat_lit 4, .own (nat_lit 636)), (nat_lit 3, .val (.int IntKind.i64) n), (nat_lit 0, .ptr (nat_lit 2097153) (nat_lit 0))] [(nat_lit 2097153, .box [.val (.sl false [.int .u8]) b, .val (.int IntKind.i64) a]), (nat_lit 636, .arr (nat_lit 3) xs)]) else k (Ex.exit (nat_lit 0)) (St.mk [(nat_lit 4, .own (nat_lit 636))] [(nat_lit 2097153, .box [.val (.sl false [.int .u8]) b, .val (.int IntKind.i64) a]), (nat_lit 636, .arr (nat_lit 3) xs)])) := by kernel_rfl
theorem rdcnt_tree (R : RT) (b a : U) : (runD rdcntC Try.f61 [.ptr 2097153 0] [(2097153, .box [vl (.int .u8) b, vi a])] R) = ((rdIs ((2097152 : Nat) + (1 : Nat)) (0 : Nat) ((2097152 : Nat) + (1 : Nat)) b ∧ (1 : Int) ≤ (4 : Int) ∧ (4 : Int) ≤ (4 : Int)) ∧ bif thereR b.list a.int (4 : Int) then bif decide (getN b.list a.int (4 : Int) > (65536 : Int)) then R (Out.pan (SV.ifc (nat_lit 123) (SV.agg []))) [(nat_lit 2097153, .box [.val (.sl false [.int .u8]) b, .val (.int IntKind.i64) (U.i (a.int + (4 : Int)))])] else ((nat_lit 2097153 = nat_lit 2097153 ∧ nat_lit 0 = nat_lit 0 ∧ nat_lit 636 = nat_lit 636 ∧ nat_lit 3 = nat_lit 3) ∧ b.list.length ≤ (1099511627776 : Nat) ∧ (0 : Int) ≤ getN b.list a.int (4 : Int) ∧ getN b.list a.int (4 : Int) ≤ (65536 : Int) ∧ U.i (a.int + (4 : Int)) = U.i (a.int + (4 : Int)) ∧ (0 : Int) ≤ a.int + (4 : Int) ∧ a.int + (4 : Int) ≤ (b.list.length : Int) ∧ byteOk b.list ∧ (↑(0 : Nat) : Int) ≤ getN b.list a.int (4 : Int)) ∧ bif rcK b.list (getN b.list a.int (4 : Int) - (↑(0 : Nat) : Int)) (a.int + (4 : Int)) then R (Out.ret [.own (nat_lit 2097280)]) [(nat_lit 2097153, .box [.val (.sl false [.int .u8]) b, .val (.int IntKind.i64) (U.i (rcE b.list (getN b.list a.int (4 : Int) - (↑(0 : Nat) : Int)) (a.int + (4 : Int))))]), (nat_lit 2097280, .arr (nat_lit 3) ([] ++ rcS b.list (getN b.list a.int (4 : Int) - (↑(0 : Nat) : Int)) (a.int + (4 : Int))))] else ∀ (σ : St) (x : U), getO (St.objs σ) (2097153 : Nat) = some (Obj.box [vl (.int .u8) b, vi x]) → Ctx.pan (Ctx.panics rdcntC fun v σ => finT [((2097153 : Nat), .box [vl (.int .u8) b, vi a])] R (Out.pan v) (St.objs σ)) (SV.ifc (123 : TypeId) (SV.agg [])) σ else R (Out.pan (SV.ifc (nat_lit 123) (SV.agg []))) [(nat_lit 2097153, .box [.val (.sl false [.int .u8]) b, .val (.int IntKind.i64) a])]) := by kernel_rfl
end Go.Mat

namespace Go.Mat
open Go Go.Den Go.Proofs
theorem rcK_end {b : List U} {m a : Int} (h : m ≤ 0) : rcK b m a = true := by
  rw [rcK, if_neg (by omega), decide_eq_true h]
theorem rcS_end {b : List U} {m a : Int} (h : m ≤ 0) : rcS b m a = [] := by
  rw [rcS, if_neg (by omega)]
theorem rcE_end {b : List U} {m a : Int} (h : m ≤ 0) : rcE b m a = a := by
  rw [rcE, if_neg (by omega)]
theorem rcK_zero {b : List U} {m a : Int} (h : 0 < m) (h1 : getN b a 2 ≤ 0) : rcK b m a = false := by
  rw [rcK, if_neg (by omega), decide_eq_false (by omega)]
theorem rcK_no2 {b : List U} {m a : Int} (h : 0 < m) (h1 : thereR b (a + 2) 2 = false) : rcK b m a = false := by
  rw [rcK]
  split
  · rw [h1]; simp
  · rw [decide_eq_false (by omega)]
theorem rcK_big {b : List U} {m a : Int} (h : 0 < m) (h1 : m < getN b a 2) : rcK b m a = false := by
  rw [rcK, if_pos (by omega), decide_eq_false (by omega)]
  simp
theorem rcK_step {b : List U} {m a : Int} (h : 0 < m) (h0 : 0 < getN b a 2) (h1 : thereR b a 2 = true) (h2 : thereR b (a + 2) 2 = true) (h3 : getN b a 2 ≤ m) : rcK b m a = rcK b (m - getN b a 2) (a + 2 + 2) := by
  rw [rcK, if_pos ⟨h, h0⟩, h1, h2, decide_eq_true h3, show a + 4 = a + 2 + 2 by omega]
  rfl
theorem rcS_step {b : List U} {m a : Int} (h : 0 < m) (h0 : 0 < getN b a 2) : rcS b m a = List.replicate (getN b a 2).toNat (.i (getN b (a + 2) 2)) ++ rcS b (m - getN b a 2) (a + 2 + 2) := by
  rw [rcS, if_pos ⟨h, h0⟩, show a + 4 = a + 2 + 2 by omega]
theorem rcE_step {b : List U} {m a : Int} (h : 0 < m) (h0 : 0 < getN b a 2) : rcE b m a = rcE b (m - getN b a 2) (a + 2 + 2) := by
  rw [rcE, if_pos ⟨h, h0⟩, show a + 4 = a + 2 + 2 by omega]
theorem rdcnt_loop2 : LoopOk rdcntC 2 (loopBody Try.f61 1) := by
  refine loopOk_of (F := rdcntLoop2) (ts := [34, 33, 4, 6, 3, 0]) (os := [2097153, 636]) rfl (fun svs _ => match svs with | .val _ i :: .val _ l :: _ => (l.int - i.int).toNat | _ => 0) ?_
  intro pan svs os k ho1 ho2 h
  unfold rdcntLoop2 at h
  split at h
  · rename_i i l q v n p0 o0 b a t xs
    obtain ⟨⟨⟨rfl, rfl, rfl, rfl⟩, h0, h1, h2, hx⟩, hk⟩ := h
    refine .eq (rdcnt_round2 pan _ _ k i l v n b a xs) ?_
    have hw : IntKind.wrap .i64 (i.int + 1) = i.int + 1 := i64_in (by omega) (by omega)
    simp only [hw]
    refine bd (fun hlt => ?_) (fun hlt => ?_)
    · have hlt' : (l.int - (i.int + 1)).toNat < (l.int - i.int).toNat := by omega
      rw [show (l.int - i.int).toNat = (l.int - (i.int + 1)).toNat + 1 by omega, List.replicate_succ, List.append_cons] at hk
      exact broom (by simp [room]; omega) rfl (blt hlt' ⟨⟨⟨by trivial, by trivial, by trivial, by trivial⟩, by omega, by omega, h2, by rw [List.length_append, List.length_singleton]; omega⟩, hk⟩)
    · rw [show (l.int - i.int).toNat = 0 by omega, List.replicate_zero, List.append_nil] at hk
      exact hk
  · exact h.elim
theorem rdcnt_loop0 : LoopOk rdcntC 0 (loopBody Try.f61 0) := by
  refine loopOk_of (F := rdcntLoop0) (ts := [4, 3, 0]) (os := [2097153, 636]) rfl (fun svs os => match svs, os with | [_, .val _ n, _], [_, .arr _ xs] => (n.int - (xs.length : Int)).toNat | _, _ => 0) ?_
  intro pan svs os k ho1 ho2 h
  unfold rdcntLoop0 at h
  split at h
  · rename_i q n p0 o0 b a t xs
    obtain ⟨⟨⟨rfl, rfl, rfl, rfl⟩, hb, hn0, hn, ha, h0, h1, hbk, hx⟩, hk⟩ := h
    refine .eq (rdcnt_round0 pan _ _ k n b a xs) ?_
    have hg := getN2 (a := a.int) hbk
    have hw : IntKind.wrap .i64 (n.int - (xs.length : Int)) = n.int - (xs.length : Int) := i64_in (by omega) (by omega)
    simp only [hw, Int.sub_zero]
    refine bd (fun hlt => ⟨⟨⟨rfl, rfl, rfl, hb⟩, by omega, by omega⟩, bi (fun ht => ?_) (fun ht => ?_)⟩) (fun hlt => ?_)
    · have hi := thereR_iff.1 ht
      refine ⟨⟨⟨rfl, rfl, rfl, hb⟩, by omega, by omega⟩, bi (fun ht2 => ?_) (fun ht2 => ?_)⟩
      · have hj := thereR_iff.1 ht2
        refine bi (fun hz => ?_) (fun hz => ?_)
        · rw [rcK_zero (by omega) (by have := eq_of_beq hz; omega), cond_false] at hk
          exact hk _ _ rfl
        have hz : getN b.list a.int 2 ≠ 0 := by simpa using hz
        refine bd (fun hg1 => ?_) (fun hg1 => ?_)
        · rw [rcK_big (by omega) (by omega), cond_false] at hk
          exact hk _ _ rfl
        have e : n.int - ((xs ++ List.replicate (getN b.list a.int 2).toNat (U.i (getN b.list (a.int + 2) 2))).length : Int) = n.int - (xs.length : Int) - getN b.list a.int 2 := by
          rw [List.length_append, List.length_replicate]; omega
        have el : ((xs ++ List.replicate (getN b.list a.int 2).toNat (U.i (getN b.list (a.int + 2) 2))).length : Int) ≤ n.int := by omega
        have hlt' : (n.int - ((xs ++ List.replicate (getN b.list a.int 2).toNat (U.i (getN b.list (a.int + 2) 2))).length : Int)).toNat < (n.int - (xs.length : Int)).toNat := by omega
        rw [rcK_step (by omega) (by omega) ht ht2 (by omega), rcS_step (by omega) (by omega), rcE_step (by omega) (by omega), ← List.append_assoc, ← e] at hk
        exact ⟨⟨⟨by trivial, by trivial, by trivial, by trivial⟩, by omega, by omega, by omega, by omega⟩, blt hlt' ⟨⟨⟨by trivial, by trivial, by trivial, by trivial⟩, hb, hn0, hn, by trivial, by omega, by omega, hbk, el⟩, hk⟩⟩
      · rw [rcK_no2 (by omega) ht2, cond_false] at hk
        exact hk _ _ rfl
    · have hz : getN b.list a.int 2 = 0 := by
        unfold getN
        rw [ht]; rfl
      rw [rcK_zero (by omega) (by omega), cond_false] at hk
      exact hk _ _ rfl
    · rw [rcK_end (by omega), rcS_end (by omega), rcE_end (by omega), cond_true, ← ha, List.append_nil] at hk
      exact hk
  · exact h.elim
theorem rdcnt_ok : SpecT PR 61 rdcntF := fun fn hfn => by
  have hf : PR.funcs[(61 : Nat)]? = some Try.f61 := by kernel_rfl
  rw [hf] at hfn; cases hfn
  refine fnT_okH (C := rdcntC) (mkC_ok eqs0_ok mixed_ok .nil (.cons rdnum_ok .nil)) hf (by kernel_rfl) (loops_two (by kernel_rfl) rdcnt_loop0 rdcnt_loop2) fun vs objs R h1 h2 h => ?_
  unfold rdcntF at h
  split at h
  · rename_i p o i b a
    obtain ⟨⟨rfl, rfl, rfl, hb⟩, h⟩ := h
    have hbk : byteOk b.list := bytes_ok (h2 _ _ (List.mem_cons_self ..)).1
    clear h1 h2
    refine .eq (rdcnt_tree R b a) ?_
    have hg := getN4 (a := a.int) hbk
    have e0 : ((0 : Nat) : Int) = 0 := rfl
    unfold rnK at h
    simp only [e0, Int.sub_zero]
    refine ⟨⟨⟨rfl, rfl, rfl, hb⟩, by omega, by omega⟩, bi (fun h1 => ?_) (fun h1 => ?_)⟩
    · have hi := thereR_iff.1 h1
      rw [h1, Bool.true_and] at h
      refine bd (fun h2 => ?_) (fun h2 => ?_)
      · rw [decide_eq_false (by omega), Bool.false_and, cond_false] at h
        exact h _
      rw [decide_eq_true (by omega), Bool.true_and] at h
      refine ⟨⟨⟨by trivial, by trivial, by trivial, by trivial⟩, hb, by omega, by omega, by trivial, by omega, by omega, hbk, by omega⟩, bi (fun h3 => ?_) (fun h3 => ?_)⟩
      · rw [h3, cond_true] at h
        exact h
      · rw [h3, cond_false] at h
        exact fun σ x hx => finT_lost hx (h x)
    · rw [h1, Bool.false_and, Bool.false_and, cond_false] at h
      exact h _
  · exact h.elim
end Go.Mat

namespace Go.Mat
open Go Go.Den Go.Proofs
abbrev rrObjs (b : U) (a : U) (bad : Bool) : Objs := [(2097153, .box [vl (.int .u8) b, vi a, vb (.b bad)])]
noncomputable def rrnumF : Tr := fun vs objs k => match vs, objs with
  | [.ptr p o, .val (.int .i64) n], [(i, .box [.val (.sl false [.int .u8]) b, .val (.int .i64) a, .val .bool bad])] =>
    (rdIs p o i b ∧ bad = .b bad.bool ∧ 1 ≤ n.int ∧ n.int ≤ 4) ∧
    (bif !bad.bool && thereR b.list a.int n.int then k (.ret [vi (.i (getN b.list a.int n.int))]) (rrObjs b (.i (a.int + n.int)) false) else k (.ret [vi (.i 0)]) (rrObjs b a true))
  | _, _ => False
noncomputable def rrtextF : Tr := fun vs objs k => match vs, objs with
  | [.ptr p o], [(i, .box [.val (.sl false [.int .u8]) b, .val (.int .i64) a, .val .bool bad])] =>
    (rdIs p o i b ∧ bad = .b bad.bool) ∧
    (bif !bad.bool && readR b.list a.int then k (.ret [.val .str (.s (readV b.list a.int))]) (rrObjs b (.i (a.int + 2 + getN b.list a.int 2)) false) else k (.ret [.val .str (.s ⟨#[]⟩)]) (rrObjs b a true))
  | _, _ => False
noncomputable def rrtabF : Tr := fun vs objs k => match vs, objs with
  | [.ptr p o, .val (.int .i64) n, .val (.int .i64) c], [(i, .box [.val (.sl false [.int .u8]) b, .val (.int .i64) a, .val .bool bad])] =>
    (rdIs p o i b ∧ bad = .b bad.bool) ∧
    (bif !bad.bool && tgR b.list a.int (n.int / 2 ^ c.int.toNat) c.int then k (.ret [.agg [vl (.sl true EC) (.l (tgL b.list a.int))]]) (rrObjs b (.i (a.int + 2 + 130 * getN b.list a.int 2)) false)
      else k (.ret [.agg [.own 2097280]]) (rrObjs b a true ++ [(2097280, .arr leafT [])]))
  | _, _ => False
noncomputable def rrnumC : Ctx := mkC PR eqs0 (fnsConsP 62 getP getS fnsNil) trsNil noLoops noOut noOut
theorem rrnum_tree (R : RT) (n b a bad : U) : (runD rrnumC Try.f41 [.ptr 2097153 0, vi n] [(2097153, .box [vl (.int .u8) b, vi a, vb (.b bad.bool)])] R) = (getP [[b], [a], [n], [U.b false]] ∧ bif U.bool bad then R (Out.ret [SV.val (Ct.int IntKind.i64) (U.i (0 : Int))]) [(nat_lit 2097153, Obj.box [SV.val (Ct.sl false [Ct.int IntKind.u8]) b, SV.val (Ct.int
  IntKind.i64) a, SV.val Ct.bool (U.b true)])] else bif getE (U.list b) (U.int a) (U.int n) != (0 : Int) then R (Out.ret [SV.val (Ct.int IntKind.i64) (U.i (0 : Int))]) [(nat_lit 2097153, Obj.box [SV.val
  (Ct.sl false [Ct.int IntKind.u8]) b, SV.val (Ct.int IntKind.i64) a, SV.val Ct.bool (U.b true)])] else R (Out.ret [SV.val (Ct.int IntKind.i64) (U.i (IntKind.wrap IntKind.i64 (getN (U.list b) (U.int a) (U.int
  n))))]) [(nat_lit 2097153, Obj.box [SV.val (Ct.sl false [Ct.int IntKind.u8]) b, SV.val (Ct.int IntKind.i64) (U.i (IntKind.wrap IntKind.i64 (U.int a + U.int n))), SV.val Ct.bool (U.b (U.bool bad))])]) := by kernel_rfl
noncomputable def rrtextC : Ctx := mkC PR eqs0 (fnsConsP 63 readP readS fnsNil) trsNil noLoops noOut noOut
theorem rrtext_tree (R : RT) (b a bad : U) : (runD rrtextC Try.f42 [.ptr 2097153 0] [(2097153, .box [vl (.int .u8) b, vi a, vb (.b bad.bool)])] R) = (readP [[b], [a]] ∧ bif U.bool bad then R (Out.ret [SV.val Ct.str (U.s (ByteArray.mk #[]))]) [(nat_lit 2097153, Obj.box [SV.val (Ct.sl false [Ct.int IntKind.u8]) b, SV.val (Ct.int IntKind.i64) a, SV.val
  Ct.bool (U.b true)])] else bif readE (U.list b) (U.int a) != (0 : Int) then R (Out.ret [SV.val Ct.str (U.s (ByteArray.mk #[]))]) [(nat_lit 2097153, Obj.box [SV.val (Ct.sl false [Ct.int IntKind.u8]) b,
  SV.val (Ct.int IntKind.i64) a, SV.val Ct.bool (U.b true)])] else R (Out.ret [SV.val Ct.str (U.s (readV (U.list b) (U.int a)))]) [(nat_lit 2097153, Obj.box [SV.val (Ct.sl false [Ct.int IntKind.u8]) b, SV.val
  (Ct.int IntKind.i64) (U.i (readA (U.list b) (U.int a))), SV.val Ct.bool (U.b (U.bool bad))])]) := by kernel_rfl
noncomputable def rrtabC : Ctx := mkC PR eqs0 (fnsConsP 64 tgP tgS fnsNil) trsNil noLoops noOut noOut
theorem rrtab_tree (R : RT) (n c b a bad : U) : (runD rrtabC Try.f43 [.ptr 2097153 0, vi n, vi c] [(2097153, .box [vl (.int .u8) b, vi a, vb (.b bad.bool)])] R) = (bif bad.bool then R (Out.ret [.agg [.own (nat_lit 2097280)]]) [(nat_lit 2097153, .box [.val (.sl false [.int .u8]) b, .val (.int IntKind.i64) a, .val .bool (U.b true)]), (nat_lit 2097280, .arr (nat_lit 51) [])] else bif decide (c.int < (0 : Int)) then R (Out.ret [.agg [.own (nat_lit 2097280)]]) [(nat_lit 2097153, .box [.val (.sl false [.int .u8]) b, .val (.int IntKind.i64) a, .val .bool (U.b true)]), (nat_lit 2097280, .arr (nat_lit 51) [])] else bif decide (c.int > (6 : Int)) then R (Out.ret [.agg [.own (nat_lit 2097280)]]) [(nat_lit 2097153, .box [.val (.sl false [.int .u8]) b, .val (.int IntKind.i64) a, .val .bool (U.b true)]), (nat_lit 2097280, .arr (nat_lit 51) [])] else bif decide (IntKind.wrap .u64 c.int < (0 : Int)) then False else (fun T => Alt (Alt (Alt T T) T) (Alt (Alt (Alt T T) T) (Alt T T))) (tgP [[b], [a], [U.i (Int.fdiv n.int ((2 : Int) ^ min (Int.toNat (IntKind.wrap .u64 c.int)) (IntKind.bits IntKind.i64)))], [c]] ∧ bif (bif tgR b.list a.int (Int.fdiv n.int ((2 : Int) ^ min (Int.toNat (IntKind.wrap .u64 c.int)) (IntKind.bits IntKind.i64))) c.int then (0 : Int) else (3 : Int)) != (0 : Int) then R (Out.ret [.agg [.own (nat_lit 2097280)]]) [(nat_lit 2097153, .box [.val (.sl false [.int .u8]) b, .val (.int IntKind.i64) a, .val .bool (U.b true)]), (nat_lit 2097280, .arr (nat_lit 51) [])] else R (Out.ret [.agg [.val (.sl false [.sl true [.int .i64, .int .i64, .int .i64, .int .i64, .int .u32]]) (U.l (bif tgR b.list a.int (Int.fdiv n.int ((2 : Int) ^ min (Int.toNat (IntKind.wrap .u64 c.int)) (IntKind.bits IntKind.i64))) c.int then tgL b.list a.int else []))]]) [(nat_lit 2097153, .box [.val (.sl false [.int .u8]) b, .val (.int IntKind.i64) (U.i (bif tgR b.list a.int (Int.fdiv n.int ((2 : Int) ^ min (Int.toNat (IntKind.wrap .u64 c.int)) (IntKind.bits IntKind.i64))) c.int then a.int + (2 : Int) + (130 : Int) * getN b.list a.int (2 : Int) else (0 : Int))), .val .bool (U.b bad.bool)])])) := by kernel_rfl
end Go.Mat

namespace Go.Mat
open Go Go.Den Go.Proofs
theorem tgR_neg {b : List U} {a n c : Int} (h : c < 0) : tgR b a n c = false := by
  unfold tgR
  rw [tableR_c (.inl h), Bool.and_false]
theorem rrnum_ok : SpecT PR 41 rrnumF := fun fn hfn => by
  have hf : PR.funcs[(41 : Nat)]? = some Try.f41 := by kernel_rfl
  rw [hf] at hfn; cases hfn
  refine fnT_okH (C := rrnumC) (mkC_ok eqs0_ok mixed_ok (.consP rget_ok .nil) .nil) hf (by kernel_rfl) (loops_none (by kernel_rfl)) fun vs objs R h1 h2 h => ?_
  unfold rrnumF at h
  split at h
  · rename_i p o n i b a bad
    obtain ⟨⟨⟨rfl, rfl, rfl, hb⟩, hbad, hn1, hn4⟩, h⟩ := h
    have hbk : byteOk b.list := bytes_ok (h2 _ _ (List.mem_cons_self ..)).1
    clear h1 h2
    obtain ⟨x, rfl⟩ : ∃ x, bad = .b x := ⟨_, hbad⟩
    simp only [U.bool_b] at h
    refine .eq (rrnum_tree R n b a (.b x)) ?_
    have hg := getN_4 (a := a.int) (n := n.int) hbk (by omega) hn4
    rw [getE_iff]
    simp only [U.bool_b]
    refine ⟨⟨hn1, hn4, rfl, hb⟩, bi (fun hx => ?_) (fun hx => ?_)⟩
    · rw [hx, Bool.not_true, Bool.false_and, cond_false] at h
      exact h
    rw [hx, Bool.not_false, Bool.true_and] at h
    rw [hx]
    refine bi (fun ht => ?_) (fun ht => ?_)
    · rw [show thereR b.list a.int n.int = false by simpa using ht, cond_false] at h
      exact h
    · have ht : thereR b.list a.int n.int = true := by simpa using ht
      have hi := thereR_iff.1 ht
      rw [ht, cond_true] at h
      rw [i64_in (by omega) (by omega), i64_in (by omega) (by omega)]
      exact h
  · exact h.elim
theorem rrtext_ok : SpecT PR 42 rrtextF := fun fn hfn => by
  have hf : PR.funcs[(42 : Nat)]? = some Try.f42 := by kernel_rfl
  rw [hf] at hfn; cases hfn
  refine fnT_okH (C := rrtextC) (mkC_ok eqs0_ok mixed_ok (.consP rread_ok .nil) .nil) hf (by kernel_rfl) (loops_none (by kernel_rfl)) fun vs objs R h1 h2 h => ?_
  unfold rrtextF at h
  split at h
  · rename_i p o i b a bad
    obtain ⟨⟨⟨rfl, rfl, rfl, hb⟩, hbad⟩, h⟩ := h
    have hbk : byteOk b.list := bytes_ok (h2 _ _ (List.mem_cons_self ..)).1
    clear h1 h2
    obtain ⟨x, rfl⟩ : ∃ x, bad = .b x := ⟨_, hbad⟩
    simp only [U.bool_b] at h
    refine .eq (rrtext_tree R b a (.b x)) ?_
    unfold readE readA
    simp only [U.bool_b]
    refine ⟨hb, bi (fun hx => ?_) (fun hx => ?_)⟩
    · rw [hx, Bool.not_true, Bool.false_and, cond_false] at h
      exact h
    rw [hx, Bool.not_false, Bool.true_and] at h
    rw [hx]
    cases ht : readR b.list a.int with
    | true =>
      rw [ht, cond_true] at h
      exact h
    | false =>
      rw [ht, cond_false] at h
      exact h
  · exact h.elim
theorem rrtab_ok : SpecT PR 43 rrtabF := fun fn hfn => by
  have hf : PR.funcs[(43 : Nat)]? = some Try.f43 := by kernel_rfl
  rw [hf] at hfn; cases hfn
  refine fnT_okH (C := rrtabC) (mkC_ok eqs0_ok mixed_ok (.consP rtg_ok .nil) .nil) hf (by kernel_rfl) (loops_none (by kernel_rfl)) fun vs objs R h1 h2 h => ?_
  unfold rrtabF at h
  split at h
  · rename_i p o n c i b a bad
    obtain ⟨⟨⟨rfl, rfl, rfl, hb⟩, hbad⟩, h⟩ := h
    have hbk : byteOk b.list := bytes_ok (h2 _ _ (List.mem_cons_self ..)).1
    clear h1 h2
    obtain ⟨x, rfl⟩ : ∃ x, bad = .b x := ⟨_, hbad⟩
    simp only [U.bool_b] at h
    refine .eq (rrtab_tree R n c b a (.b x)) ?_
    simp only [U.bool_b, Alt_self]
    refine bi (fun hx => ?_) (fun hx => ?_)
    · rw [hx, Bool.not_true, Bool.false_and, cond_false] at h
      exact h
    rw [hx, Bool.not_false, Bool.true_and] at h
    rw [hx]
    refine bd (fun h6 => ?_) (fun h6 => ?_)
    · rw [tgR_neg (by omega), cond_false] at h
      exact h
    refine bd (fun h7 => ?_) (fun h7 => ?_)
    · rw [tgR_c (by omega), cond_false] at h
      exact h
    rw [u64_in (by omega) (by omega), shr_eq (by omega)]
    refine df (by omega) ⟨hb, ?_⟩
    cases ht : tgR b.list a.int (n.int / 2 ^ c.int.toNat) c.int with
    | true =>
      rw [ht, cond_true] at h
      exact h
    | false =>
      rw [ht, cond_false] at h
      exact h
  · exact h.elim
end Go.Mat

namespace Go.Mat
open Go Go.Den Go.Proofs
abbrev shT : TypeId := 41
abbrev bmT : TypeId := 44
def shZ (b : List U) (a : Int) : Int := getN b (rmN b a) 2
def sh1K (b : List U) (c a : Int) : Bool := readR b a && thereR b (rmN b a) 2 && tgR b (rmN b a + 2) (shZ b a / 2 ^ c.toNat) c
def sh1E (b : List U) (a : Int) : Int := rmN b a + 2 + 2 + 130 * getN b (rmN b a + 2) 2
def sh1U (b : List U) (a : Int) : U := .l [.s (readV b a), .i (shZ b a), .l (tgL b (rmN b a + 2))]
def shK (b : List U) (c : Int) : Nat → Int → Bool
  | 0, _ => true
  | m + 1, a => sh1K b c a && shK b c m (sh1E b a)
def shE (b : List U) : Nat → Int → Int
  | 0, a => a
  | m + 1, a => shE b m (sh1E b a)
def shS (b : List U) : Nat → Int → List U
  | 0, _ => []
  | m + 1, a => sh1U b a :: shS b m (sh1E b a)
abbrev rmBox (c sz bk T : U) : Den.Obj := .box [vi c, vi sz, .val .str bk, vl (.sl true EC) T, .own 8437770, .own 8437772, .own 8437774]
abbrev rmRes : List (Nat × Den.Obj) := [(256, .box [vi (.i 0), vi (.i 0), .val .str (.s ⟨#[]⟩), .own 264, .own 266, .own 268, .own 270]), (264, .arr leafT []), (266, .arr shT []), (268, .arr bmT []), (270, .arr intT [])]
def rdmIs (p0 o0 p3 o3 p2 o2 q4 q5 q6 r3 r4 r5 r6 : Nat) (ec : List Ct) (t1 t2 t3 u1 u2 u3 u4 : TypeId) (ys zs x1 x2 x3 x4 : List U) (i0 i1 s0 : U) : Prop :=
  (p0 = 2097153 ∧ o0 = 0 ∧ p3 = 384 ∧ o3 = 0 ∧ p2 = 256 ∧ o2 = 0) ∧ (q4 = 8437770 ∧ q5 = 8437772 ∧ q6 = 8437774 ∧ r3 = 264 ∧ r4 = 266 ∧ r5 = 268 ∧ r6 = 270) ∧ ec = EC ∧
  (t1 = shT ∧ t2 = bmT ∧ t3 = intT ∧ u1 = leafT ∧ u2 = shT ∧ u3 = bmT ∧ u4 = intT) ∧ (ys = [] ∧ zs = [] ∧ x1 = [] ∧ x2 = [] ∧ x3 = [] ∧ x4 = []) ∧ i0 = .i 0 ∧ i1 = .i 0 ∧ s0 = .s ⟨#[]⟩
noncomputable def rdmLoop0 : LoopF := fun pan svs os k => match svs, os with
  | [.val (.int .i64) n, .ptr p0 o0, .ptr p3 o3, .ptr p2 o2], [.box [.val (.sl false [.int .u8]) b, .val (.int .i64) a], .box [.val (.int .i64) c, .val (.int .i64) sz, .val .str bk, .val (.sl false [.sl true ec]) T, .own q4, .own q5, .own q6], .arr t1 xs, .arr t2 ys, .arr t3 zs,
      .box [.val (.int .i64) i0, .val (.int .i64) i1, .val .str s0, .own r3, .own r4, .own r5, .own r6], .arr u1 x1, .arr u2 x2, .arr u3 x3, .arr u4 x4] =>
    (rdmIs p0 o0 p3 o3 p2 o2 q4 q5 q6 r3 r4 r5 r6 ec t1 t2 t3 u1 u2 u3 u4 ys zs x1 x2 x3 x4 i0 i1 s0 ∧
      b.list.length ≤ 1099511627776 ∧ 0 ≤ c.int ∧ 0 ≤ n.int ∧ n.int ≤ 255 ∧ a = .i a.int ∧ 0 ≤ a.int ∧ a.int ≤ b.list.length ∧ byteOk b.list ∧ (xs.length : Int) + n.int ≤ 255) ∧
    (bif shK b.list c.int n.int.toNat a.int then
      k (.exit 0) ⟨[(0, .ptr 2097153 0), (3, .ptr 384 0), (2, .ptr 256 0)], (2097153, .box [vl (.int .u8) b, vi (.i (shE b.list n.int.toNat a.int))]) :: (384, rmBox c sz bk T) :: (8437770, .arr shT (xs ++ shS b.list n.int.toNat a.int)) :: (8437772, .arr bmT []) :: (8437774, .arr intT []) :: rmRes⟩
      else rdLost b pan)
  | _, _ => False
def bm1U (b : List U) (a : Int) : U := .l [.s (readV b a), .b (getN b (rmN b a) 1 == 1), .l (rmS b a)]
def bmK (b : List U) : Nat → Int → Bool
  | 0, _ => true
  | m + 1, a => rmK b a && bmK b m (rmE b a)
def bmE (b : List U) : Nat → Int → Int
  | 0, a => a
  | m + 1, a => bmE b m (rmE b a)
def bmS (b : List U) : Nat → Int → List U
  | 0, _ => []
  | m + 1, a => bm1U b a :: bmS b m (rmE b a)
noncomputable def rdmLoop2 : LoopF := fun pan svs os k => match svs, os with
  | [.val (.int .i64) n, .ptr p0 o0, .ptr p3 o3, .ptr p2 o2], [.box [.val (.sl false [.int .u8]) b, .val (.int .i64) a], .box [.val (.int .i64) c, .val (.int .i64) sz, .val .str bk, .val (.sl false [.sl true ec]) T, .own q4, .own q5, .own q6], .arr t1 xs, .arr t2 ys, .arr t3 zs,
      .box [.val (.int .i64) i0, .val (.int .i64) i1, .val .str s0, .own r3, .own r4, .own r5, .own r6], .arr u1 x1, .arr u2 x2, .arr u3 x3, .arr u4 x4] =>
    (rdmIs p0 o0 p3 o3 p2 o2 q4 q5 q6 r3 r4 r5 r6 ec t1 t2 t3 u1 u2 u3 u4 [] zs x1 x2 x3 x4 i0 i1 s0 ∧
      b.list.length ≤ 1099511627776 ∧ 0 ≤ n.int ∧ n.int ≤ 255 ∧ a = .i a.int ∧ 0 ≤ a.int ∧ a.int ≤ b.list.length ∧ byteOk b.list ∧ (ys.length : Int) + n.int ≤ 255) ∧
    (bif bmK b.list n.int.toNat a.int then
      k (.exit 2) ⟨[(0, .ptr 2097153 0), (3, .ptr 384 0), (2, .ptr 256 0)], (2097153, .box [vl (.int .u8) b, vi (.i (bmE b.list n.int.toNat a.int))]) :: (384, rmBox c sz bk T) :: (8437770, .arr shT xs) :: (8437772, .arr bmT (ys ++ bmS b.list n.int.toNat a.int)) :: (8437774, .arr intT []) :: rmRes⟩
      else rdLost b pan)
  | _, _ => False
noncomputable def rdmC : Ctx := mkC PR eqs0 fnsNil (trsCons 57 [false, false] rdnumF (trsCons 58 [false] rdtextF (trsCons 59 [false, false, false] rdtabF
    (trsCons 60 [false] rdmapF (trsCons 61 [false] rdcntF trsNil)))))
  (loopCons 2 [6, 0, 3, 2] [2097153, 384, 8437770, 8437772, 8437774, 256, 264, 266, 268, 270] rdmLoop2 (loopCons 0 [4, 0, 3, 2] [2097153, 384, 8437770, 8437772, 8437774, 256, 264, 266, 268, 270] rdmLoop0 noLoops))
  (outCons 2 [0, 3, 2] [2097153, 384, 8437770, 8437772, 8437774, 256, 264, 266, 268, 270] (outCons 0 [0, 3, 2] [2097153, 384, 8437770, 8437772, 8437774, 256, 264, 266, 268, 270] noOut)) noOut
theorem rdm_round0 (pan : KP) (μ : Mu) (N : Nat) (k : KE) (n b a c sz bk T : U) (xs : List U) : (exec (rdmC.panics pan) (loopBody Try.f40 0) 0 ⟨[(4, vi n), (0, .ptr 2097153 0), (3, .ptr 384 0), (2, .ptr 256 0)], (2097153, .box [vl (.int .u8) b, vi a]) :: (384, rmBox c sz bk T) :: (8437770, .arr shT xs) :: (8437772, .arr bmT []) :: (8437774, .arr intT []) :: rmRes⟩ (again PR (some ([0, 3, 2], [2097153, 384, 8437770, 8437772, 8437774, 256, 264, 266, 268, 270])) none pan [4, 0, 3, 2] [2097153, 384, 8437770, 8437772, 8437774, 256, 264, 266, 268, 270] rdmLoop0 μ N k)) = (bif decide (n.int > 0) then rdIs 2097153 (0 : Nat) 2097153 b ∧ bif readR b.list a.int then (rdIs 2097153 (0 : Nat) 2097153 b ∧ (1 : Int) ≤ 2 ∧ (2 : Int) ≤ 4) ∧ bif thereR b.list (a.int + 2 + getN b.list a.int 2) 2 then (rdIs 2097153 (0 : Nat) 2097153 b ∧ (0 : Int) ≤ getN b.list (a.int + 2 + getN b.list a.int 2) 2 ∧ (0 : Int) ≤ c.int) ∧ bif tgR b.list (a.int + 2 + getN b.list a.int 2 + 2) (getN b.list (a.int + 2 + getN b.list a.int 2) 2 / 2 ^ Int.toNat c.int) c.int then bif decide (List.length xs + 1 ≤ room) && !oddB 8437770 then bif Nat.blt (μ [vi (U.i (IntKind.wrap .i64 (n.int - 1))), .ptr 2097153 0, .ptr 384 0, .ptr 256 0] [.box [.val (.sl false [.int .u8]) b, vi (U.i (a.int + 2 + getN b.list a.int 2 + 2 + 2 + 130 * getN b.list (a.int + 2 + getN b.list a.int 2 + 2) 2))], .box [vi c, vi sz, .val .str bk, .val (.sl false [.sl true [.int .i64, .int .i64, .int .i64, .int .i64, .int .u32]]) T, .own 8437770, .own 8437772, .own 8437774], .arr 41 (xs ++ [U.l [U.s (readV b.list a.int), U.i (getN b.list (a.int + 2 + getN b.list a.int 2) 2), U.l (tgL b.list (a.int + 2 + getN b.list a.int 2 + 2))]]), .arr 44 [], .arr 3 [], .box [vi (U.i 0), vi (U.i 0), .val .str (U.s ⟨#[]⟩), .own 264, .own 266, .own 268, .own 270], .arr 51 [], .arr 41 [], .arr 44 [], .arr 3 []]) N then (rdmIs 2097153 (0 : Nat) 384 (0 : Nat) 256 (0 : Nat) 8437770 8437772 8437774 264 266 268 270 EC (41 : Nat) 44 3 51 41 44 3 [] [] [] [] [] [] (U.i 0) (U.i 0) (U.s ⟨#[]⟩) ∧ b.list.length ≤ (1099511627776 : Nat) ∧ (0 : Int) ≤ c.int ∧ (0 : Int) ≤ IntKind.wrap .i64 (n.int - 1) ∧ IntKind.wrap .i64 (n.int - 1) ≤ 255 ∧ U.i (a.int + 2 + getN b.list a.int 2 + 2 + 2 + 130 * getN b.list (a.int + 2 + getN b.list a.int 2 + 2) 2) = U.i (a.int + 2 + getN b.list a.int 2 + 2 + 2 + 130 * getN b.list (a.int + 2 + getN b.list a.int 2 + 2) 2) ∧ (0 : Int) ≤ a.int + 2 + getN b.list a.int 2 + 2 + 2 + 130 * getN b.list (a.int + 2 + getN b.list a.int 2 + 2) 2 ∧ a.int + 2 + getN b.list a.int 2 + 2 + 2 + 130 * getN b.list (a.int + 2 + getN b.list a.int 2 + 2) (2 : Int) ≤ (b.list.length : Int) ∧ byteOk b.list ∧ (↑(List.length (xs ++ [U.l [U.s (readV b.list a.int), U.i (getN b.list (a.int + 2 + getN b.list a.int 2) 2), U.l (tgL b.list (a.int + 2 + getN b.list a.int 2 + 2))]])) : Int) + IntKind.wrap .i64 (n.int - 1) ≤ 255) ∧ bif shK b.list c.int (Int.toNat (IntKind.wrap .i64 (n.int - 1))) (a.int + 2 + getN b.list a.int 2 + 2 + 2 + 130 * getN b.list (a.int + 2 + getN b.list a.int 2 + 2) 2) then k (Ex.exit 0) (St.mk [(0, .ptr 2097153 0), (3, .ptr 384 0), (2, .ptr 256 0)] [(2097153, .box [.val (.sl false [.int .u8]) b, vi (U.i (shE b.list (Int.toNat (IntKind.wrap .i64 (n.int - 1))) (a.int + 2 + getN b.list a.int 2 + 2 + 2 + 130 * getN b.list (a.int + 2 + getN b.list a.int 2 + 2) 2)))]), (384, .box [vi c, vi sz, .val .str bk, .val (.sl false [.sl true [.int .i64, .int .i64, .int .i64, .int .i64, .int .u32]]) T, .own 8437770, .own 8437772, .own 8437774]), (8437770, .arr 41 (xs ++ [U.l [U.s (readV b.list a.int), U.i (getN b.list (a.int + 2 + getN b.list a.int 2) 2), U.l (tgL b.list (a.int + 2 + getN b.list a.int 2 + 2))]] ++ shS b.list (Int.toNat (IntKind.wrap .i64 (n.int - 1))) (a.int + 2 + getN b.list a.int 2 + 2 + 2 + 130 * getN b.list (a.int + 2 + getN b.list a.int 2 + 2) 2))), (8437772, .arr 44 []), (8437774, .arr 3 []), (256, .box [vi (U.i 0), vi (U.i 0), .val .str (U.s ⟨#[]⟩), .own 264, .own 266, .own 268, .own 270]), (264, .arr 51 []), (266, .arr 41 []), (268, .arr 44 []), (270, .arr 3 [])]) else ∀ (σ : St) (x : U), getO (St.objs σ) (2097153 : Nat) = some (Obj.box [vl (.int .u8) b, vi x]) → pan (SV.ifc (123 : TypeId) (SV.agg [])) σ else False else False else pan (SV.ifc 123 (SV.agg [])) (St.mk [(36, vi c), (35, .ptr 384 0), (34, vi (U.i (getN b.list (a.int + 2 + getN b.list a.int 2) 2))), (33, .ptr 640 1), (32, .ptr 2097153 0), (5, .ptr 640 0), (31, .agg [.val .str (U.s (readV b.list a.int)), vi (U.i (getN b.list (a.int + 2 + getN b.list a.int 2) 2)), .nil]), (30, vi (U.i (getN b.list (a.int + 2 + getN b.list a.int 2) 2))), (29, .ptr 2097153 0), (28, .val .str (U.s (readV b.list a.int))), (27, .ptr 2097153 0), (24, .val .bool (U.b (decide (n.int > 0)))), (23, vi n), (4, vi n), (0, .ptr 2097153 0), (3, .ptr 384 0), (2, .ptr 256 0)] [(2097153, .box [.val (.sl false [.int .u8]) b, vi (U.i (a.int + 2 + getN b.list a.int 2 + 2))]), (640, .box [.val .str (U.s (readV b.list a.int)), vi (U.i (getN b.list (a.int + 2 + getN b.list a.int 2) 2)), .own 8470534]), (8470534, .arr 51 []), (646, .arr 51 []), (384, .box [vi c, vi sz, .val .str bk, .val (.sl false [.sl true [.int .i64, .int .i64, .int .i64, .int .i64, .int .u32]]) T, .own 8437770, .own 8437772, .own 8437774]), (8437770, .arr 41 xs), (8437772, .arr 44 []), (8437774, .arr 3 []), (256, .box [vi (U.i 0), vi (U.i 0), .val .str (U.s ⟨#[]⟩), .own 264, .own 266, .own 268, .own 270]), (264, .arr 51 []), (266, .arr 41 []), (268, .arr 44 []), (270, .arr 3 [])]) else pan (SV.ifc 123 (SV.agg [])) (St.mk [(29, .ptr 2097153 0), (28, .val .str (U.s (readV b.list a.int))), (27, .ptr 2097153 0), (24, .val .bool (U.b (decide (n.int > 0)))), (23, vi n), (4, vi n), (0, .ptr 2097153 0), (3, .ptr 384 0), (2, .ptr 256 0)] [(2097153, .box [.val (.sl false [.int .u8]) b, vi (U.i (a.int + 2 + getN b.list a.int 2))]), (384, .box [vi c, vi sz, .val .str bk, .val (.sl false [.sl true [.int .i64, .int .i64, .int .i64, .int .i64, .int .u32]]) T, .own 8437770, .own 8437772, .own 8437774]), (8437770, .arr 41 xs), (8437772, .arr 44 []), (8437774, .arr 3 []), (256, .box [vi (U.i 0), vi (U.i 0), .val .str (U.s ⟨#[]⟩), .own 264, .own 266, .own 268, .own 270]), (264, .arr 51 []), (266, .arr 41 []), (268, .arr 44 []), (270, .arr 3 [])]) else pan (SV.ifc 123 (SV.agg [])) (St.mk [(27, .ptr 2097153 0), (24, .val .bool (U.b (decide (n.int > 0)))), (23, vi n), (4, vi n), (0, .ptr 2097153 0), (3, .ptr 384 0), (2, .ptr 256 0)] [(2097153, .box [.val (.sl false [.int .u8]) b, vi a]), (384, .box [vi c, vi sz, .val .str bk, .val (.sl false [.sl true [.int .i64, .int .i64, .int .i64, .int .i64, .int .u32]]) T, .own 8437770, .own 8437772, .own 8437774]), (8437770, .arr 41 xs), (8437772, .arr 44 []), (8437774, .arr 3 []), (256, .box [vi (U.i 0), vi (U.i 0), .val .str (U.s ⟨#[]⟩), .own 264, .own 266, .own 268, .own 270]), (264, .arr 51 []), (266, .arr 41 []), (268, .arr 44 []), (270, .arr 3 [])]) else k (Ex.exit 0) (St.mk [(0, .ptr 2097153 0), (3, .ptr 384 0), (2, .ptr 256 0)] [(2097153, .box [.val (.sl false [.int .u8]) b, vi a]), (384, .box [vi c, vi sz, .val .str bk, .val (.sl false [.sl true [.int .i64, .int .i64, .int .i64, .int .i64, .int .u32]]) T, .own 8437770, .own 8437772, .own 8437774]), (8437770, .arr 41 xs), (8437772, .arr 44 []), (8437774, .arr 3 []), (256, .box [vi (U.i 0), vi (U.i 0), .val .str (U.s ⟨#[]⟩), .own 264, .own 266, .own 268, .own 270]), (264, .arr 51 []), (266, .arr 41 []), (268, .arr 44 []), (270, .arr 3 [])])) := by kernel_rfl
theorem rdm_round2 (pan : KP) (μ : Mu) (N : Nat) (k : KE) (n b a c sz bk T : U) (xs ys : List U) : (exec (rdmC.panics pan) (loopBody Try.f40 1) 2 ⟨[(6, vi n), (0, .ptr 2097153 0), (3, .ptr 384 0), (2, .ptr 256 0)], (2097153, .box [vl (.int .u8) b, vi a]) :: (384, rmBox c sz bk T) :: (8437770, .arr shT xs) :: (8437772, .arr bmT ys) :: (8437774, .arr intT []) :: rmRes⟩ (again PR (some ([0, 3, 2], [2097153, 384, 8437770, 8437772, 8437774, 256, 264, 266, 268, 270])) none pan [6, 0, 3, 2] [2097153, 384, 8437770, 8437772, 8437774, 256, 264, 266, 268, 270] rdmLoop2 μ N k)) = (bif decide (n.int > 0) then Alt (rdIs 2097153 (0 : Nat) 2097153 b ∧ bif rmK b.list a.int then bif decide (List.length ys + 1 ≤ room) && !oddB 8437772 then bif Nat.blt (μ [vi (U.i (IntKind.wrap .i64 (n.int - 1))), .ptr 2097153 0, .ptr 384 0, .ptr 256 0] [.box [.val (.sl false [.int .u8]) b, vi (U.i (rmE b.list a.int))], .box [vi c, vi sz, .val .str bk, .val (.sl false [.sl true [.int .i64, .int .i64, .int .i64, .int .i64, .int .u32]]) T, .own 8437770, .own 8437772, .own 8437774], .arr 41 xs, .arr 44 (ys ++ [U.l [U.s (readV b.list a.int), U.b (getN b.list (rmN b.list a.int) (1 : Int) == 1), U.l (rmS b.list a.int)]]), .arr 3 [], .box [vi (U.i 0), vi (U.i 0), .val .str (U.s ⟨#[]⟩), .own 264, .own 266, .own 268, .own 270], .arr 51 [], .arr 41 [], .arr 44 [], .arr 3 []]) N then (rdmIs 2097153 (0 : Nat) 384 (0 : Nat) 256 (0 : Nat) 8437770 8437772 8437774 264 266 268 270 EC 41 (44 : Nat) 3 51 41 44 3 [] [] [] [] [] [] (U.i 0) (U.i 0) (U.s ⟨#[]⟩) ∧ b.list.length ≤ (1099511627776 : Nat) ∧ (0 : Int) ≤ IntKind.wrap .i64 (n.int - 1) ∧ IntKind.wrap .i64 (n.int - 1) ≤ 255 ∧ U.i (rmE b.list a.int) = U.i (rmE b.list a.int) ∧ (0 : Int) ≤ rmE b.list a.int ∧ rmE b.list a.int ≤ (b.list.length : Int) ∧ byteOk b.list ∧ (↑(List.length (ys ++ [U.l [U.s (readV b.list a.int), U.b (getN b.list (rmN b.list a.int) (1 : Int) == 1), U.l (rmS b.list a.int)]])) : Int) + IntKind.wrap .i64 (n.int - 1) ≤ 255) ∧ bif bmK b.list (Int.toNat (IntKind.wrap .i64 (n.int - 1))) (rmE b.list a.int) then k (Ex.exit 2) (St.mk [(0, .ptr 2097153 0), (3, .ptr 384 0), (2, .ptr 256 0)] [(2097153, .box [.val (.sl false [.int .u8]) b, vi (U.i (bmE b.list (Int.toNat (IntKind.wrap .i64 (n.int - 1))) (rmE b.list a.int)))]), (384, .box [vi c, vi sz, .val .str bk, .val (.sl false [.sl true [.int .i64, .int .i64, .int .i64, .int .i64, .int .u32]]) T, .own 8437770, .own 8437772, .own 8437774]), (8437770, .arr 41 xs), (8437772, .arr 44 (ys ++ [U.l [U.s (readV b.list a.int), U.b (getN b.list (rmN b.list a.int) (1 : Int) == 1), U.l (rmS b.list a.int)]] ++ bmS b.list (Int.toNat (IntKind.wrap .i64 (n.int - 1))) (rmE b.list a.int))), (8437774, .arr 3 []), (256, .box [vi (U.i 0), vi (U.i 0), .val .str (U.s ⟨#[]⟩), .own 264, .own 266, .own 268, .own 270]), (264, .arr 51 []), (266, .arr 41 []), (268, .arr 44 []), (270, .arr 3 [])]) else ∀ (σ : St) (x : U), getO (St.objs σ) (2097153 : Nat) = some (Obj.box [vl (.int .u8) b, vi x]) → pan (SV.ifc (123 : TypeId) (SV.agg [])) σ else False else False else ∀ (x : U), pan (SV.ifc 123 (SV.agg [])) (St.mk [(52, .own 8437772), (53, .ptr 2097153 0), (51, .ptr 384 5), (48, .val .bool (U.b (decide (n.int > 0)))), (47, vi n), (6, vi n), (0, .ptr 2097153 0), (3, .ptr 384 0), (2, .ptr 256 0)] [(2097153, .box [.val (.sl false [.int .u8]) b, vi x]), (384, .box [vi c, vi sz, .val .str bk, .val (.sl false [.sl true [.int .i64, .int .i64, .int .i64, .int .i64, .int .u32]]) T, .own 8437770, .own 8437772, .own 8437774]), (8437770, .arr 41 xs), (8437772, .arr 44 ys), (8437774, .arr 3 []), (256, .box [vi (U.i 0), vi (U.i 0), .val .str (U.s ⟨#[]⟩), .own 264, .own 266, .own 268, .own 270]), (264, .arr 51 []), (266, .arr 41 []), (268, .arr 44 []), (270, .arr 3 [])])) (rdIs 2097153 (0 : Nat) 2097153 b ∧ bif rmK b.list a.int then (fun T => Alt T T) (bif decide (List.length ys + 1 ≤ room) && !oddB 8437772 then bif Nat.blt (μ [vi (U.i (IntKind.wrap .i64 (n.int - 1))), .ptr 2097153 0, .ptr 384 0, .ptr 256 0] [.box [.val (.sl false [.int .u8]) b, vi (U.i (rmE b.list a.int))], .box [vi c, vi sz, .val .str bk, .val (.sl false [.sl true [.int .i64, .int .i64, .int .i64, .int .i64, .int .u32]]) T, .own 8437770, .own 8437772, .own 8437774], .arr 41 xs, .arr 44 (ys ++ [U.l [U.s (readV b.list a.int), U.b (getN b.list (rmN b.list a.int) (1 : Int) == 1), U.l (rmS b.list a.int)]]), .arr 3 [], .box [vi (U.i 0), vi (U.i 0), .val .str (U.s ⟨#[]⟩), .own 264, .own 266, .own 268, .own 270], .arr 51 [], .arr 41 [], .arr 44 [], .arr 3 []]) N then (rdmIs 2097153 (0 : Nat) 384 (0 : Nat) 256 (0 : Nat) 8437770 8437772 8437774 264 266 268 270 EC 41 (44 : Nat) 3 51 41 44 3 [] [] [] [] [] [] (U.i 0) (U.i 0) (U.s ⟨#[]⟩) ∧ b.list.length ≤ (1099511627776 : Nat) ∧ (0 : Int) ≤ IntKind.wrap .i64 (n.int - 1) ∧ IntKind.wrap .i64 (n.int - 1) ≤ 255 ∧ U.i (rmE b.list a.int) = U.i (rmE b.list a.int) ∧ (0 : Int) ≤ rmE b.list a.int ∧ rmE b.list a.int ≤ (b.list.length : Int) ∧ byteOk b.list ∧ (↑(List.length (ys ++ [U.l [U.s (readV b.list a.int), U.b (getN b.list (rmN b.list a.int) (1 : Int) == 1), U.l (rmS b.list a.int)]])) : Int) + IntKind.wrap .i64 (n.int - 1) ≤ 255) ∧ bif bmK b.list (Int.toNat (IntKind.wrap .i64 (n.int - 1))) (rmE b.list a.int) then k (Ex.exit 2) (St.mk [(0, .ptr 2097153 0), (3, .ptr 384 0), (2, .ptr 256 0)] [(2097153, .box [.val (.sl false [.int .u8]) b, vi (U.i (bmE b.list (Int.toNat (IntKind.wrap .i64 (n.int - 1))) (rmE b.list a.int)))]), (384, .box [vi c, vi sz, .val .str bk, .val (.sl false [.sl true [.int .i64, .int .i64, .int .i64, .int .i64, .int .u32]]) T, .own 8437770, .own 8437772, .own 8437774]), (8437770, .arr 41 xs), (8437772, .arr 44 (ys ++ [U.l [U.s (readV b.list a.int), U.b (getN b.list (rmN b.list a.int) (1 : Int) == 1), U.l (rmS b.list a.int)]] ++ bmS b.list (Int.toNat (IntKind.wrap .i64 (n.int - 1))) (rmE b.list a.int))), (8437774, .arr 3 []), (256, .box [vi (U.i 0), vi (U.i 0), .val .str (U.s ⟨#[]⟩), .own 264, .own 266, .own 268, .own 270]), (264, .arr 51 []), (266, .arr 41 []), (268, .arr 44 []), (270, .arr 3 [])]) else ∀ (σ : St) (x : U), getO (St.objs σ) (2097153 : Nat) = some (Obj.box [vl (.int .u8) b, vi x]) → pan (SV.ifc (123 : TypeId) (SV.agg [])) σ else False else False) else ∀ (x : U), pan (SV.ifc 123 (SV.agg [])) (St.mk [(53, .ptr 2097153 0), (51, .ptr 384 5), (48, .val .bool (U.b (decide (n.int > 0)))), (47, vi n), (6, vi n), (0, .ptr 2097153 0), (3, .ptr 384 0), (2, .ptr 256 0)] [(2097153, .box [.val (.sl false [.int .u8]) b, vi x]), (384, .box [vi c, vi sz, .val .str bk, .val (.sl false [.sl true [.int .i64, .int .i64, .int .i64, .int .i64, .int .u32]]) T, .own 8437770, .own 8437772, .own 8437774]), (8437770, .arr 41 xs), (8437772, .arr 44 ys), (8437774, .arr 3 []), (256, .box [vi (U.i 0), vi (U.i 0), .val .str (U.s ⟨#[]⟩), .own 264, .own 266, .own 268, .own 270]), (264, .arr 51 []), (266, .arr 41 []), (268, .arr 44 []), (270, .arr 3 [])])) else k (Ex.exit 2) (St.mk [(0, .ptr 2097153 0), (3, .ptr 384 0), (2, .ptr 256 0)] [(2097153, .box [.val (.sl false [.int .u8]) b, vi a]), (384, .box [vi c, vi sz, .val .str bk, .val (.sl false [.sl true [.int .i64, .int .i64, .int .i64, .int .i64, .int .u32]]) T, .own 8437770, .own 8437772, .own 8437774]), (8437770, .arr 41 xs), (8437772, .arr 44 ys), (8437774, .arr 3 []), (256, .box [vi (U.i 0), vi (U.i 0), .val .str (U.s ⟨#[]⟩), .own 264, .own 266, .own 268, .own 270]), (264, .arr 51 []), (266, .arr 41 []), (268, .arr 44 []), (270, .arr 3 [])])) := by kernel_rfl
def pm1 (b : List U) (a : Int) : Int := a + 1 + 2 + 2 + getN b (a + 1 + 2) 2
def pm2 (b : List U) (a : Int) : Int := pm1 b a + 2 + 130 * getN b (pm1 b a) 2
def pm3 (b : List U) (a : Int) : Int := shE b (getN b (pm2 b a) 1).toNat (pm2 b a + 1)
def pm4 (b : List U) (a : Int) : Int := bmE b (getN b (pm3 b a) 1).toNat (pm3 b a + 1)
def pmK (b : List U) (a : Int) : Bool := thereR b a 1 && thereR b (a + 1) 2 && readR b (a + 1 + 2) && tgR b (pm1 b a) (getN b (a + 1) 2 / 2 ^ (getN b a 1).toNat) (getN b a 1) && thereR b (pm2 b a) 1 && shK b (getN b a 1) (getN b (pm2 b a) 1).toNat (pm2 b a + 1) &&
  thereR b (pm3 b a) 1 && bmK b (getN b (pm3 b a) 1).toNat (pm3 b a + 1) && rnK b (pm4 b a)
def pmS (b : List U) (a : Int) : List U := shS b (getN b (pm2 b a) 1).toNat (pm2 b a + 1)
def pmM (b : List U) (a : Int) : List U := bmS b (getN b (pm3 b a) 1).toNat (pm3 b a + 1)
def pmQ (b : List U) (a : Int) : List U := rcS b (getN b (pm4 b a) 4) (pm4 b a + 4)
noncomputable def rdmetaF : Tr := fun vs objs k => match vs, objs with
  | [.ptr p o], [(i, .box [.val (.sl false [.int .u8]) b, .val (.int .i64) a])] =>
    rdIs p o i b ∧
    (bif pmK b.list a.int then k (.ret [.agg [vi (.i (getN b.list a.int 1)), vi (.i (getN b.list (a.int + 1) 2)), .val .str (.s (readV b.list (a.int + 1 + 2))), vl (.sl true EC) (.l (tgL b.list (pm1 b.list a.int))), .own 2097280, .own 2097408, .own 2097536]])
      [(2097153, .box [vl (.int .u8) b, vi (.i (rcE b.list (getN b.list (pm4 b.list a.int) 4) (pm4 b.list a.int + 4)))]), (2097280, .arr shT (pmS b.list a.int)), (2097408, .arr bmT (pmM b.list a.int)), (2097536, .arr intT (pmQ b.list a.int))]
      else ∀ x : U, k unread [(2097153, .box [vl (.int .u8) b, vi x])])
  | _, _ => False
theorem rdm_tree (R : RT) (b a : U) : (runD rdmC Try.f40 [.ptr 2097153 0] [(2097153, .box [vl (.int .u8) b, vi a])] R) = ((rdIs 2097153 (0 : Nat) 2097153 b ∧ (1 : Int) ≤ 1 ∧ (1 : Int) ≤ 4) ∧ bif thereR b.list a.int 1 then (rdIs 2097153 (0 : Nat) 2097153 b ∧ (1 : Int) ≤ 2 ∧ (2 : Int) ≤ 4) ∧ bif thereR b.list (a.int + 1) 2 then rdIs 2097153 (0 : Nat) 2097153 b ∧ bif readR b.list (a.int + 1 + 2) then (rdIs 2097153 (0 : Nat) 2097153 b ∧ (0 : Int) ≤ getN b.list (a.int + 1) 2 ∧ (0 : Int) ≤ getN b.list a.int 1) ∧ bif tgR b.list (pm1 b.list a.int) (getN b.list (a.int + 1) 2 / 2 ^ Int.toNat (getN b.list a.int 1)) (getN b.list a.int 1) then (rdIs 2097153 (0 : Nat) 2097153 b ∧ (1 : Int) ≤ 1 ∧ (1 : Int) ≤ 4) ∧ bif thereR b.list (pm2 b.list a.int) 1 then (rdmIs 2097153 (0 : Nat) 384 (0 : Nat) 256 (0 : Nat) 8437770 8437772 8437774 264 266 268 270 EC 41 44 3 51 41 44 3 [] [] [] [] [] [] (U.i 0) (U.i 0) (U.s ⟨#[]⟩) ∧ b.list.length ≤ (1099511627776 : Nat) ∧ (0 : Int) ≤ getN b.list a.int 1 ∧ (0 : Int) ≤ getN b.list (pm2 b.list a.int) 1 ∧ getN b.list (pm2 b.list a.int) (1 : Int) ≤ 255 ∧ U.i (pm2 b.list a.int + 1) = U.i (pm2 b.list a.int + 1) ∧ (0 : Int) ≤ pm2 b.list a.int + 1 ∧ pm2 b.list a.int + (1 : Int) ≤ (b.list.length : Int) ∧ byteOk b.list ∧ (↑(0 : Nat) : Int) + getN b.list (pm2 b.list a.int) (1 : Int) ≤ 255) ∧ bif shK b.list (getN b.list a.int 1) (Int.toNat (getN b.list (pm2 b.list a.int) 1)) (pm2 b.list a.int + 1) then (rdIs 2097153 (0 : Nat) 2097153 b ∧ (1 : Int) ≤ 1 ∧ (1 : Int) ≤ 4) ∧ bif thereR b.list (pm3 b.list a.int) 1 then (rdmIs 2097153 (0 : Nat) 384 (0 : Nat) 256 (0 : Nat) 8437770 8437772 8437774 264 266 268 270 EC 41 44 3 51 41 44 3 [] [] [] [] [] [] (U.i 0) (U.i 0) (U.s ⟨#[]⟩) ∧ b.list.length ≤ (1099511627776 : Nat) ∧ (0 : Int) ≤ getN b.list (pm3 b.list a.int) 1 ∧ getN b.list (pm3 b.list a.int) (1 : Int) ≤ 255 ∧ U.i (pm3 b.list a.int + 1) = U.i (pm3 b.list a.int + 1) ∧ (0 : Int) ≤ pm3 b.list a.int + 1 ∧ pm3 b.list a.int + (1 : Int) ≤ (b.list.length : Int) ∧ byteOk b.list ∧ (↑(0 : Nat) : Int) + getN b.list (pm3 b.list a.int) (1 : Int) ≤ 255) ∧ bif bmK b.list (Int.toNat (getN b.list (pm3 b.list a.int) 1)) (pm3 b.list a.int + 1) then rdIs 2097153 (0 : Nat) 2097153 b ∧ bif rnK b.list (pm4 b.list a.int) then R (Out.ret [.agg [vi (U.i (getN b.list a.int 1)), vi (U.i (getN b.list (a.int + 1) 2)), .val .str (U.s (readV b.list (a.int + 1 + 2))), .val (.sl false [.sl true [.int .i64, .int .i64, .int .i64, .int .i64, .int .u32]]) (U.l (tgL b.list (pm1 b.list a.int))), .own 2097280, .own 2097408, .own 2097536]]) [(2097153, .box [.val (.sl false [.int .u8]) b, vi (U.i (rcE b.list (getN b.list (pm4 b.list a.int) 4) (pm4 b.list a.int + 4)))]), (2097280, .arr 41 ([] ++ shS b.list (Int.toNat (getN b.list (pm2 b.list a.int) 1)) (pm2 b.list a.int + 1))), (2097408, .arr 44 ([] ++ bmS b.list (Int.toNat (getN b.list (pm3 b.list a.int) 1)) (pm3 b.list a.int + 1))), (2097536, .arr 3 (rcS b.list (getN b.list (pm4 b.list a.int) 4) (pm4 b.list a.int + 4)))] else ∀ (x : U), R (Out.pan (SV.ifc 123 (SV.agg []))) [(2097153, .box [.val (.sl false [.int .u8]) b, vi x])] else ∀ (σ : St) (x : U), getO (St.objs σ) (2097153 : Nat) = some (Obj.box [vl (.int .u8) b, vi x]) → Ctx.pan (Ctx.panics rdmC fun v σ => finT [((2097153 : Nat), .box [vl (.int .u8) b, vi a])] R (Out.pan v) (St.objs σ)) (SV.ifc (123 : TypeId) (SV.agg [])) σ else R (Out.pan (SV.ifc 123 (SV.agg []))) [(2097153, .box [.val (.sl false [.int .u8]) b, vi (U.i (pm3 b.list a.int))])] else ∀ (σ : St) (x : U), getO (St.objs σ) (2097153 : Nat) = some (Obj.box [vl (.int .u8) b, vi x]) → Ctx.pan (Ctx.panics rdmC fun v σ => finT [((2097153 : Nat), .box [vl (.int .u8) b, vi a])] R (Out.pan v) (St.objs σ)) (SV.ifc (123 : TypeId) (SV.agg [])) σ else R (Out.pan (SV.ifc 123 (SV.agg []))) [(2097153, .box [.val (.sl false [.int .u8]) b, vi (U.i (pm2 b.list a.int))])] else R (Out.pan (SV.ifc 123 (SV.agg []))) [(2097153, .box [.val (.sl false [.int .u8]) b, vi (U.i (pm1 b.list a.int))])] else R (Out.pan (SV.ifc 123 (SV.agg []))) [(2097153, .box [.val (.sl false [.int .u8]) b, vi (U.i (a.int + 1 + 2))])] else R (Out.pan (SV.ifc 123 (SV.agg []))) [(2097153, .box [.val (.sl false [.int .u8]) b, vi (U.i (a.int + 1))])] else R (Out.pan (SV.ifc 123 (SV.agg []))) [(2097153, .box [.val (.sl false [.int .u8]) b, vi a])]) := by kernel_rfl
end Go.Mat

namespace Go.Mat
open Go Go.Den Go.Proofs
theorem leavesK_end {b : List U} {k : Int} : ∀ {m : Nat} {a : Int} {L : List U}, a ≤ b.length → leavesK b k m a L = true → a + 130 * m ≤ (b.length : Int)
  | 0, a, _, h, _ => by omega
  | m + 1, a, L, _, h => by
    rw [leavesK] at h
    simp only [Bool.and_eq_true, decide_eq_true_eq] at h
    have h1 := thereR_iff.1 h.1.1.1.1
    have h2 := entsK_len (by omega) h.1.2
    have h3 := leavesK_end (by omega) h.2
    omega
theorem tgR_fits {b : List U} {a n k : Int} (h : tgR b a n k = true) : 0 ≤ a ∧ a + 2 + 130 * getN b a 2 ≤ (b.length : Int) := by
  unfold tgR at h
  simp only [Bool.and_eq_true] at h
  have h1 := thereR_iff.1 h.1.1
  have h2 := leavesK_end (by omega) h.1.2
  omega
theorem rdmIs_rfl : rdmIs 2097153 0 384 0 256 0 8437770 8437772 8437774 264 266 268 270 EC shT bmT intT leafT shT bmT intT [] [] [] [] [] [] (.i 0) (.i 0) (.s ⟨#[]⟩) :=
  ⟨⟨rfl, rfl, rfl, rfl, rfl, rfl⟩, ⟨rfl, rfl, rfl, rfl, rfl, rfl, rfl⟩, rfl, ⟨rfl, rfl, rfl, rfl, rfl, rfl, rfl⟩, ⟨rfl, rfl, rfl, rfl, rfl, rfl⟩, rfl, rfl, rfl⟩
theorem rdm_loop0 : LoopOk rdmC 0 (loopBody Try.f40 0) := by
  refine loopOk_of (F := rdmLoop0) (ts := [4, 0, 3, 2]) (os := [2097153, 384, 8437770, 8437772, 8437774, 256, 264, 266, 268, 270]) rfl (fun svs _ => match svs with | .val _ n :: _ => n.int.toNat | _ => 0) ?_
  intro pan svs os k ho1 ho2 h
  unfold rdmLoop0 at h
  split at h
  · rename_i n p0 o0 p3 o3 p2 o2 b a c sz bk ec T q4 q5 q6 t1 xs t2 ys t3 zs i0 i1 s0 r3 r4 r5 r6 u1 x1 u2 x2 u3 x3 u4 x4
    obtain ⟨⟨⟨⟨rfl, rfl, rfl, rfl, rfl, rfl⟩, ⟨rfl, rfl, rfl, rfl, rfl, rfl, rfl⟩, rfl, ⟨rfl, rfl, rfl, rfl, rfl, rfl, rfl⟩, ⟨rfl, rfl, rfl, rfl, rfl, rfl⟩, rfl, rfl, rfl⟩, hb, hc, hn0, hn, ha, h0, h1, hbk, hx⟩, hk⟩ := h
    refine .eq (rdm_round0 pan _ _ k n b a c sz bk T xs) ?_
    have hw : IntKind.wrap .i64 (n.int - 1) = n.int - 1 := i64_in (by omega) (by omega)
    simp only [hw]
    refine bd (fun hlt => ?_) (fun hlt => ?_)
    · have hlt' : (n.int - 1).toNat < n.int.toNat := by omega
      have hg := getN2 (a := a.int + 2 + getN b.list a.int 2) hbk
      rw [show n.int.toNat = (n.int - 1).toNat + 1 by omega, shK, shE, shS, List.append_cons] at hk
      unfold sh1K sh1E sh1U shZ rmN at hk
      refine ⟨⟨rfl, rfl, rfl, hb⟩, bi (fun h2 => ?_) (fun h2 => ?_)⟩
      · rw [h2, Bool.true_and] at hk
        refine ⟨⟨⟨rfl, rfl, rfl, hb⟩, by omega, by omega⟩, bi (fun h3 => ?_) (fun h3 => ?_)⟩
        · rw [h3, Bool.true_and] at hk
          refine ⟨⟨⟨rfl, rfl, rfl, hb⟩, hg.1, hc⟩, bi (fun h4 => ?_) (fun h4 => ?_)⟩
          · rw [h4, Bool.true_and] at hk
            have hf := tgR_fits h4
            have hg2 := getN2 (a := a.int + 2 + getN b.list a.int 2 + 2) hbk
            exact broom (by simp [room]; omega) rfl (blt hlt' ⟨⟨rdmIs_rfl, hb, hc, by omega, by omega, by trivial, by omega, by omega, hbk, by rw [List.length_append, List.length_singleton]; omega⟩, hk⟩)
          · rw [h4, Bool.false_and, cond_false] at hk
            exact hk _ _ rfl
        · rw [h3, Bool.false_and, Bool.false_and, cond_false] at hk
          exact hk _ _ rfl
      · rw [h2, Bool.false_and, Bool.false_and, Bool.false_and, cond_false] at hk
        exact hk _ _ rfl
    · rw [show n.int.toNat = 0 by omega, shK, shE, shS, cond_true, ← ha, List.append_nil] at hk
      exact hk
  · exact h.elim
theorem rmK_fits {b : List U} {a : Int} (hb : byteOk b) (h : rmK b a = true) : 0 ≤ rmE b a ∧ rmE b a ≤ (b.length : Int) := by
  unfold rmK at h
  simp only [Bool.and_eq_true, decide_eq_true_eq] at h
  have h1 := thereR_iff.1 h.1.1.2
  have hg := getN2 (a := rmN b a + 1) hb
  unfold rmE
  omega
theorem rdm_loop2 : LoopOk rdmC 2 (loopBody Try.f40 1) := by
  refine loopOk_of (F := rdmLoop2) (ts := [6, 0, 3, 2]) (os := [2097153, 384, 8437770, 8437772, 8437774, 256, 264, 266, 268, 270]) rfl (fun svs _ => match svs with | .val _ n :: _ => n.int.toNat | _ => 0) ?_
  intro pan svs os k ho1 ho2 h
  unfold rdmLoop2 at h
  split at h
  · rename_i n p0 o0 p3 o3 p2 o2 b a c sz bk ec T q4 q5 q6 t1 xs t2 ys t3 zs i0 i1 s0 r3 r4 r5 r6 u1 x1 u2 x2 u3 x3 u4 x4
    obtain ⟨⟨⟨⟨rfl, rfl, rfl, rfl, rfl, rfl⟩, ⟨rfl, rfl, rfl, rfl, rfl, rfl, rfl⟩, rfl, ⟨rfl, rfl, rfl, rfl, rfl, rfl, rfl⟩, ⟨-, rfl, rfl, rfl, rfl, rfl⟩, rfl, rfl, rfl⟩, hb, hn0, hn, ha, h0, h1, hbk, hx⟩, hk⟩ := h
    refine .eq (rdm_round2 pan _ _ k n b a c sz bk T xs ys) ?_
    have hw : IntKind.wrap .i64 (n.int - 1) = n.int - 1 := i64_in (by omega) (by omega)
    simp only [hw, Alt_self]
    refine bd (fun hlt => ?_) (fun hlt => ?_)
    · have hlt' : (n.int - 1).toNat < n.int.toNat := by omega
      rw [show n.int.toNat = (n.int - 1).toNat + 1 by omega, bmK, bmE, bmS, List.append_cons] at hk
      unfold bm1U at hk
      refine ⟨?_, ?_⟩
      all_goals
        refine ⟨⟨rfl, rfl, rfl, hb⟩, bi (fun h2 => ?_) (fun h2 => ?_)⟩
        · rw [h2, Bool.true_and] at hk
          have hf := rmK_fits hbk h2
          exact broom (by simp [room]; omega) rfl (blt hlt' ⟨⟨rdmIs_rfl, hb, by omega, by omega, by trivial, hf.1, hf.2, hbk, by rw [List.length_append, List.length_singleton]; omega⟩, hk⟩)
        · rw [h2, Bool.false_and, cond_false] at hk
          exact fun x => hk _ x rfl
    · rw [show n.int.toNat = 0 by omega, bmK, bmE, bmS, cond_true, ← ha, List.append_nil] at hk
      exact hk
  · exact h.elim
end Go.Mat

namespace Go.Mat
open Go Go.Den Go.Proofs
theorem shK_fits {b : List U} {c : Int} (hb : byteOk b) : ∀ {m : Nat} {a : Int}, 0 ≤ a → a ≤ b.length → shK b c m a = true → 0 ≤ shE b m a ∧ shE b m a ≤ (b.length : Int)
  | 0, a, h0, h1, _ => ⟨h0, h1⟩
  | m + 1, a, h0, h1, h => by
    rw [shK, Bool.and_eq_true] at h
    have h2 := h.1
    unfold sh1K at h2
    simp only [Bool.and_eq_true] at h2
    have h3 := tgR_fits h2.2
    have hg := getN2 (a := rmN b a + 2) hb
    have hg2 := getN2 (a := rmN b a + 2 + 2) hb
    have : 0 ≤ sh1E b a ∧ sh1E b a ≤ (b.length : Int) := by unfold sh1E; omega
    rw [shE]
    exact shK_fits hb this.1 this.2 h.2
theorem rdmeta_ok : SpecT PR 40 rdmetaF := fun fn hfn => by
  have hf : PR.funcs[(40 : Nat)]? = some Try.f40 := by kernel_rfl
  rw [hf] at hfn; cases hfn
  refine fnT_okH (C := rdmC) (mkC_ok eqs0_ok mixed_ok .nil (.cons rdnum_ok (.cons rdtext_ok (.cons rdtab_ok (.cons rdmap_ok (.cons rdcnt_ok .nil)))))) hf (by kernel_rfl) (loops_two (by kernel_rfl) rdm_loop0 rdm_loop2) fun vs objs R h1 h2 h => ?_
  unfold rdmetaF at h
  split at h
  · rename_i p o i b a
    obtain ⟨⟨rfl, rfl, rfl, hb⟩, h⟩ := h
    have hbk : byteOk b.list := bytes_ok (h2 _ _ (List.mem_cons_self ..)).1
    clear h1 h2
    refine .eq (rdm_tree R b a) ?_
    unfold pmK pmS pmM pmQ at h
    have g1 := getN1 (a := a.int) hbk
    have g2 := getN2 (a := a.int + 1) hbk
    refine ⟨⟨⟨rfl, rfl, rfl, hb⟩, by omega, by omega⟩, bi (fun k1 => ?_) (fun k1 => ?_)⟩
    rotate_left
    · rw [k1] at h; simp only [Bool.false_and, cond_false] at h; exact h _
    rw [k1, Bool.true_and] at h
    refine ⟨⟨⟨rfl, rfl, rfl, hb⟩, by omega, by omega⟩, bi (fun k2 => ?_) (fun k2 => ?_)⟩
    rotate_left
    · rw [k2] at h; simp only [Bool.false_and, cond_false] at h; exact h _
    rw [k2, Bool.true_and] at h
    refine ⟨⟨rfl, rfl, rfl, hb⟩, bi (fun k3 => ?_) (fun k3 => ?_)⟩
    rotate_left
    · rw [k3] at h; simp only [Bool.false_and, cond_false] at h; exact h _
    rw [k3, Bool.true_and] at h
    refine ⟨⟨⟨rfl, rfl, rfl, hb⟩, by omega, by omega⟩, bi (fun k4 => ?_) (fun k4 => ?_)⟩
    rotate_left
    · rw [k4] at h; simp only [Bool.false_and, cond_false] at h; exact h _
    rw [k4, Bool.true_and] at h
    have f4 := tgR_fits k4
    have f5 : 0 ≤ pm2 b.list a.int ∧ pm2 b.list a.int ≤ (b.list.length : Int) := by
      have hg := getN2 (a := pm1 b.list a.int) hbk
      unfold pm2; omega
    have g3 := getN1 (a := pm2 b.list a.int) hbk
    refine ⟨⟨⟨rfl, rfl, rfl, hb⟩, by omega, by omega⟩, bi (fun k5 => ?_) (fun k5 => ?_)⟩
    rotate_left
    · rw [k5] at h; simp only [Bool.false_and, cond_false] at h; exact h _
    rw [k5, Bool.true_and] at h
    have i5 := thereR_iff.1 k5
    refine ⟨⟨rdmIs_rfl, hb, by omega, by omega, by omega, by trivial, by omega, by omega, hbk, by omega⟩, bi (fun k6 => ?_) (fun k6 => ?_)⟩
    rotate_left
    · rw [k6] at h; simp only [Bool.false_and, cond_false] at h
      exact fun σ x hx => finT_lost hx (h x)
    rw [k6, Bool.true_and] at h
    have f6 := shK_fits hbk (by omega) (by omega) k6
    have f7 : 0 ≤ pm3 b.list a.int ∧ pm3 b.list a.int ≤ (b.list.length : Int) := f6
    have g4 := getN1 (a := pm3 b.list a.int) hbk
    refine ⟨⟨⟨rfl, rfl, rfl, hb⟩, by omega, by omega⟩, bi (fun k7 => ?_) (fun k7 => ?_)⟩
    rotate_left
    · rw [k7] at h; simp only [Bool.false_and, cond_false] at h; exact h _
    rw [k7, Bool.true_and] at h
    have i7 := thereR_iff.1 k7
    refine ⟨⟨rdmIs_rfl, hb, by omega, by omega, by trivial, by omega, by omega, hbk, by omega⟩, bi (fun k8 => ?_) (fun k8 => ?_)⟩
    rotate_left
    · rw [k8] at h; simp only [Bool.false_and, cond_false] at h
      exact fun σ x hx => finT_lost hx (h x)
    rw [k8, Bool.true_and] at h
    refine ⟨⟨rfl, rfl, rfl, hb⟩, bi (fun k9 => ?_) (fun k9 => ?_)⟩
    · rw [k9, cond_true] at h
      exact h
    · rw [k9, cond_false] at h
      exact h
  · exact h.elim
end Go.Mat

namespace Go.Mat
open Go Go.Den Go.Proofs
noncomputable def recC : Ctx := mkC PR eqs0 fnsNil trsNil noLoops noOut noOut
noncomputable def mgetC : Ctx := mkC PR eqs0 (fnsConsP 12 mputP mputS fnsNil) (trsCons 40 [false] rdmetaF trsNil) noLoops noOut noOut
def mgB (V : List U) (b : List U) : Bool := (toStr V).toList == (toStr b).toList
def mgK (b : List U) : Bool := pmK b 0 && (metaE (.i (getN b 0 1)) (.i (getN b 1 2)) (.s (readV b 3)) (.l (tgL b (pm1 b 0))) (.l (pmS b 0)) (.l (pmM b 0)) (.l (pmQ b 0)) == 0) &&
  mgB (metaX (.i (getN b 0 1)) (.i (getN b 1 2)) (.s (readV b 3)) (.l (tgL b (pm1 b 0))) (.l (pmS b 0)) (.l (pmM b 0)) (.l (pmQ b 0))) b
def mgetP : List (List U) → Prop := fun us => (nth (.i 0) (nth [] us 0) 0).list.length ≤ 1099511627776
def mgetX (b : List U) : List (List U) := [[.i (bif mgK b then getN b 0 1 else 0), .i (bif mgK b then getN b 1 2 else 0), .s (bif mgK b then readV b 3 else ⟨#[]⟩), .l (bif mgK b then tgL b (pm1 b 0) else []), .l (bif mgK b then pmS b 0 else []), .l (bif mgK b then pmM b 0 else []),
  .l (bif mgK b then pmQ b 0 else [])], [.i (bif mgK b then 0 else 3)]]
def mgetS : List (List U) → List (List U) := fun us => [[.i (bif mgK (nth (.i 0) (nth [] us 0) 0).list then getN (nth (.i 0) (nth [] us 0) 0).list 0 1 else 0), .i (bif mgK (nth (.i 0) (nth [] us 0) 0).list then getN (nth (.i 0) (nth [] us 0) 0).list 1 2 else 0),
  .s (bif mgK (nth (.i 0) (nth [] us 0) 0).list then readV (nth (.i 0) (nth [] us 0) 0).list 3 else ⟨#[]⟩), .l (bif mgK (nth (.i 0) (nth [] us 0) 0).list then tgL (nth (.i 0) (nth [] us 0) 0).list (pm1 (nth (.i 0) (nth [] us 0) 0).list 0) else []), .l (bif mgK (nth (.i 0) (nth [] us 0) 0).list then pmS (nth (.i 0) (nth [] us 0) 0).list 0 else []),
  .l (bif mgK (nth (.i 0) (nth [] us 0) 0).list then pmM (nth (.i 0) (nth [] us 0) 0).list 0 else []), .l (bif mgK (nth (.i 0) (nth [] us 0) 0).list then pmQ (nth (.i 0) (nth [] us 0) 0).list 0 else [])], [.i (bif mgK (nth (.i 0) (nth [] us 0) 0).list then 0 else 3)]]
theorem mget_tree (R : RF) (b : U) : (runG mgetC Try.f18 39 (runRec recC Try.f39) [[b]] R) = (rdIs 2097153 (0 : Nat) 2097153 b ∧ bif pmK b.list 0 then mputP [[U.i (getN b.list 0 1), U.i (getN b.list 1 2), U.s (readV b.list 3), U.l (tgL b.list (pm1 b.list 0)), U.l (pmS b.list 0), U.l (pmM b.list
  0), U.l (pmQ b.list 0)]] ∧ bif metaE (U.i (getN b.list 0 1)) (U.i (getN b.list 1 2)) (U.s (readV b.list 3)) (U.l (tgL b.list (pm1 b.list 0))) (U.l (pmS b.list 0)) (U.l (pmM b.list 0)) (U.l (pmQ b.list
  0)) != 0 then R [[U.i 0, U.i 0, U.s (ByteArray.mk #[]), U.l [], U.l [], U.l [], U.l []], [U.i 3]] else bif !ByteArray.toList (ByteArray.mk (List.toArray (List.map (fun x => UInt8.ofNat (Int.toNat x.int))
  (metaX (U.i (getN b.list 0 1)) (U.i (getN b.list 1 2)) (U.s (readV b.list 3)) (U.l (tgL b.list (pm1 b.list 0))) (U.l (pmS b.list 0)) (U.l (pmM b.list 0)) (U.l (pmQ b.list 0)))))) == ByteArray.toList (ByteArray.mk
  (List.toArray (List.map (fun x => UInt8.ofNat (Int.toNat x.int)) b.list))) then R [[U.i 0, U.i 0, U.s (ByteArray.mk #[]), U.l [], U.l [], U.l [], U.l []], [U.i 3]] else R [[U.i (getN b.list 0 1), U.i (getN
  b.list 1 2), U.s (readV b.list 3), U.l (tgL b.list (pm1 b.list 0)), U.l (pmS b.list 0), U.l (pmM b.list 0), U.l (pmQ b.list 0)], [U.i 0]] else ∀ (x : U), R [[U.i 0, U.i 0, U.s (ByteArray.mk #[]), U.l [],
  U.l [], U.l [], U.l []], [U.i 3]]) := by kernel_rfl
end Go.Mat

namespace Go.Mat
open Go Go.Den Go.Proofs
theorem leavesG_low {b : List U} {k : Int} : ∀ {m : Nat} {a : Int} {L : List U}, leavesK b k m a L = true → L.length ≤ 512 → (leavesG b m a L).length ≤ 512
  | 0, _, _, _, h => h
  | m + 1, a, L, h, hl => by
    rw [leavesK] at h
    simp only [Bool.and_eq_true, decide_eq_true_eq] at h
    have h1 := padU_len h.1.1.1.2
    rw [leavesG]
    refine leavesG_low h.2 ?_
    rw [List.length_append, List.length_singleton]
    omega
theorem tgL_len {b : List U} {a n k : Int} (h : tgR b a n k = true) : (tgL b a).length ≤ 512 := by
  unfold tgR at h
  simp only [Bool.and_eq_true] at h
  exact leavesG_low h.1.2 (by simp)
theorem shS_low {b : List U} {c : Int} : ∀ {m : Nat} {a : Int}, shK b c m a = true → ∀ s ∈ shS b m a, (e2 s).list.length ≤ 512
  | 0, _, _, s, hs => by cases hs
  | m + 1, a, h, s, hs => by
    rw [shK, Bool.and_eq_true] at h
    rw [shS] at hs
    rcases List.mem_cons.1 hs with rfl | hs
    · have h2 := h.1
      unfold sh1K at h2
      simp only [Bool.and_eq_true] at h2
      exact tgL_len h2.2
    · exact shS_low h.2 s hs
theorem spG_len {b : List U} : ∀ {m : Nat} {a : Int}, (spG b m a).length = m
  | 0, _ => rfl
  | m + 1, a => by rw [spG, List.length_cons, spG_len]
theorem bmS_low {b : List U} (hb : byteOk b) : ∀ {m : Nat} {a : Int}, ∀ s ∈ bmS b m a, (e2 s).list.length ≤ 65535
  | 0, _, s, hs => by cases hs
  | m + 1, a, s, hs => by
    rw [bmS] at hs
    rcases List.mem_cons.1 hs with rfl | hs
    · show (rmS b a).length ≤ 65535
      have hg := getN2 (a := rmN b a + 1) hb
      unfold rmS
      rw [spG_len]
      omega
    · exact bmS_low hb s hs
theorem pm_size {b : List U} {a : Int} (hb : byteOk b) (h : pmK b a = true) : sizeOk (.l (tgL b (pm1 b a))) (.l (pmS b a)) (.l (pmM b a)) := by
  unfold pmK at h
  simp only [Bool.and_eq_true] at h
  have h4 := h.1.1.1.1.1.2
  have h6 := h.1.1.1.2
  refine ⟨?_, fun s hs => ?_, fun s hs => ?_⟩
  · have := tgL_len h4; simp only [U.list_l]; omega
  · have := shS_low h6 s hs; omega
  · have := bmS_low hb s hs; omega
theorem mget_ok : SpecFP PR 18 mgetP mgetS := fun fn us hfn hpre => by
  have hf : PR.funcs[(18 : Nat)]? = some Try.f18 := by kernel_rfl
  have hg : PR.funcs[(39 : Nat)]? = some Try.f39 := by kernel_rfl
  rw [hf] at hfn; cases hfn
  refine fnG_ok (C := mgetC) (mkC_ok eqs0_ok mixed_ok (.consP mput_ok .nil) (.cons rdmeta_ok .nil)) hf (by kernel_rfl) hg (rec_ok (C := recC) (mkC_ok eqs0_ok mixed_ok .nil .nil) hg (by kernel_rfl) (by kernel_rfl)) fun hok => ?_
  have hp : Try.f18.params.toList = [32] := by kernel_rfl
  rw [hp] at hok
  obtain ⟨b, hus⟩ : ∃ b, us = [[b]] := by
    obtain ⟨u, rfl, h1⟩ := shape1 (by kernel_rfl : Cs PR 32 = some (false, [.sl false [.int .u8]])) hok.1
    obtain ⟨b, rfl⟩ := len1 h1
    exact ⟨b, rfl⟩
  subst hus
  have hbk : byteOk b.list := bytes_ok (hok.2 [.val (.sl false [.int .u8]) b] (by kernel_rfl)).1
  have hS : mgetS [[b]] = mgetX b.list := rfl
  have hb : b.list.length ≤ 1099511627776 := hpre
  rw [hS]
  refine .eq (mget_tree _ b) ?_
  unfold mgetX mgK
  refine ⟨⟨rfl, rfl, rfl, hb⟩, bi (fun k1 => ?_) (fun k1 => ?_)⟩
  · rw [k1]
    simp only [Bool.true_and]
    refine ⟨pm_size hbk k1, bi (fun k2 => ?_) (fun k2 => ?_)⟩
    · rw [show (metaE (U.i (getN b.list 0 1)) (U.i (getN b.list 1 2)) (U.s (readV b.list 3)) (U.l (tgL b.list (pm1 b.list 0))) (U.l (pmS b.list 0)) (U.l (pmM b.list 0)) (U.l (pmQ b.list 0)) == 0) = false by simpa using k2]
      rfl
    · rw [show (metaE (U.i (getN b.list 0 1)) (U.i (getN b.list 1 2)) (U.s (readV b.list 3)) (U.l (tgL b.list (pm1 b.list 0))) (U.l (pmS b.list 0)) (U.l (pmM b.list 0)) (U.l (pmQ b.list 0)) == 0) = true by simpa using k2]
      refine bi (fun k3 => ?_) (fun k3 => ?_)
      · rw [show mgB (metaX (U.i (getN b.list 0 1)) (U.i (getN b.list 1 2)) (U.s (readV b.list 3)) (U.l (tgL b.list (pm1 b.list 0))) (U.l (pmS b.list 0)) (U.l (pmM b.list 0)) (U.l (pmQ b.list 0))) b.list = false from nt k3]
        rfl
      · rw [show mgB (metaX (U.i (getN b.list 0 1)) (U.i (getN b.list 1 2)) (U.s (readV b.list 3)) (U.l (tgL b.list (pm1 b.list 0))) (U.l (pmS b.list 0)) (U.l (pmM b.list 0)) (U.l (pmQ b.list 0))) b.list = true from nf k3]
        rfl
  · rw [k1]
    intro x
    rfl
end Go.Mat

namespace Go.Mat
open Go Go.Den Go.Proofs
structure At (b : List U) (a : Int) (l : List U) : Prop where
  lo : 0 ≤ a
  hi : a ≤ b.length
  is : ∃ r, b.drop a.toNat = l ++ r
theorem At.app {b : List U} {a : Int} {l m : List U} (h : At b a (l ++ m)) : At b a l ∧ At b (a + l.length) m := by
  obtain ⟨h0, h1, r, hr⟩ := h
  have hl : (b.drop a.toNat).length = (l ++ m ++ r).length := by rw [hr]
  rw [List.length_drop, List.length_append, List.length_append] at hl
  refine ⟨⟨h0, h1, m ++ r, by rw [hr, List.append_assoc]⟩, ⟨by omega, by omega, r, ?_⟩⟩
  rw [show (a + (l.length : Int)).toNat = a.toNat + l.length by omega, ← List.drop_drop, hr, List.append_assoc, List.drop_left]
theorem At.fits {b : List U} {a : Int} {l : List U} (h : At b a l) : a + l.length ≤ b.length := by
  obtain ⟨h0, h1, r, hr⟩ := h
  have hl : (b.drop a.toNat).length = (l ++ r).length := by rw [hr]
  rw [List.length_drop, List.length_append] at hl
  omega
theorem At.sub {b : List U} {a n : Int} {l : List U} (h : At b a l) (hn : n = l.length) : thereR b a n = true ∧ sub b a n = l := by
  have hf := h.fits
  have ht : thereR b a n = true := thereR_iff.2 ⟨h.lo, h.hi, by omega⟩
  refine ⟨ht, ?_⟩
  obtain ⟨h0, h1, r, hr⟩ := h
  rw [sub_eq ht (by omega), hr, show n.toNat = l.length by omega, List.take_left]
theorem At.eq {b : List U} {a a' : Int} {l : List U} (h : At b a l) (he : a = a') : At b a' l := he ▸ h
end Go.Mat

namespace Go.Mat
open Go Go.Den Go.Proofs
def cb (l : List U) : List U := l.map fun x => .i x.int
end Go.Mat
