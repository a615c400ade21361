/-
  What math/bits.TrailingZeros64 answers for 16. Conditions: none.
-/
import Derived.Test.YtniakcilpolneaaGreatDoorAmZb
namespace Go.AM
open Go
noncomputable def tzS : SpF := fun vs h nx κ => match vs with
  | [.i k n] => bif Nat.beq k 7 then (match n with | .ofNat m => bif Nat.beq m 16 then κ (.i 3 (.ofNat 4)) h nx else false | .negSucc _ => false) else false
  | _ => false
end Go.AM
