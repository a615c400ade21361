/-
  The program's functions as the machine's code. Conditions: none.
-/
import Derived.Test.YtmhhaimpignndaaGreatM17KFp0
import Derived.Test.YtmhhaimpignndaaGreatM17KFp1
