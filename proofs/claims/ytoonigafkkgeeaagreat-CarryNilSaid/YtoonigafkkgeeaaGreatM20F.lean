/-
  The program's functions as the machine's code. Conditions: none.
-/
import Derived.Test.YtoonigafkkgeeaaGreatM20Fp0
import Derived.Test.YtoonigafkkgeeaaGreatM20Fp1
import Derived.Test.YtoonigafkkgeeaaGreatM20Fp2
