/-
  The program's functions as the machine's code. Conditions: none.
-/
import Derived.Test.YtafgmkboaippbaaGreatM17AFp0
import Derived.Test.YtafgmkboaippbaaGreatM17AFp1
