/-
  The program's functions as the machine's code. Conditions: none.
-/
import Derived.Test.YtlmglicbgdkmoaaGreatM17NFp0
import Derived.Test.YtlmglicbgdkmoaaGreatM17NFp1
