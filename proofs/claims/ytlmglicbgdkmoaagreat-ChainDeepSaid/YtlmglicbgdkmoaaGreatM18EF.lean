/-
  The program's functions as the machine's code. Conditions: none.
-/
import Derived.Test.YtlmglicbgdkmoaaGreatM18EFp0
import Derived.Test.YtlmglicbgdkmoaaGreatM18EFp1
import Derived.Test.YtlmglicbgdkmoaaGreatM18EFp2
