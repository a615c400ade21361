/-
  The program's functions as the machine's code. Conditions: none.
-/
import Derived.Test.YtlmglicbgdkmoaaGreatM25NFp0
import Derived.Test.YtlmglicbgdkmoaaGreatM25NFp1
import Derived.Test.YtlmglicbgdkmoaaGreatM25NFp2
