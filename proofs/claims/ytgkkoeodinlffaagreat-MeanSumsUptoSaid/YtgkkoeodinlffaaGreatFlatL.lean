/-
  Nothing is left here.
-/
import Derived.Test.YtgkkoeodinlffaaGreatFlatJ
set_option linter.unusedVariables false
set_option linter.unusedSimpArgs false

