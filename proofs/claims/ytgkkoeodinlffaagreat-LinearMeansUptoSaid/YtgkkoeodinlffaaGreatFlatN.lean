/-
  Nothing is left here.
-/
import Derived.Test.YtgkkoeodinlffaaGreatFlatL
set_option linter.unusedVariables false
set_option linter.unusedSimpArgs false

