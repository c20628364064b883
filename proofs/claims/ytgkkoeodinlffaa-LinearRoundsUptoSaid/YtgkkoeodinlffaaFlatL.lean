/-
  Nothing is left here.
-/
import Derived.Test.YtgkkoeodinlffaaFlatJ
set_option linter.unusedVariables false
set_option linter.unusedSimpArgs false

