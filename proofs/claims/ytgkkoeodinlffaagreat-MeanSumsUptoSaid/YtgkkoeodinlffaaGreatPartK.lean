/-
  Nothing is left here.
  Nothing is left here.
-/
import Derived.Test.YtgkkoeodinlffaaGreatPartI
import Derived.Test.YtgkkoeodinlffaaGreatFlatJ
import Derived.KernelRfl
section
set_option linter.unusedVariables false
set_option linter.unusedSimpArgs false

end
section
set_option linter.unusedVariables false
set_option linter.unusedSimpArgs false

end
