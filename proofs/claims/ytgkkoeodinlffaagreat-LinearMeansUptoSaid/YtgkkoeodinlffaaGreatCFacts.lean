/-
  Facts on the program as it was loaded.
-/
import Derived.Test.YtgkkoeodinlffaaGreatRows
import Derived.JoinedCond
set_option linter.unusedVariables false
set_option linter.unusedSimpArgs false
namespace Go.Proofs
theorem pfEnter : Tryz.prog.mayEnter = true := by kernel_rfl
theorem pfLift : Tryz.prog.liftsFinal = false := by kernel_rfl
theorem pfMake : (Tryz.prog.make == some Make.cut) = true := by kernel_rfl
theorem pfLaid : laidOutB Tryz.prog = true := by kernel_rfl
theorem pfMaps : mapsRowed Tryz.prog = true := by kernel_rfl
theorem pfHeard : Tryz.prog.stopsHeard = true := by kernel_rfl
theorem pfKeys : Tryz.prog.plainKeys = true := by kernel_rfl
theorem pfStops : (Tryz.prog.stops == []) = true := by kernel_rfl
theorem pfKnobs : (Tryz.prog.stopKnobs == []) = true := by kernel_rfl
theorem pfOwn : ownKnob Tryz.prog.godebug = none := by kernel_rfl
end Go.Proofs
