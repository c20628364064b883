/-
  Facts on the program as it was loaded.
-/
import Derived.Test.YtgkkoeodinlffaaRows
import Derived.JoinedCond
set_option linter.unusedVariables false
set_option linter.unusedSimpArgs false
namespace Go.Proofs
theorem pfEnter : Try.prog.mayEnter = true := by kernel_rfl
theorem pfLift : Try.prog.liftsFinal = false := by kernel_rfl
theorem pfMake : (Try.prog.make == some Make.cut) = true := by kernel_rfl
theorem pfLaid : laidOutB Try.prog = true := by kernel_rfl
theorem pfMaps : mapsRowed Try.prog = true := by kernel_rfl
theorem pfHeard : Try.prog.stopsHeard = true := by kernel_rfl
theorem pfKeys : Try.prog.plainKeys = true := by kernel_rfl
theorem pfStops : (Try.prog.stops == []) = true := by kernel_rfl
theorem pfKnobs : (Try.prog.stopKnobs == []) = true := by kernel_rfl
theorem pfOwn : ownKnob Try.prog.godebug = none := by kernel_rfl
end Go.Proofs
