/-
  The closed facts of the row modelRunsRow, a theorem each, part 0.
-/
import Derived.Test.YtapplibdoioojaaGreatDoorQM
import Derived.Test.YtapplibdoioojaaGreatDoorCards
import Derived.JoinedOf
set_option linter.unusedSectionVars false
set_option linter.unusedVariables false
set_option linter.unusedSimpArgs false
namespace Go.Proofs.YtapplibdoioojaaGreatDoor
open Go.ChangeShapes Go.WideShapes Go.ChangeAt Go.RowKit Go.Deep Go.Joins
set_option maxRecDepth 100000
theorem factMR0 : Rows.modelRunsRow.wf (OpenSpec.ofChange Rows.modelRunsSpec) = true := by kernel_rfl
theorem factMR1 : laidOutB Tryz.pinned.checked.prog = true := by kernel_rfl
theorem factMR2 : mapsRowed Tryz.pinned.checked.prog = true := by kernel_rfl
theorem factMR3 : Tryz.f4.params.all (Tryz.pinned.checked.prog.readableRec ·) = true := by kernel_rfl
theorem factMR4 : namedTie Tryz.pinned.checked.prog Rows.modelRunsRow.named Rows.modelRunsSpec.vars = true := by kernel_rfl
theorem factMR5 : (Rows.modelRunsRow.stops == []) = true := by kernel_rfl
theorem factMR6 : (Tryz.pinned.checked.prog.stops == []) = true := by kernel_rfl
theorem factMR7 : (Rows.modelRunsRow.knobs == []) = true := by kernel_rfl
end Go.Proofs.YtapplibdoioojaaGreatDoor
