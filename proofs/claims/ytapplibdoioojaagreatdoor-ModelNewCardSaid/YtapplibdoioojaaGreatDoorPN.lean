/-
  The closed facts of the row modelNewRow, a theorem each, part 0.
-/
import Derived.Test.YtapplibdoioojaaGreatDoorPM
import Derived.Test.YtapplibdoioojaaGreatDoorCards
import Derived.JoinedOf
set_option linter.unusedSectionVars false
set_option linter.unusedVariables false
set_option linter.unusedSimpArgs false
namespace Go.Proofs.YtapplibdoioojaaGreatDoor
open Go.ChangeShapes Go.WideShapes Go.ChangeAt Go.RowKit Go.Deep Go.Joins
set_option maxRecDepth 100000
theorem factMW0 : Rows.modelNewRow.wf (OpenSpec.ofChange Rows.modelNewSpec) = true := by kernel_rfl
theorem factMW1 : laidOutB Tryz.pinned.checked.prog = true := by kernel_rfl
theorem factMW2 : mapsRowed Tryz.pinned.checked.prog = true := by kernel_rfl
theorem factMW3 : Tryz.f3.params.all (Tryz.pinned.checked.prog.readableRec ·) = true := by kernel_rfl
theorem factMW4 : namedTie Tryz.pinned.checked.prog Rows.modelNewRow.named Rows.modelNewSpec.vars = true := by kernel_rfl
theorem factMW5 : (Rows.modelNewRow.stops == []) = true := by kernel_rfl
theorem factMW6 : (Tryz.pinned.checked.prog.stops == []) = true := by kernel_rfl
theorem factMW7 : (Rows.modelNewRow.knobs == []) = true := by kernel_rfl
end Go.Proofs.YtapplibdoioojaaGreatDoor
