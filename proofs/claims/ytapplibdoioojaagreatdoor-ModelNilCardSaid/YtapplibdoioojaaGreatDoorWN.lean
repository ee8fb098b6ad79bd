/-
  The closed facts of the row modelNilRow, a theorem each, part 0.
-/
import Derived.Test.YtapplibdoioojaaGreatDoorWM
import Derived.Test.YtapplibdoioojaaGreatDoorCards
import Derived.JoinedOf
set_option linter.unusedSectionVars false
set_option linter.unusedVariables false
set_option linter.unusedSimpArgs false
namespace Go.Proofs.YtapplibdoioojaaGreatDoor
open Go.ChangeShapes Go.WideShapes Go.ChangeAt Go.RowKit Go.Deep Go.Joins
set_option maxRecDepth 100000
theorem factMN0 : Rows.modelNilRow.wf (OpenSpec.ofChange Rows.modelNilSpec) = true := by kernel_rfl
theorem factMN1 : laidOutB Tryz.pinned.checked.prog = true := by kernel_rfl
theorem factMN2 : mapsRowed Tryz.pinned.checked.prog = true := by kernel_rfl
theorem factMN3 : Tryz.f5.params.all (Tryz.pinned.checked.prog.readableRec ·) = true := by kernel_rfl
theorem factMN4 : namedTie Tryz.pinned.checked.prog Rows.modelNilRow.named Rows.modelNilSpec.vars = true := by kernel_rfl
theorem factMN5 : (Rows.modelNilRow.stops == []) = true := by kernel_rfl
theorem factMN6 : (Tryz.pinned.checked.prog.stops == []) = true := by kernel_rfl
theorem factMN7 : (Rows.modelNilRow.knobs == []) = true := by kernel_rfl
end Go.Proofs.YtapplibdoioojaaGreatDoor
