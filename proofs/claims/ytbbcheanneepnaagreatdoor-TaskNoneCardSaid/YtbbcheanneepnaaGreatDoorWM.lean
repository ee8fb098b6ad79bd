/-
  The closed facts of the row taskNoneRow, a theorem each, part 0.
-/
import Derived.Test.YtbbcheanneepnaaGreatDoorWL
import Derived.Test.YtbbcheanneepnaaGreatDoorCards
import Derived.JoinedOf
set_option linter.unusedSectionVars false
set_option linter.unusedVariables false
set_option linter.unusedSimpArgs false
namespace Go.Proofs.YtbbcheanneepnaaGreatDoor
open Go.ChangeShapes Go.WideShapes Go.ChangeAt Go.RowKit Go.Deep Go.Joins
set_option maxRecDepth 100000
theorem factTN0 : Rows.taskNoneRow.wf (OpenSpec.ofChange Rows.taskNoneSpec) = true := by kernel_rfl
theorem factTN1 : laidOutB Tryz.pinned.checked.prog = true := by kernel_rfl
theorem factTN2 : mapsRowed Tryz.pinned.checked.prog = true := by kernel_rfl
theorem factTN3 : Tryz.f3.params.all (Tryz.pinned.checked.prog.readableRec ·) = true := by kernel_rfl
theorem factTN4 : namedTie Tryz.pinned.checked.prog Rows.taskNoneRow.named Rows.taskNoneSpec.vars = true := by kernel_rfl
theorem factTN5 : (Rows.taskNoneRow.stops == []) = true := by kernel_rfl
theorem factTN6 : (Tryz.pinned.checked.prog.stops == []) = true := by kernel_rfl
theorem factTN7 : (Rows.taskNoneRow.knobs == []) = true := by kernel_rfl
end Go.Proofs.YtbbcheanneepnaaGreatDoor
