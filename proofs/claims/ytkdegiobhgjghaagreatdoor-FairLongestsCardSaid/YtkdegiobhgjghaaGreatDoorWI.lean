/-
  The closed facts of the row fairLongestsRow, a theorem each, part 0.
-/
import Derived.Test.YtkdegiobhgjghaaGreatDoorWH
import Derived.Test.YtkdegiobhgjghaaGreatDoorCards
import Derived.JoinedOf
set_option linter.unusedSectionVars false
set_option linter.unusedVariables false
set_option linter.unusedSimpArgs false
namespace Go.Proofs.YtkdegiobhgjghaaGreatDoor
open Go.ChangeShapes Go.WideShapes Go.ChangeAt Go.RowKit Go.Deep Go.Joins
set_option maxRecDepth 100000
theorem factFL0 : Rows.fairLongestsRow.wf (OpenSpec.ofChange Rows.fairLongestsSpec) = true := by kernel_rfl
theorem factFL1 : laidOutB Tryz.pinned.checked.prog = true := by kernel_rfl
theorem factFL2 : mapsRowed Tryz.pinned.checked.prog = true := by kernel_rfl
theorem factFL3 : Tryz.f3.params.all (Tryz.pinned.checked.prog.readableRec ·) = true := by kernel_rfl
theorem factFL4 : namedTie Tryz.pinned.checked.prog Rows.fairLongestsRow.named Rows.fairLongestsSpec.vars = true := by kernel_rfl
theorem factFL5 : (Rows.fairLongestsRow.stops == []) = true := by kernel_rfl
theorem factFL6 : (Tryz.pinned.checked.prog.stops == []) = true := by kernel_rfl
theorem factFL7 : (Rows.fairLongestsRow.knobs == []) = true := by kernel_rfl
end Go.Proofs.YtkdegiobhgjghaaGreatDoor
