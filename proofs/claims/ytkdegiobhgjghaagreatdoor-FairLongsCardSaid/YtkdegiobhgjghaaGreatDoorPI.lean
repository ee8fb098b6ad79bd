/-
  The closed facts of the row fairLongsRow, a theorem each, part 0.
-/
import Derived.Test.YtkdegiobhgjghaaGreatDoorPH
import Derived.Test.YtkdegiobhgjghaaGreatDoorCards
import Derived.JoinedOf
set_option linter.unusedSectionVars false
set_option linter.unusedVariables false
set_option linter.unusedSimpArgs false
namespace Go.Proofs.YtkdegiobhgjghaaGreatDoor
open Go.ChangeShapes Go.WideShapes Go.ChangeAt Go.RowKit Go.Deep Go.Joins
set_option maxRecDepth 100000
theorem factFM0 : Rows.fairLongsRow.wf (OpenSpec.ofChange Rows.fairLongsSpec) = true := by kernel_rfl
theorem factFM1 : laidOutB Tryz.pinned.checked.prog = true := by kernel_rfl
theorem factFM2 : mapsRowed Tryz.pinned.checked.prog = true := by kernel_rfl
theorem factFM3 : Tryz.f4.params.all (Tryz.pinned.checked.prog.readableRec ·) = true := by kernel_rfl
theorem factFM4 : namedTie Tryz.pinned.checked.prog Rows.fairLongsRow.named Rows.fairLongsSpec.vars = true := by kernel_rfl
theorem factFM5 : (Rows.fairLongsRow.stops == []) = true := by kernel_rfl
theorem factFM6 : (Tryz.pinned.checked.prog.stops == []) = true := by kernel_rfl
theorem factFM7 : (Rows.fairLongsRow.knobs == []) = true := by kernel_rfl
end Go.Proofs.YtkdegiobhgjghaaGreatDoor
