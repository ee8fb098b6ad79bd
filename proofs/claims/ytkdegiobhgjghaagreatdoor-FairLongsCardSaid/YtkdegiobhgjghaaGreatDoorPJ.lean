/-
  The closed facts of the row fairLongsRow, a theorem each, part 1.
-/
import Derived.Test.YtkdegiobhgjghaaGreatDoorPH
import Derived.Test.YtkdegiobhgjghaaGreatDoorCards
import Derived.JoinedOf
set_option linter.unusedSectionVars false
set_option linter.unusedVariables false
set_option linter.unusedSimpArgs false
namespace Go.Proofs.YtkdegiobhgjghaaGreatDoor
open Go.ChangeShapes Go.WideShapes Go.ChangeAt Go.RowKit Go.Deep Go.Joins
set_option maxRecDepth 100000
theorem factFM8 : (Tryz.pinned.checked.prog.stopKnobs == []) = true := by kernel_rfl
theorem factFM9 : (Rows.fairLongsRow.inPlace == Tryz.pinned.checked.prog.inPlace 4) = true := by kernel_rfl
theorem factFM10 : (Rows.fairLongsRow.unfollowed == Tryz.pinned.checked.prog.unfollowed 4) = true := by kernel_rfl
theorem factFM11 : (Rows.fairLongsRow.recurses == Tryz.pinned.checked.prog.recurses 4) = true := by kernel_rfl
theorem factFM12 : (Rows.fairLongsRow.named == Tryz.pinned.checked.prog.varsNamed 4) = true := by kernel_rfl
theorem factFM13 : (Rows.fairLongsRow.maps == (Tryz.f4.params.toList ++ Rows.fairLongsSpec.plain.varTypes Tryz.pinned.checked.prog).any (Tryz.pinned.checked.prog.mapsRec ·)) = true := by kernel_rfl
theorem factFM14 : (Rows.fairLongsRow.ifaces == (Tryz.f4.params.toList ++ Rows.fairLongsSpec.plain.varTypes Tryz.pinned.checked.prog).any (Tryz.pinned.checked.prog.ifacesRec ·)) = true := by kernel_rfl
theorem factFM15 : (Rows.fairLongsRow.mapsOut == Tryz.pinned.checked.prog.mapsAmong Tryz.f4.resultTypes.toList) = true := by kernel_rfl
end Go.Proofs.YtkdegiobhgjghaaGreatDoor
