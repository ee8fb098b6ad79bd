/-
  The closed facts of the row fairLongestsRow, a theorem each, part 1.
-/
import Derived.Test.YtkdegiobhgjghaaGreatDoorWH
import Derived.Test.YtkdegiobhgjghaaGreatDoorCards
import Derived.JoinedOf
set_option linter.unusedSectionVars false
set_option linter.unusedVariables false
set_option linter.unusedSimpArgs false
namespace Go.Proofs.YtkdegiobhgjghaaGreatDoor
open Go.ChangeShapes Go.WideShapes Go.ChangeAt Go.RowKit Go.Deep Go.Joins
set_option maxRecDepth 100000
theorem factFL8 : (Tryz.pinned.checked.prog.stopKnobs == []) = true := by kernel_rfl
theorem factFL9 : (Rows.fairLongestsRow.inPlace == Tryz.pinned.checked.prog.inPlace 3) = true := by kernel_rfl
theorem factFL10 : (Rows.fairLongestsRow.unfollowed == Tryz.pinned.checked.prog.unfollowed 3) = true := by kernel_rfl
theorem factFL11 : (Rows.fairLongestsRow.recurses == Tryz.pinned.checked.prog.recurses 3) = true := by kernel_rfl
theorem factFL12 : (Rows.fairLongestsRow.named == Tryz.pinned.checked.prog.varsNamed 3) = true := by kernel_rfl
theorem factFL13 : (Rows.fairLongestsRow.maps == (Tryz.f3.params.toList ++ Rows.fairLongestsSpec.plain.varTypes Tryz.pinned.checked.prog).any (Tryz.pinned.checked.prog.mapsRec ·)) = true := by kernel_rfl
theorem factFL14 : (Rows.fairLongestsRow.ifaces == (Tryz.f3.params.toList ++ Rows.fairLongestsSpec.plain.varTypes Tryz.pinned.checked.prog).any (Tryz.pinned.checked.prog.ifacesRec ·)) = true := by kernel_rfl
theorem factFL15 : (Rows.fairLongestsRow.mapsOut == Tryz.pinned.checked.prog.mapsAmong Tryz.f3.resultTypes.toList) = true := by kernel_rfl
end Go.Proofs.YtkdegiobhgjghaaGreatDoor
