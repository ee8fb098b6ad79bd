/-
  The closed facts of the row modelRunsRow, a theorem each, part 1.
-/
import Derived.Test.YtapplibdoioojaaGreatDoorQM
import Derived.Test.YtapplibdoioojaaGreatDoorCards
import Derived.JoinedOf
set_option linter.unusedSectionVars false
set_option linter.unusedVariables false
set_option linter.unusedSimpArgs false
namespace Go.Proofs.YtapplibdoioojaaGreatDoor
open Go.ChangeShapes Go.WideShapes Go.ChangeAt Go.RowKit Go.Deep Go.Joins
set_option maxRecDepth 100000
theorem factMR8 : (Tryz.pinned.checked.prog.stopKnobs == []) = true := by kernel_rfl
theorem factMR9 : (Rows.modelRunsRow.inPlace == Tryz.pinned.checked.prog.inPlace 4) = true := by kernel_rfl
theorem factMR10 : (Rows.modelRunsRow.unfollowed == Tryz.pinned.checked.prog.unfollowed 4) = true := by kernel_rfl
theorem factMR11 : (Rows.modelRunsRow.recurses == Tryz.pinned.checked.prog.recurses 4) = true := by kernel_rfl
theorem factMR12 : (Rows.modelRunsRow.named == Tryz.pinned.checked.prog.varsNamed 4) = true := by kernel_rfl
theorem factMR13 : (Rows.modelRunsRow.maps == (Tryz.f4.params.toList ++ Rows.modelRunsSpec.plain.varTypes Tryz.pinned.checked.prog).any (Tryz.pinned.checked.prog.mapsRec ·)) = true := by kernel_rfl
theorem factMR14 : (Rows.modelRunsRow.ifaces == (Tryz.f4.params.toList ++ Rows.modelRunsSpec.plain.varTypes Tryz.pinned.checked.prog).any (Tryz.pinned.checked.prog.ifacesRec ·)) = true := by kernel_rfl
theorem factMR15 : (Rows.modelRunsRow.mapsOut == Tryz.pinned.checked.prog.mapsAmong Tryz.f4.resultTypes.toList) = true := by kernel_rfl
end Go.Proofs.YtapplibdoioojaaGreatDoor
