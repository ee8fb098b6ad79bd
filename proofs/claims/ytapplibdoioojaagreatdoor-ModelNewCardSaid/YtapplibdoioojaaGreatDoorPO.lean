/-
  The closed facts of the row modelNewRow, a theorem each, part 1.
-/
import Derived.Test.YtapplibdoioojaaGreatDoorPM
import Derived.Test.YtapplibdoioojaaGreatDoorCards
import Derived.JoinedOf
set_option linter.unusedSectionVars false
set_option linter.unusedVariables false
set_option linter.unusedSimpArgs false
namespace Go.Proofs.YtapplibdoioojaaGreatDoor
open Go.ChangeShapes Go.WideShapes Go.ChangeAt Go.RowKit Go.Deep Go.Joins
set_option maxRecDepth 100000
theorem factMW8 : (Tryz.pinned.checked.prog.stopKnobs == []) = true := by kernel_rfl
theorem factMW9 : (Rows.modelNewRow.inPlace == Tryz.pinned.checked.prog.inPlace 3) = true := by kernel_rfl
theorem factMW10 : (Rows.modelNewRow.unfollowed == Tryz.pinned.checked.prog.unfollowed 3) = true := by kernel_rfl
theorem factMW11 : (Rows.modelNewRow.recurses == Tryz.pinned.checked.prog.recurses 3) = true := by kernel_rfl
theorem factMW12 : (Rows.modelNewRow.named == Tryz.pinned.checked.prog.varsNamed 3) = true := by kernel_rfl
theorem factMW13 : (Rows.modelNewRow.maps == (Tryz.f3.params.toList ++ Rows.modelNewSpec.plain.varTypes Tryz.pinned.checked.prog).any (Tryz.pinned.checked.prog.mapsRec ·)) = true := by kernel_rfl
theorem factMW14 : (Rows.modelNewRow.ifaces == (Tryz.f3.params.toList ++ Rows.modelNewSpec.plain.varTypes Tryz.pinned.checked.prog).any (Tryz.pinned.checked.prog.ifacesRec ·)) = true := by kernel_rfl
theorem factMW15 : (Rows.modelNewRow.mapsOut == Tryz.pinned.checked.prog.mapsAmong Tryz.f3.resultTypes.toList) = true := by kernel_rfl
end Go.Proofs.YtapplibdoioojaaGreatDoor
