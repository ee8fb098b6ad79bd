/-
  The closed facts of the row modelNilRow, a theorem each, part 1.
-/
import Derived.Test.YtapplibdoioojaaGreatDoorWM
import Derived.Test.YtapplibdoioojaaGreatDoorCards
import Derived.JoinedOf
set_option linter.unusedSectionVars false
set_option linter.unusedVariables false
set_option linter.unusedSimpArgs false
namespace Go.Proofs.YtapplibdoioojaaGreatDoor
open Go.ChangeShapes Go.WideShapes Go.ChangeAt Go.RowKit Go.Deep Go.Joins
set_option maxRecDepth 100000
theorem factMN8 : (Tryz.pinned.checked.prog.stopKnobs == []) = true := by kernel_rfl
theorem factMN9 : (Rows.modelNilRow.inPlace == Tryz.pinned.checked.prog.inPlace 5) = true := by kernel_rfl
theorem factMN10 : (Rows.modelNilRow.unfollowed == Tryz.pinned.checked.prog.unfollowed 5) = true := by kernel_rfl
theorem factMN11 : (Rows.modelNilRow.recurses == Tryz.pinned.checked.prog.recurses 5) = true := by kernel_rfl
theorem factMN12 : (Rows.modelNilRow.named == Tryz.pinned.checked.prog.varsNamed 5) = true := by kernel_rfl
theorem factMN13 : (Rows.modelNilRow.maps == (Tryz.f5.params.toList ++ Rows.modelNilSpec.plain.varTypes Tryz.pinned.checked.prog).any (Tryz.pinned.checked.prog.mapsRec ·)) = true := by kernel_rfl
theorem factMN14 : (Rows.modelNilRow.ifaces == (Tryz.f5.params.toList ++ Rows.modelNilSpec.plain.varTypes Tryz.pinned.checked.prog).any (Tryz.pinned.checked.prog.ifacesRec ·)) = true := by kernel_rfl
theorem factMN15 : (Rows.modelNilRow.mapsOut == Tryz.pinned.checked.prog.mapsAmong Tryz.f5.resultTypes.toList) = true := by kernel_rfl
end Go.Proofs.YtapplibdoioojaaGreatDoor
