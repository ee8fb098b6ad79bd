/-
  The closed facts of the row linearOrdersRow, a theorem each, part 1.
-/
import Derived.Test.YtjddelmhbafelaaGreatDoorXM
import Derived.Test.YtjddelmhbafelaaGreatDoorCards
import Derived.JoinedOf
set_option linter.unusedSectionVars false
set_option linter.unusedVariables false
set_option linter.unusedSimpArgs false
namespace Go.Proofs.YtjddelmhbafelaaGreatDoor
open Go.ChangeShapes Go.WideShapes Go.ChangeAt Go.RowKit Go.Deep Go.Joins
set_option maxRecDepth 100000
theorem factLO8 : (Tryz.pinned.checked.prog.stopKnobs == []) = true := by kernel_rfl
theorem factLO9 : (Rows.linearOrdersRow.inPlace == Tryz.pinned.checked.prog.inPlace 3) = true := by kernel_rfl
theorem factLO10 : (Rows.linearOrdersRow.unfollowed == Tryz.pinned.checked.prog.unfollowed 3) = true := by kernel_rfl
theorem factLO11 : (Rows.linearOrdersRow.recurses == Tryz.pinned.checked.prog.recurses 3) = true := by kernel_rfl
theorem factLO12 : (Rows.linearOrdersRow.named == Tryz.pinned.checked.prog.varsNamed 3) = true := by kernel_rfl
theorem factLO13 : (Rows.linearOrdersRow.maps == (Tryz.f3.params.toList ++ Rows.linearOrdersSpec.plain.varTypes Tryz.pinned.checked.prog).any (Tryz.pinned.checked.prog.mapsRec ·)) = true := by kernel_rfl
theorem factLO14 : (Rows.linearOrdersRow.ifaces == (Tryz.f3.params.toList ++ Rows.linearOrdersSpec.plain.varTypes Tryz.pinned.checked.prog).any (Tryz.pinned.checked.prog.ifacesRec ·)) = true := by kernel_rfl
theorem factLO15 : (Rows.linearOrdersRow.mapsOut == Tryz.pinned.checked.prog.mapsAmong Tryz.f3.resultTypes.toList) = true := by kernel_rfl
end Go.Proofs.YtjddelmhbafelaaGreatDoor
