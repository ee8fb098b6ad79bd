/-
  The closed facts of the row linearLongsRow, a theorem each, part 1.
-/
import Derived.Test.YtjddelmhbafelaaGreatDoorWL
import Derived.Test.YtjddelmhbafelaaGreatDoorCards
import Derived.JoinedOf
set_option linter.unusedSectionVars false
set_option linter.unusedVariables false
set_option linter.unusedSimpArgs false
namespace Go.Proofs.YtjddelmhbafelaaGreatDoor
open Go.ChangeShapes Go.WideShapes Go.ChangeAt Go.RowKit Go.Deep Go.Joins
set_option maxRecDepth 100000
theorem factLG8 : (Tryz.pinned.checked.prog.stopKnobs == []) = true := by kernel_rfl
theorem factLG9 : (Rows.linearLongsRow.inPlace == Tryz.pinned.checked.prog.inPlace 4) = true := by kernel_rfl
theorem factLG10 : (Rows.linearLongsRow.unfollowed == Tryz.pinned.checked.prog.unfollowed 4) = true := by kernel_rfl
theorem factLG11 : (Rows.linearLongsRow.recurses == Tryz.pinned.checked.prog.recurses 4) = true := by kernel_rfl
theorem factLG12 : (Rows.linearLongsRow.named == Tryz.pinned.checked.prog.varsNamed 4) = true := by kernel_rfl
theorem factLG13 : (Rows.linearLongsRow.maps == (Tryz.f4.params.toList ++ Rows.linearLongsSpec.plain.varTypes Tryz.pinned.checked.prog).any (Tryz.pinned.checked.prog.mapsRec ·)) = true := by kernel_rfl
theorem factLG14 : (Rows.linearLongsRow.ifaces == (Tryz.f4.params.toList ++ Rows.linearLongsSpec.plain.varTypes Tryz.pinned.checked.prog).any (Tryz.pinned.checked.prog.ifacesRec ·)) = true := by kernel_rfl
theorem factLG15 : (Rows.linearLongsRow.mapsOut == Tryz.pinned.checked.prog.mapsAmong Tryz.f4.resultTypes.toList) = true := by kernel_rfl
end Go.Proofs.YtjddelmhbafelaaGreatDoor
