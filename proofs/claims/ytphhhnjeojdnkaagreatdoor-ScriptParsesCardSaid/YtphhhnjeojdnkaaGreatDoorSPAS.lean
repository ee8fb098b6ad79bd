/-
  The closed facts of the row scriptParsesRow, a theorem each, part 1.
-/
import Derived.Test.YtphhhnjeojdnkaaGreatDoorSPAP
import Derived.Test.YtphhhnjeojdnkaaGreatDoorCards
import Derived.JoinedOf
set_option linter.unusedSectionVars false
set_option linter.unusedVariables false
set_option linter.unusedSimpArgs false
set_option maxRecDepth 100000
set_option maxHeartbeats 8000000
namespace Go.Proofs.YtphhhnjeojdnkaaGreatDoor
open Go.ChangeShapes Go.WideShapes Go.ChangeAt Go.RowKit Go.Deep Go.Joins
set_option maxRecDepth 100000
theorem factSP8 : (Tryz.pinned.checked.prog.stopKnobs == []) = true := by kernel_rfl
theorem factSP9 : (Rows.scriptParsesRow.inPlace == Tryz.pinned.checked.prog.inPlace 3) = true := by kernel_rfl
theorem factSP10 : (Rows.scriptParsesRow.unfollowed == Tryz.pinned.checked.prog.unfollowed 3) = true := by kernel_rfl
theorem factSP11 : (Rows.scriptParsesRow.recurses == Tryz.pinned.checked.prog.recurses 3) = true := by kernel_rfl
theorem factSP12 : (Rows.scriptParsesRow.named == Tryz.pinned.checked.prog.varsNamed 3) = true := by kernel_rfl
theorem factSP13 : (Rows.scriptParsesRow.maps == (Tryz.f3.params.toList ++ Rows.scriptParsesSpec.plain.varTypes Tryz.pinned.checked.prog).any (Tryz.pinned.checked.prog.mapsRec ·)) = true := by kernel_rfl
theorem factSP14 : (Rows.scriptParsesRow.ifaces == (Tryz.f3.params.toList ++ Rows.scriptParsesSpec.plain.varTypes Tryz.pinned.checked.prog).any (Tryz.pinned.checked.prog.ifacesRec ·)) = true := by kernel_rfl
theorem factSP15 : (Rows.scriptParsesRow.mapsOut == Tryz.pinned.checked.prog.mapsAmong Tryz.f3.resultTypes.toList) = true := by kernel_rfl
end Go.Proofs.YtphhhnjeojdnkaaGreatDoor
