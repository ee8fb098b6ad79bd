/-
  The closed facts of the row scriptBatchesRow, a theorem each, part 1.
-/
import Derived.Test.YtphhhnjeojdnkaaGreatDoorSBP
import Derived.Test.YtphhhnjeojdnkaaGreatDoorCards
import Derived.JoinedOf
set_option linter.unusedSectionVars false
set_option linter.unusedVariables false
set_option linter.unusedSimpArgs false
namespace Go.Proofs.YtphhhnjeojdnkaaGreatDoor
open Go.ChangeShapes Go.WideShapes Go.ChangeAt Go.RowKit Go.Deep Go.Joins
set_option maxRecDepth 100000
theorem factSB8 : (Tryz.pinned.checked.prog.stopKnobs == []) = true := by kernel_rfl
theorem factSB9 : (Rows.scriptBatchesRow.inPlace == Tryz.pinned.checked.prog.inPlace 4) = true := by kernel_rfl
theorem factSB10 : (Rows.scriptBatchesRow.unfollowed == Tryz.pinned.checked.prog.unfollowed 4) = true := by kernel_rfl
theorem factSB11 : (Rows.scriptBatchesRow.recurses == Tryz.pinned.checked.prog.recurses 4) = true := by kernel_rfl
theorem factSB12 : (Rows.scriptBatchesRow.named == Tryz.pinned.checked.prog.varsNamed 4) = true := by kernel_rfl
theorem factSB13 : (Rows.scriptBatchesRow.maps == (Tryz.f4.params.toList ++ Rows.scriptBatchesSpec.plain.varTypes Tryz.pinned.checked.prog).any (Tryz.pinned.checked.prog.mapsRec ·)) = true := by kernel_rfl
theorem factSB14 : (Rows.scriptBatchesRow.ifaces == (Tryz.f4.params.toList ++ Rows.scriptBatchesSpec.plain.varTypes Tryz.pinned.checked.prog).any (Tryz.pinned.checked.prog.ifacesRec ·)) = true := by kernel_rfl
theorem factSB15 : (Rows.scriptBatchesRow.mapsOut == Tryz.pinned.checked.prog.mapsAmong Tryz.f4.resultTypes.toList) = true := by kernel_rfl
end Go.Proofs.YtphhhnjeojdnkaaGreatDoor
