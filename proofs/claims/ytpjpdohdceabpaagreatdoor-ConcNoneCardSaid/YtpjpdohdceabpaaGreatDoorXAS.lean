/-
  The closed facts of the row concNoneRow, a theorem each, part 1.
-/
import Derived.Test.YtpjpdohdceabpaaGreatDoorXAQ
import Derived.Test.YtpjpdohdceabpaaGreatDoorCards
import Derived.JoinedOf
set_option linter.unusedSectionVars false
set_option linter.unusedVariables false
set_option linter.unusedSimpArgs false
set_option maxRecDepth 100000
set_option maxHeartbeats 8000000
namespace Go.Proofs.YtpjpdohdceabpaaGreatDoor
open Go.ChangeShapes Go.WideShapes Go.ChangeAt Go.RowKit Go.Deep Go.Joins
set_option maxRecDepth 100000
theorem factCN8 : (Tryz.pinned.checked.prog.stopKnobs == []) = true := by kernel_rfl
theorem factCN9 : (Rows.concNoneRow.inPlace == Tryz.pinned.checked.prog.inPlace 3) = true := by kernel_rfl
theorem factCN10 : (Rows.concNoneRow.unfollowed == Tryz.pinned.checked.prog.unfollowed 3) = true := by kernel_rfl
theorem factCN11 : (Rows.concNoneRow.recurses == Tryz.pinned.checked.prog.recurses 3) = true := by kernel_rfl
theorem factCN12 : (Rows.concNoneRow.named == Tryz.pinned.checked.prog.varsNamed 3) = true := by kernel_rfl
theorem factCN13 : (Rows.concNoneRow.maps == (Tryz.f3.params.toList ++ Rows.concNoneSpec.plain.varTypes Tryz.pinned.checked.prog).any (Tryz.pinned.checked.prog.mapsRec ·)) = true := by kernel_rfl
theorem factCN14 : (Rows.concNoneRow.ifaces == (Tryz.f3.params.toList ++ Rows.concNoneSpec.plain.varTypes Tryz.pinned.checked.prog).any (Tryz.pinned.checked.prog.ifacesRec ·)) = true := by kernel_rfl
theorem factCN15 : (Rows.concNoneRow.mapsOut == Tryz.pinned.checked.prog.mapsAmong Tryz.f3.resultTypes.toList) = true := by kernel_rfl
end Go.Proofs.YtpjpdohdceabpaaGreatDoor
