/-
  Closed facts of the card of FairLongs: one.
-/
import Derived.Test.YtkdegiobhgjghaaGreatDoorPH
import Derived.Test.YtkdegiobhgjghaaGreatDoorCards
import Derived.SevenTiedAt
set_option linter.unusedSectionVars false
set_option linter.unusedVariables false
set_option linter.unusedSimpArgs false
namespace Go.Proofs.YtkdegiobhgjghaaGreatDoor
open Go.ChangeShapes Go.WideShapes Go.ChangeAt Go.RowKit Go.Deep Go.Joins
set_option maxRecDepth 100000
theorem cardFM_wf : Rows.fairLongsRow.wfByText (OpenSpec.ofChange Rows.fairLongsSpec) = true := by kernel_rfl
theorem cardFM_main : Tryz.prog.mainIs = some (true, "2bd99602555bb49214fa66074b084c81226e1bcc386c64ba3ec3b36dff7fdd51".toList) := by kernel_rfl
theorem cardFM_named : Tryz.prog.funcNamed Tryz.f4.name = some 4 := by kernel_rfl
theorem cardFM_want : ([3, 28].all fun u => !Tryz.prog.wantsStandIn u) = true := by kernel_rfl
end Go.Proofs.YtkdegiobhgjghaaGreatDoor
