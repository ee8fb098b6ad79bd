/-
  Closed facts of the card of ScriptBatches: one.
-/
import Derived.Test.YtphhhnjeojdnkaaGreatDoorSBP
import Derived.Test.YtphhhnjeojdnkaaGreatDoorCards
import Derived.SevenTiedAt
set_option linter.unusedSectionVars false
set_option linter.unusedVariables false
set_option linter.unusedSimpArgs false
namespace Go.Proofs.YtphhhnjeojdnkaaGreatDoor
open Go.ChangeShapes Go.WideShapes Go.ChangeAt Go.RowKit Go.Deep Go.Joins
set_option maxRecDepth 100000
theorem cardSB_wf : Rows.scriptBatchesRow.wfByText (OpenSpec.ofChange Rows.scriptBatchesSpec) = true := by kernel_rfl
theorem cardSB_main : Tryz.prog.mainIs = some (true, "ec4c26b81462aaaa755da6855442c4c942e93344a7ed4f706c4875ca261e1b65".toList) := by kernel_rfl
theorem cardSB_named : Tryz.prog.funcNamed Tryz.f4.name = some 4 := by kernel_rfl
theorem cardSB_want : ([3, 3, 3, 3].all fun u => !Tryz.prog.wantsStandIn u) = true := by kernel_rfl
end Go.Proofs.YtphhhnjeojdnkaaGreatDoor
