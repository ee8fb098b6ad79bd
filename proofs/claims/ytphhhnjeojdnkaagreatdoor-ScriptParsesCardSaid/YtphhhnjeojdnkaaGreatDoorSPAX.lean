/-
  Closed facts of the card of ScriptParses: one.
-/
import Derived.Test.YtphhhnjeojdnkaaGreatDoorSPAP
import Derived.Test.YtphhhnjeojdnkaaGreatDoorCards
import Derived.SevenTiedAt
set_option linter.unusedSectionVars false
set_option linter.unusedVariables false
set_option linter.unusedSimpArgs false
set_option maxRecDepth 100000
set_option maxHeartbeats 8000000
namespace Go.Proofs.YtphhhnjeojdnkaaGreatDoor
open Go.ChangeShapes Go.WideShapes Go.ChangeAt Go.RowKit Go.Deep Go.Joins
set_option maxRecDepth 100000
theorem cardSP_wf : Rows.scriptParsesRow.wfByText (OpenSpec.ofChange Rows.scriptParsesSpec) = true := by kernel_rfl
theorem cardSP_main : Tryz.prog.mainIs = some (true, "ec4c26b81462aaaa755da6855442c4c942e93344a7ed4f706c4875ca261e1b65".toList) := by kernel_rfl
theorem cardSP_named : Tryz.prog.funcNamed Tryz.f3.name = some 3 := by kernel_rfl
theorem cardSP_want : ([22, 3].all fun u => !Tryz.prog.wantsStandIn u) = true := by kernel_rfl
end Go.Proofs.YtphhhnjeojdnkaaGreatDoor
