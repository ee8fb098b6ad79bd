/-
  Closed facts of the card of ConcNone: one.
-/
import Derived.Test.YtpjpdohdceabpaaGreatDoorXAQ
import Derived.Test.YtpjpdohdceabpaaGreatDoorCards
import Derived.SevenTiedAt
set_option linter.unusedSectionVars false
set_option linter.unusedVariables false
set_option linter.unusedSimpArgs false
set_option maxRecDepth 100000
set_option maxHeartbeats 8000000
namespace Go.Proofs.YtpjpdohdceabpaaGreatDoor
open Go.ChangeShapes Go.WideShapes Go.ChangeAt Go.RowKit Go.Deep Go.Joins
set_option maxRecDepth 100000
theorem cardCN_wf : Rows.concNoneRow.wfByText (OpenSpec.ofChange Rows.concNoneSpec) = true := by kernel_rfl
theorem cardCN_main : Tryz.prog.mainIs = some (true, "3287dc79f97acbef3eee3f04411755e57ecf72968c21ded429e35e0bccc5090a".toList) := by kernel_rfl
theorem cardCN_named : Tryz.prog.funcNamed Tryz.f3.name = some 3 := by kernel_rfl
theorem cardCN_want : ([3, 25].all fun u => !Tryz.prog.wantsStandIn u) = true := by kernel_rfl
end Go.Proofs.YtpjpdohdceabpaaGreatDoor
