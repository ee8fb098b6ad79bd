/-
  Closed facts of the card of TaskNone: one.
-/
import Derived.Test.YtbbcheanneepnaaGreatDoorWL
import Derived.Test.YtbbcheanneepnaaGreatDoorCards
import Derived.SevenTiedAt
set_option linter.unusedSectionVars false
set_option linter.unusedVariables false
set_option linter.unusedSimpArgs false
namespace Go.Proofs.YtbbcheanneepnaaGreatDoor
open Go.ChangeShapes Go.WideShapes Go.ChangeAt Go.RowKit Go.Deep Go.Joins
set_option maxRecDepth 100000
theorem cardTN_wf : Rows.taskNoneRow.wfByText (OpenSpec.ofChange Rows.taskNoneSpec) = true := by kernel_rfl
theorem cardTN_main : Tryz.prog.mainIs = some (true, "7e497a33707cab738aa839470a6c3656c1c17badbdcb7dab390beca0e9cdf3cf".toList) := by kernel_rfl
theorem cardTN_named : Tryz.prog.funcNamed Tryz.f3.name = some 3 := by kernel_rfl
theorem cardTN_want : ([3].all fun u => !Tryz.prog.wantsStandIn u) = true := by kernel_rfl
end Go.Proofs.YtbbcheanneepnaaGreatDoor
