/-
  Closed facts of the card of ModelRuns: one.
-/
import Derived.Test.YtapplibdoioojaaGreatDoorQM
import Derived.Test.YtapplibdoioojaaGreatDoorCards
import Derived.SevenTiedAt
set_option linter.unusedSectionVars false
set_option linter.unusedVariables false
set_option linter.unusedSimpArgs false
namespace Go.Proofs.YtapplibdoioojaaGreatDoor
open Go.ChangeShapes Go.WideShapes Go.ChangeAt Go.RowKit Go.Deep Go.Joins
set_option maxRecDepth 100000
theorem cardMR_wf : Rows.modelRunsRow.wfByText (OpenSpec.ofChange Rows.modelRunsSpec) = true := by kernel_rfl
theorem cardMR_main : Tryz.prog.mainIs = some (true, "40dec1f92d3f85824d52c5b35e990a1286ae04c330c8be05919d23529283379e".toList) := by kernel_rfl
theorem cardMR_named : Tryz.prog.funcNamed Tryz.f4.name = some 4 := by kernel_rfl
theorem cardMR_want : ([3].all fun u => !Tryz.prog.wantsStandIn u) = true := by kernel_rfl
end Go.Proofs.YtapplibdoioojaaGreatDoor
