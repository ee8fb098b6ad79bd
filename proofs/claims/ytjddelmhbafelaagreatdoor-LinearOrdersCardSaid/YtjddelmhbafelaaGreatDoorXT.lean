/-
  Closed facts of the card of LinearOrders: one.
-/
import Derived.Test.YtjddelmhbafelaaGreatDoorXM
import Derived.Test.YtjddelmhbafelaaGreatDoorCards
import Derived.SevenTiedAt
set_option linter.unusedSectionVars false
set_option linter.unusedVariables false
set_option linter.unusedSimpArgs false
namespace Go.Proofs.YtjddelmhbafelaaGreatDoor
open Go.ChangeShapes Go.WideShapes Go.ChangeAt Go.RowKit Go.Deep Go.Joins
set_option maxRecDepth 100000
theorem cardLO_wf : Rows.linearOrdersRow.wfByText (OpenSpec.ofChange Rows.linearOrdersSpec) = true := by kernel_rfl
theorem cardLO_main : Tryz.prog.mainIs = some (true, "2b8f388a0e42e0b9662216df25ea509b379fbbf26d5d97542945c774d38856eb".toList) := by kernel_rfl
theorem cardLO_named : Tryz.prog.funcNamed Tryz.f3.name = some 3 := by kernel_rfl
theorem cardLO_want : ([22].all fun u => !Tryz.prog.wantsStandIn u) = true := by kernel_rfl
end Go.Proofs.YtjddelmhbafelaaGreatDoor
