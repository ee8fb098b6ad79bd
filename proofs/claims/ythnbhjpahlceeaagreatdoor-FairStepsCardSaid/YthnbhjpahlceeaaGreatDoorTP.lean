/-
  Closed facts of the card of FairSteps: one.
-/
import Derived.Test.YthnbhjpahlceeaaGreatDoorTI
import Derived.Test.YthnbhjpahlceeaaGreatDoorCards
import Derived.SevenTiedAt
set_option maxRecDepth 100000
set_option maxHeartbeats 8000000
set_option linter.unusedSectionVars false
set_option linter.unusedVariables false
set_option linter.unusedSimpArgs false
set_option maxRecDepth 100000
set_option maxHeartbeats 8000000
namespace Go.Proofs.YthnbhjpahlceeaaGreatDoor
open Go.ChangeShapes Go.WideShapes Go.ChangeAt Go.RowKit Go.Deep Go.Joins
set_option maxRecDepth 100000
theorem Aeu:Rows.fairStepsRow.wfByText (OpenSpec.ofChange Rows.fairStepsSpec)=true:=by kernel_rfl
theorem Yf : Tryz.prog.mainIs = some (true, "02b6d8ed705211ead6e38009028c9996b041b67bf3fa86aa429578ddbfcf2ef2".toList) := by kernel_rfl
theorem cardFS_named:Tryz.prog.funcNamed Tryz.f3.name=some 3:=by kernel_rfl
theorem Xl:([25,3].all fun u=>!Tryz.prog.wantsStandIn u)=true:=by kernel_rfl
end Go.Proofs.YthnbhjpahlceeaaGreatDoor
