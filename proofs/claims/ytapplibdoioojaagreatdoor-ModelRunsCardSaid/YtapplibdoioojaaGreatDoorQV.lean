/-
  Closed facts of the card of ModelRuns: three.
-/
import Derived.Test.YtapplibdoioojaaGreatDoorQM
import Derived.Test.YtapplibdoioojaaGreatDoorCards
import Derived.SevenTiedAt
set_option linter.unusedSectionVars false
set_option linter.unusedVariables false
set_option linter.unusedSimpArgs false
namespace Go.Proofs.YtapplibdoioojaaGreatDoor
open Go.ChangeShapes Go.WideShapes Go.ChangeAt Go.RowKit Go.Deep Go.Joins
set_option maxRecDepth 100000
theorem cardMR_goes : false = Rows.modelRunsRow.goesBy Tryz.prog := by kernel_rfl
end Go.Proofs.YtapplibdoioojaaGreatDoor
