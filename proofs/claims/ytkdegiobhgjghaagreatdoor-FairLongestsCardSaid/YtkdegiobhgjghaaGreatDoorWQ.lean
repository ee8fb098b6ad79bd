/-
  Closed facts of the card of FairLongests: three.
-/
import Derived.Test.YtkdegiobhgjghaaGreatDoorWH
import Derived.Test.YtkdegiobhgjghaaGreatDoorCards
import Derived.SevenTiedAt
set_option linter.unusedSectionVars false
set_option linter.unusedVariables false
set_option linter.unusedSimpArgs false
namespace Go.Proofs.YtkdegiobhgjghaaGreatDoor
open Go.ChangeShapes Go.WideShapes Go.ChangeAt Go.RowKit Go.Deep Go.Joins
set_option maxRecDepth 100000
theorem cardFL_goes : false = Rows.fairLongestsRow.goesBy Tryz.prog := by kernel_rfl
end Go.Proofs.YtkdegiobhgjghaaGreatDoor
