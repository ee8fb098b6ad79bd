/-
  Closed facts of the card of LinearOrders: two.
-/
import Derived.Test.YtjddelmhbafelaaGreatDoorXM
import Derived.Test.YtjddelmhbafelaaGreatDoorCards
import Derived.SevenTiedAt
set_option linter.unusedSectionVars false
set_option linter.unusedVariables false
set_option linter.unusedSimpArgs false
namespace Go.Proofs.YtjddelmhbafelaaGreatDoor
open Go.ChangeShapes Go.WideShapes Go.ChangeAt Go.RowKit Go.Deep Go.Joins
set_option maxRecDepth 100000
theorem cardLO_looks : true = Tryz.prog.looks [] := by kernel_rfl
end Go.Proofs.YtjddelmhbafelaaGreatDoor
