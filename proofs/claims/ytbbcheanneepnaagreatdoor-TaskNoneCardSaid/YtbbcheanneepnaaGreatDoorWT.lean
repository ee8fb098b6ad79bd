/-
  Closed facts of the card of TaskNone: two.
-/
import Derived.Test.YtbbcheanneepnaaGreatDoorWL
import Derived.Test.YtbbcheanneepnaaGreatDoorCards
import Derived.SevenTiedAt
set_option linter.unusedSectionVars false
set_option linter.unusedVariables false
set_option linter.unusedSimpArgs false
namespace Go.Proofs.YtbbcheanneepnaaGreatDoor
open Go.ChangeShapes Go.WideShapes Go.ChangeAt Go.RowKit Go.Deep Go.Joins
set_option maxRecDepth 100000
theorem cardTN_looks : true = Tryz.prog.looks [] := by kernel_rfl
end Go.Proofs.YtbbcheanneepnaaGreatDoor
