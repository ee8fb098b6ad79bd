/-
  Closed facts of the card of LinearLongs: three.
-/
import Derived.Test.YtjddelmhbafelaaGreatDoorWL
import Derived.Test.YtjddelmhbafelaaGreatDoorCards
import Derived.SevenTiedAt
set_option linter.unusedSectionVars false
set_option linter.unusedVariables false
set_option linter.unusedSimpArgs false
namespace Go.Proofs.YtjddelmhbafelaaGreatDoor
open Go.ChangeShapes Go.WideShapes Go.ChangeAt Go.RowKit Go.Deep Go.Joins
set_option maxRecDepth 100000
theorem cardLG_goes : false = Rows.linearLongsRow.goesBy Tryz.prog := by kernel_rfl
end Go.Proofs.YtjddelmhbafelaaGreatDoor
