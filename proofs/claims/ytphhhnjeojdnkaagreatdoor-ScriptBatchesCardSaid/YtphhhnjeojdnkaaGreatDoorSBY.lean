/-
  Closed facts of the card of ScriptBatches: three.
-/
import Derived.Test.YtphhhnjeojdnkaaGreatDoorSBP
import Derived.Test.YtphhhnjeojdnkaaGreatDoorCards
import Derived.SevenTiedAt
set_option linter.unusedSectionVars false
set_option linter.unusedVariables false
set_option linter.unusedSimpArgs false
namespace Go.Proofs.YtphhhnjeojdnkaaGreatDoor
open Go.ChangeShapes Go.WideShapes Go.ChangeAt Go.RowKit Go.Deep Go.Joins
set_option maxRecDepth 100000
theorem cardSB_goes : false = Rows.scriptBatchesRow.goesBy Tryz.prog := by kernel_rfl
end Go.Proofs.YtphhhnjeojdnkaaGreatDoor
