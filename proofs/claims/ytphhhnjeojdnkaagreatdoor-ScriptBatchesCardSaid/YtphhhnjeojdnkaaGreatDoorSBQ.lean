/-
  The closed facts of the row scriptBatchesRow, a theorem each, part 0.
-/
import Derived.Test.YtphhhnjeojdnkaaGreatDoorSBP
import Derived.Test.YtphhhnjeojdnkaaGreatDoorCards
import Derived.JoinedOf
set_option linter.unusedSectionVars false
set_option linter.unusedVariables false
set_option linter.unusedSimpArgs false
namespace Go.Proofs.YtphhhnjeojdnkaaGreatDoor
open Go.ChangeShapes Go.WideShapes Go.ChangeAt Go.RowKit Go.Deep Go.Joins
set_option maxRecDepth 100000
theorem factSB0 : Rows.scriptBatchesRow.wf (OpenSpec.ofChange Rows.scriptBatchesSpec) = true := by kernel_rfl
theorem factSB1 : laidOutB Tryz.pinned.checked.prog = true := by kernel_rfl
theorem factSB2 : mapsRowed Tryz.pinned.checked.prog = true := by kernel_rfl
theorem factSB3 : Tryz.f4.params.all (Tryz.pinned.checked.prog.readableRec ·) = true := by kernel_rfl
theorem factSB4 : namedTie Tryz.pinned.checked.prog Rows.scriptBatchesRow.named Rows.scriptBatchesSpec.vars = true := by kernel_rfl
theorem factSB5 : (Rows.scriptBatchesRow.stops == []) = true := by kernel_rfl
theorem factSB6 : (Tryz.pinned.checked.prog.stops == []) = true := by kernel_rfl
theorem factSB7 : (Rows.scriptBatchesRow.knobs == []) = true := by kernel_rfl
end Go.Proofs.YtphhhnjeojdnkaaGreatDoor
