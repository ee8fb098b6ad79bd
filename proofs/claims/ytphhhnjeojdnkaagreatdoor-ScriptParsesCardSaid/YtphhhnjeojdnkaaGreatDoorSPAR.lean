/-
  The closed facts of the row scriptParsesRow, a theorem each, part 0.
-/
import Derived.Test.YtphhhnjeojdnkaaGreatDoorSPAP
import Derived.Test.YtphhhnjeojdnkaaGreatDoorCards
import Derived.JoinedOf
set_option linter.unusedSectionVars false
set_option linter.unusedVariables false
set_option linter.unusedSimpArgs false
set_option maxRecDepth 100000
set_option maxHeartbeats 8000000
namespace Go.Proofs.YtphhhnjeojdnkaaGreatDoor
open Go.ChangeShapes Go.WideShapes Go.ChangeAt Go.RowKit Go.Deep Go.Joins
set_option maxRecDepth 100000
theorem factSP0 : Rows.scriptParsesRow.wf (OpenSpec.ofChange Rows.scriptParsesSpec) = true := by kernel_rfl
theorem factSP1 : laidOutB Tryz.pinned.checked.prog = true := by kernel_rfl
theorem factSP2 : mapsRowed Tryz.pinned.checked.prog = true := by kernel_rfl
theorem factSP3 : Tryz.f3.params.all (Tryz.pinned.checked.prog.readableRec ·) = true := by kernel_rfl
theorem factSP4 : namedTie Tryz.pinned.checked.prog Rows.scriptParsesRow.named Rows.scriptParsesSpec.vars = true := by kernel_rfl
theorem factSP5 : (Rows.scriptParsesRow.stops == []) = true := by kernel_rfl
theorem factSP6 : (Tryz.pinned.checked.prog.stops == []) = true := by kernel_rfl
theorem factSP7 : (Rows.scriptParsesRow.knobs == []) = true := by kernel_rfl
end Go.Proofs.YtphhhnjeojdnkaaGreatDoor
