/-
  The closed facts of the row concNoneRow, a theorem each, part 0.
-/
import Derived.Test.YtpjpdohdceabpaaGreatDoorXAQ
import Derived.Test.YtpjpdohdceabpaaGreatDoorCards
import Derived.JoinedOf
set_option linter.unusedSectionVars false
set_option linter.unusedVariables false
set_option linter.unusedSimpArgs false
set_option maxRecDepth 100000
set_option maxHeartbeats 8000000
namespace Go.Proofs.YtpjpdohdceabpaaGreatDoor
open Go.ChangeShapes Go.WideShapes Go.ChangeAt Go.RowKit Go.Deep Go.Joins
set_option maxRecDepth 100000
theorem factCN0 : Rows.concNoneRow.wf (OpenSpec.ofChange Rows.concNoneSpec) = true := by kernel_rfl
theorem factCN1 : laidOutB Tryz.pinned.checked.prog = true := by kernel_rfl
theorem factCN2 : mapsRowed Tryz.pinned.checked.prog = true := by kernel_rfl
theorem factCN3 : Tryz.f3.params.all (Tryz.pinned.checked.prog.readableRec ·) = true := by kernel_rfl
theorem factCN4 : namedTie Tryz.pinned.checked.prog Rows.concNoneRow.named Rows.concNoneSpec.vars = true := by kernel_rfl
theorem factCN5 : (Rows.concNoneRow.stops == []) = true := by kernel_rfl
theorem factCN6 : (Tryz.pinned.checked.prog.stops == []) = true := by kernel_rfl
theorem factCN7 : (Rows.concNoneRow.knobs == []) = true := by kernel_rfl
end Go.Proofs.YtpjpdohdceabpaaGreatDoor
