/-
  The closed facts of the row fairStepsRow, a theorem each, part 0.
-/
import Derived.Test.YthnbhjpahlceeaaGreatDoorTI
import Derived.Test.YthnbhjpahlceeaaGreatDoorCards
import Derived.JoinedOf
set_option maxRecDepth 100000
set_option maxHeartbeats 8000000
set_option linter.unusedSectionVars false
set_option linter.unusedVariables false
set_option linter.unusedSimpArgs false
set_option maxRecDepth 100000
set_option maxHeartbeats 8000000
namespace Go.Proofs.YthnbhjpahlceeaaGreatDoor
open Go.ChangeShapes Go.WideShapes Go.ChangeAt Go.RowKit Go.Deep Go.Joins
set_option maxRecDepth 100000
theorem Aoe:Rows.fairStepsRow.wf (OpenSpec.ofChange Rows.fairStepsSpec)=true:=by kernel_rfl
theorem Amj:laidOutB Tryz.pinned.checked.prog=true:=by kernel_rfl
theorem Anj:mapsRowed Tryz.pinned.checked.prog=true:=by kernel_rfl
theorem Anm:Tryz.f3.params.all (Tryz.pinned.checked.prog.readableRec ·)=true:=by kernel_rfl
theorem Aob:namedTie Tryz.pinned.checked.prog Rows.fairStepsRow.named Rows.fairStepsSpec.vars=true:=by kernel_rfl
theorem Aol:(Rows.fairStepsRow.stops==[])=true:=by kernel_rfl
theorem Amf:(Tryz.pinned.checked.prog.stops==[])=true:=by kernel_rfl
theorem Am6:(Rows.fairStepsRow.knobs==[])=true:=by kernel_rfl
end Go.Proofs.YthnbhjpahlceeaaGreatDoor
