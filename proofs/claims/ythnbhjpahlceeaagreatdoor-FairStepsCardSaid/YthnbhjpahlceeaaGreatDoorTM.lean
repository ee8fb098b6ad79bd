/-
  The closed facts of the row fairStepsRow, a theorem each, part 3.
-/
import Derived.Test.YthnbhjpahlceeaaGreatDoorTI
import Derived.Test.YthnbhjpahlceeaaGreatDoorCards
import Derived.JoinedOf
set_option maxRecDepth 100000
set_option maxHeartbeats 8000000
set_option linter.unusedSectionVars false
set_option linter.unusedVariables false
set_option linter.unusedSimpArgs false
set_option maxRecDepth 100000
set_option maxHeartbeats 8000000
namespace Go.Proofs.YthnbhjpahlceeaaGreatDoor
open Go.ChangeShapes Go.WideShapes Go.ChangeAt Go.RowKit Go.Deep Go.Joins
set_option maxRecDepth 100000
theorem Aj1:Tryz.pinned.checked.prog.stopsHeard=true:=by kernel_rfl
theorem Ah0:Tryz.pinned.checked.prog.mayEnter=true:=by kernel_rfl
theorem Akt:(Rows.fairStepsRow.lifted==Tryz.pinned.checked.prog.liftsFinal)=true:=by kernel_rfl
theorem Ako:(Tryz.pinned.checked.prog.make==some Rows.fairStepsRow.make)=true:=by kernel_rfl
theorem Aji:(Rows.fairStepsRow.kinds==(if Rows.fairStepsRow.domain.isEmpty then [] else Tryz.f3.params.toList.map fun t=>match Tryz.pinned.checked.prog.underlying t with | some (.int k)=>some k | _=>none))=true:=by kernel_rfl
theorem Ai7:(Rows.fairStepsRow.pinned==Rows.fairStepsRow.pinnedBy)=true:=by kernel_rfl
theorem Ah1:(Rows.fairStepsRow.veiled==(Tryz.f3.params.toList++Rows.fairStepsSpec.plain.varTypes Tryz.pinned.checked.prog++Tryz.f3.resultTypes.toList).any (Tryz.pinned.checked.prog.veiledRec ·))=true:=by kernel_rfl
theorem Ag2:Rows.fairStepsRow.veiledFits Tryz.pinned.checked.prog Tryz.f3.params.toList (Tryz.f3.params.toList++Rows.fairStepsSpec.plain.varTypes Tryz.pinned.checked.prog++Tryz.f3.resultTypes.toList)=true:=by kernel_rfl
end Go.Proofs.YthnbhjpahlceeaaGreatDoor
