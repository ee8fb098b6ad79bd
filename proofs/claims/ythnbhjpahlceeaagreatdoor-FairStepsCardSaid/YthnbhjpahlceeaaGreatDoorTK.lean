/-
  The closed facts of the row fairStepsRow, a theorem each, part 1.
-/
import Derived.Test.YthnbhjpahlceeaaGreatDoorTI
import Derived.Test.YthnbhjpahlceeaaGreatDoorCards
import Derived.JoinedOf
set_option maxRecDepth 100000
set_option maxHeartbeats 8000000
set_option linter.unusedSectionVars false
set_option linter.unusedVariables false
set_option linter.unusedSimpArgs false
set_option maxRecDepth 100000
set_option maxHeartbeats 8000000
namespace Go.Proofs.YthnbhjpahlceeaaGreatDoor
open Go.ChangeShapes Go.WideShapes Go.ChangeAt Go.RowKit Go.Deep Go.Joins
set_option maxRecDepth 100000
theorem Aos:(Tryz.pinned.checked.prog.stopKnobs==[])=true:=by kernel_rfl
theorem Al3:(Rows.fairStepsRow.inPlace==Tryz.pinned.checked.prog.inPlace 3)=true:=by kernel_rfl
theorem Ah8:(Rows.fairStepsRow.unfollowed==Tryz.pinned.checked.prog.unfollowed 3)=true:=by kernel_rfl
theorem Akq:(Rows.fairStepsRow.recurses==Tryz.pinned.checked.prog.recurses 3)=true:=by kernel_rfl
theorem Ahf:(Rows.fairStepsRow.named==Tryz.pinned.checked.prog.varsNamed 3)=true:=by kernel_rfl
theorem Ajl:(Rows.fairStepsRow.maps==(Tryz.f3.params.toList++Rows.fairStepsSpec.plain.varTypes Tryz.pinned.checked.prog).any (Tryz.pinned.checked.prog.mapsRec ·))=true:=by kernel_rfl
theorem Aia:(Rows.fairStepsRow.ifaces==(Tryz.f3.params.toList++Rows.fairStepsSpec.plain.varTypes Tryz.pinned.checked.prog).any (Tryz.pinned.checked.prog.ifacesRec ·))=true:=by kernel_rfl
theorem Ajw:(Rows.fairStepsRow.mapsOut==Tryz.pinned.checked.prog.mapsAmong Tryz.f3.resultTypes.toList)=true:=by kernel_rfl
end Go.Proofs.YthnbhjpahlceeaaGreatDoor
