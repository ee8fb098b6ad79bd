/-
  The closed facts of the row modelNewRow, a theorem each, part 3.
-/
import Derived.Test.YtapplibdoioojaaGreatDoorPM
import Derived.Test.YtapplibdoioojaaGreatDoorCards
import Derived.JoinedOf
set_option linter.unusedSectionVars false
set_option linter.unusedVariables false
set_option linter.unusedSimpArgs false
namespace Go.Proofs.YtapplibdoioojaaGreatDoor
open Go.ChangeShapes Go.WideShapes Go.ChangeAt Go.RowKit Go.Deep Go.Joins
set_option maxRecDepth 100000
theorem factMW24 : Tryz.pinned.checked.prog.stopsHeard = true := by kernel_rfl
theorem factMW25 : Tryz.pinned.checked.prog.mayEnter = true := by kernel_rfl
theorem factMW26 : (Rows.modelNewRow.lifted == Tryz.pinned.checked.prog.liftsFinal) = true := by kernel_rfl
theorem factMW27 : (Tryz.pinned.checked.prog.make == some Rows.modelNewRow.make) = true := by kernel_rfl
theorem factMW28 : (Rows.modelNewRow.kinds == (if Rows.modelNewRow.domain.isEmpty then [] else Tryz.f3.params.toList.map fun t => match Tryz.pinned.checked.prog.underlying t with | some (.int k) => some k | _ => none)) = true := by kernel_rfl
theorem factMW29 : (Rows.modelNewRow.pinned == Rows.modelNewRow.pinnedBy) = true := by kernel_rfl
theorem factMW30 : (Rows.modelNewRow.veiled == (Tryz.f3.params.toList ++ Rows.modelNewSpec.plain.varTypes Tryz.pinned.checked.prog ++ Tryz.f3.resultTypes.toList).any (Tryz.pinned.checked.prog.veiledRec ·)) = true := by kernel_rfl
theorem factMW31 : Rows.modelNewRow.veiledFits Tryz.pinned.checked.prog Tryz.f3.params.toList (Tryz.f3.params.toList ++ Rows.modelNewSpec.plain.varTypes Tryz.pinned.checked.prog ++ Tryz.f3.resultTypes.toList) = true := by kernel_rfl
end Go.Proofs.YtapplibdoioojaaGreatDoor
