/-
  The closed facts of the row modelRunsRow, a theorem each, part 3.
-/
import Derived.Test.YtapplibdoioojaaGreatDoorQM
import Derived.Test.YtapplibdoioojaaGreatDoorCards
import Derived.JoinedOf
set_option linter.unusedSectionVars false
set_option linter.unusedVariables false
set_option linter.unusedSimpArgs false
namespace Go.Proofs.YtapplibdoioojaaGreatDoor
open Go.ChangeShapes Go.WideShapes Go.ChangeAt Go.RowKit Go.Deep Go.Joins
set_option maxRecDepth 100000
theorem factMR24 : Tryz.pinned.checked.prog.stopsHeard = true := by kernel_rfl
theorem factMR25 : Tryz.pinned.checked.prog.mayEnter = true := by kernel_rfl
theorem factMR26 : (Rows.modelRunsRow.lifted == Tryz.pinned.checked.prog.liftsFinal) = true := by kernel_rfl
theorem factMR27 : (Tryz.pinned.checked.prog.make == some Rows.modelRunsRow.make) = true := by kernel_rfl
theorem factMR28 : (Rows.modelRunsRow.kinds == (if Rows.modelRunsRow.domain.isEmpty then [] else Tryz.f4.params.toList.map fun t => match Tryz.pinned.checked.prog.underlying t with | some (.int k) => some k | _ => none)) = true := by kernel_rfl
theorem factMR29 : (Rows.modelRunsRow.pinned == Rows.modelRunsRow.pinnedBy) = true := by kernel_rfl
theorem factMR30 : (Rows.modelRunsRow.veiled == (Tryz.f4.params.toList ++ Rows.modelRunsSpec.plain.varTypes Tryz.pinned.checked.prog ++ Tryz.f4.resultTypes.toList).any (Tryz.pinned.checked.prog.veiledRec ·)) = true := by kernel_rfl
theorem factMR31 : Rows.modelRunsRow.veiledFits Tryz.pinned.checked.prog Tryz.f4.params.toList (Tryz.f4.params.toList ++ Rows.modelRunsSpec.plain.varTypes Tryz.pinned.checked.prog ++ Tryz.f4.resultTypes.toList) = true := by kernel_rfl
end Go.Proofs.YtapplibdoioojaaGreatDoor
