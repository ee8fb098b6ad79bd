/-
  The closed facts of the row taskNoneRow, a theorem each, part 3.
-/
import Derived.Test.YtbbcheanneepnaaGreatDoorWL
import Derived.Test.YtbbcheanneepnaaGreatDoorCards
import Derived.JoinedOf
set_option linter.unusedSectionVars false
set_option linter.unusedVariables false
set_option linter.unusedSimpArgs false
namespace Go.Proofs.YtbbcheanneepnaaGreatDoor
open Go.ChangeShapes Go.WideShapes Go.ChangeAt Go.RowKit Go.Deep Go.Joins
set_option maxRecDepth 100000
theorem factTN24 : Tryz.pinned.checked.prog.stopsHeard = true := by kernel_rfl
theorem factTN25 : Tryz.pinned.checked.prog.mayEnter = true := by kernel_rfl
theorem factTN26 : (Rows.taskNoneRow.lifted == Tryz.pinned.checked.prog.liftsFinal) = true := by kernel_rfl
theorem factTN27 : (Tryz.pinned.checked.prog.make == some Rows.taskNoneRow.make) = true := by kernel_rfl
theorem factTN28 : (Rows.taskNoneRow.kinds == (if Rows.taskNoneRow.domain.isEmpty then [] else Tryz.f3.params.toList.map fun t => match Tryz.pinned.checked.prog.underlying t with | some (.int k) => some k | _ => none)) = true := by kernel_rfl
theorem factTN29 : (Rows.taskNoneRow.pinned == Rows.taskNoneRow.pinnedBy) = true := by kernel_rfl
theorem factTN30 : (Rows.taskNoneRow.veiled == (Tryz.f3.params.toList ++ Rows.taskNoneSpec.plain.varTypes Tryz.pinned.checked.prog ++ Tryz.f3.resultTypes.toList).any (Tryz.pinned.checked.prog.veiledRec ·)) = true := by kernel_rfl
theorem factTN31 : Rows.taskNoneRow.veiledFits Tryz.pinned.checked.prog Tryz.f3.params.toList (Tryz.f3.params.toList ++ Rows.taskNoneSpec.plain.varTypes Tryz.pinned.checked.prog ++ Tryz.f3.resultTypes.toList) = true := by kernel_rfl
end Go.Proofs.YtbbcheanneepnaaGreatDoor
