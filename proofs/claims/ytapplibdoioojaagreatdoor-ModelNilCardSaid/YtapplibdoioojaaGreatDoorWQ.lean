/-
  The closed facts of the row modelNilRow, a theorem each, part 3.
-/
import Derived.Test.YtapplibdoioojaaGreatDoorWM
import Derived.Test.YtapplibdoioojaaGreatDoorCards
import Derived.JoinedOf
set_option linter.unusedSectionVars false
set_option linter.unusedVariables false
set_option linter.unusedSimpArgs false
namespace Go.Proofs.YtapplibdoioojaaGreatDoor
open Go.ChangeShapes Go.WideShapes Go.ChangeAt Go.RowKit Go.Deep Go.Joins
set_option maxRecDepth 100000
theorem factMN24 : Tryz.pinned.checked.prog.stopsHeard = true := by kernel_rfl
theorem factMN25 : Tryz.pinned.checked.prog.mayEnter = true := by kernel_rfl
theorem factMN26 : (Rows.modelNilRow.lifted == Tryz.pinned.checked.prog.liftsFinal) = true := by kernel_rfl
theorem factMN27 : (Tryz.pinned.checked.prog.make == some Rows.modelNilRow.make) = true := by kernel_rfl
theorem factMN28 : (Rows.modelNilRow.kinds == (if Rows.modelNilRow.domain.isEmpty then [] else Tryz.f5.params.toList.map fun t => match Tryz.pinned.checked.prog.underlying t with | some (.int k) => some k | _ => none)) = true := by kernel_rfl
theorem factMN29 : (Rows.modelNilRow.pinned == Rows.modelNilRow.pinnedBy) = true := by kernel_rfl
theorem factMN30 : (Rows.modelNilRow.veiled == (Tryz.f5.params.toList ++ Rows.modelNilSpec.plain.varTypes Tryz.pinned.checked.prog ++ Tryz.f5.resultTypes.toList).any (Tryz.pinned.checked.prog.veiledRec ·)) = true := by kernel_rfl
theorem factMN31 : Rows.modelNilRow.veiledFits Tryz.pinned.checked.prog Tryz.f5.params.toList (Tryz.f5.params.toList ++ Rows.modelNilSpec.plain.varTypes Tryz.pinned.checked.prog ++ Tryz.f5.resultTypes.toList) = true := by kernel_rfl
end Go.Proofs.YtapplibdoioojaaGreatDoor
