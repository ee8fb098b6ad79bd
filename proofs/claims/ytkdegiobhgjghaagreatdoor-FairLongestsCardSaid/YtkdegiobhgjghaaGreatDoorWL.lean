/-
  The closed facts of the row fairLongestsRow, a theorem each, part 3.
-/
import Derived.Test.YtkdegiobhgjghaaGreatDoorWH
import Derived.Test.YtkdegiobhgjghaaGreatDoorCards
import Derived.JoinedOf
set_option linter.unusedSectionVars false
set_option linter.unusedVariables false
set_option linter.unusedSimpArgs false
namespace Go.Proofs.YtkdegiobhgjghaaGreatDoor
open Go.ChangeShapes Go.WideShapes Go.ChangeAt Go.RowKit Go.Deep Go.Joins
set_option maxRecDepth 100000
theorem factFL24 : Tryz.pinned.checked.prog.stopsHeard = true := by kernel_rfl
theorem factFL25 : Tryz.pinned.checked.prog.mayEnter = true := by kernel_rfl
theorem factFL26 : (Rows.fairLongestsRow.lifted == Tryz.pinned.checked.prog.liftsFinal) = true := by kernel_rfl
theorem factFL27 : (Tryz.pinned.checked.prog.make == some Rows.fairLongestsRow.make) = true := by kernel_rfl
theorem factFL28 : (Rows.fairLongestsRow.kinds == (if Rows.fairLongestsRow.domain.isEmpty then [] else Tryz.f3.params.toList.map fun t => match Tryz.pinned.checked.prog.underlying t with | some (.int k) => some k | _ => none)) = true := by kernel_rfl
theorem factFL29 : (Rows.fairLongestsRow.pinned == Rows.fairLongestsRow.pinnedBy) = true := by kernel_rfl
theorem factFL30 : (Rows.fairLongestsRow.veiled == (Tryz.f3.params.toList ++ Rows.fairLongestsSpec.plain.varTypes Tryz.pinned.checked.prog ++ Tryz.f3.resultTypes.toList).any (Tryz.pinned.checked.prog.veiledRec ·)) = true := by kernel_rfl
theorem factFL31 : Rows.fairLongestsRow.veiledFits Tryz.pinned.checked.prog Tryz.f3.params.toList (Tryz.f3.params.toList ++ Rows.fairLongestsSpec.plain.varTypes Tryz.pinned.checked.prog ++ Tryz.f3.resultTypes.toList) = true := by kernel_rfl
end Go.Proofs.YtkdegiobhgjghaaGreatDoor
