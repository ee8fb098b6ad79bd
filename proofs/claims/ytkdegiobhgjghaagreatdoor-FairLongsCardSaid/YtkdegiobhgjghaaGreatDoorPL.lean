/-
  The closed facts of the row fairLongsRow, a theorem each, part 3.
-/
import Derived.Test.YtkdegiobhgjghaaGreatDoorPH
import Derived.Test.YtkdegiobhgjghaaGreatDoorCards
import Derived.JoinedOf
set_option linter.unusedSectionVars false
set_option linter.unusedVariables false
set_option linter.unusedSimpArgs false
namespace Go.Proofs.YtkdegiobhgjghaaGreatDoor
open Go.ChangeShapes Go.WideShapes Go.ChangeAt Go.RowKit Go.Deep Go.Joins
set_option maxRecDepth 100000
theorem factFM24 : Tryz.pinned.checked.prog.stopsHeard = true := by kernel_rfl
theorem factFM25 : Tryz.pinned.checked.prog.mayEnter = true := by kernel_rfl
theorem factFM26 : (Rows.fairLongsRow.lifted == Tryz.pinned.checked.prog.liftsFinal) = true := by kernel_rfl
theorem factFM27 : (Tryz.pinned.checked.prog.make == some Rows.fairLongsRow.make) = true := by kernel_rfl
theorem factFM28 : (Rows.fairLongsRow.kinds == (if Rows.fairLongsRow.domain.isEmpty then [] else Tryz.f4.params.toList.map fun t => match Tryz.pinned.checked.prog.underlying t with | some (.int k) => some k | _ => none)) = true := by kernel_rfl
theorem factFM29 : (Rows.fairLongsRow.pinned == Rows.fairLongsRow.pinnedBy) = true := by kernel_rfl
theorem factFM30 : (Rows.fairLongsRow.veiled == (Tryz.f4.params.toList ++ Rows.fairLongsSpec.plain.varTypes Tryz.pinned.checked.prog ++ Tryz.f4.resultTypes.toList).any (Tryz.pinned.checked.prog.veiledRec ·)) = true := by kernel_rfl
theorem factFM31 : Rows.fairLongsRow.veiledFits Tryz.pinned.checked.prog Tryz.f4.params.toList (Tryz.f4.params.toList ++ Rows.fairLongsSpec.plain.varTypes Tryz.pinned.checked.prog ++ Tryz.f4.resultTypes.toList) = true := by kernel_rfl
end Go.Proofs.YtkdegiobhgjghaaGreatDoor
