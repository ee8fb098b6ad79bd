/-
  The closed facts of the row linearLongsRow, a theorem each, part 3.
-/
import Derived.Test.YtjddelmhbafelaaGreatDoorWL
import Derived.Test.YtjddelmhbafelaaGreatDoorCards
import Derived.JoinedOf
set_option linter.unusedSectionVars false
set_option linter.unusedVariables false
set_option linter.unusedSimpArgs false
namespace Go.Proofs.YtjddelmhbafelaaGreatDoor
open Go.ChangeShapes Go.WideShapes Go.ChangeAt Go.RowKit Go.Deep Go.Joins
set_option maxRecDepth 100000
theorem factLG24 : Tryz.pinned.checked.prog.stopsHeard = true := by kernel_rfl
theorem factLG25 : Tryz.pinned.checked.prog.mayEnter = true := by kernel_rfl
theorem factLG26 : (Rows.linearLongsRow.lifted == Tryz.pinned.checked.prog.liftsFinal) = true := by kernel_rfl
theorem factLG27 : (Tryz.pinned.checked.prog.make == some Rows.linearLongsRow.make) = true := by kernel_rfl
theorem factLG28 : (Rows.linearLongsRow.kinds == (if Rows.linearLongsRow.domain.isEmpty then [] else Tryz.f4.params.toList.map fun t => match Tryz.pinned.checked.prog.underlying t with | some (.int k) => some k | _ => none)) = true := by kernel_rfl
theorem factLG29 : (Rows.linearLongsRow.pinned == Rows.linearLongsRow.pinnedBy) = true := by kernel_rfl
theorem factLG30 : (Rows.linearLongsRow.veiled == (Tryz.f4.params.toList ++ Rows.linearLongsSpec.plain.varTypes Tryz.pinned.checked.prog ++ Tryz.f4.resultTypes.toList).any (Tryz.pinned.checked.prog.veiledRec ·)) = true := by kernel_rfl
theorem factLG31 : Rows.linearLongsRow.veiledFits Tryz.pinned.checked.prog Tryz.f4.params.toList (Tryz.f4.params.toList ++ Rows.linearLongsSpec.plain.varTypes Tryz.pinned.checked.prog ++ Tryz.f4.resultTypes.toList) = true := by kernel_rfl
end Go.Proofs.YtjddelmhbafelaaGreatDoor
