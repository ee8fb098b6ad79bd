/-
  The closed facts of the row linearOrdersRow, a theorem each, part 3.
-/
import Derived.Test.YtjddelmhbafelaaGreatDoorXM
import Derived.Test.YtjddelmhbafelaaGreatDoorCards
import Derived.JoinedOf
set_option linter.unusedSectionVars false
set_option linter.unusedVariables false
set_option linter.unusedSimpArgs false
namespace Go.Proofs.YtjddelmhbafelaaGreatDoor
open Go.ChangeShapes Go.WideShapes Go.ChangeAt Go.RowKit Go.Deep Go.Joins
set_option maxRecDepth 100000
theorem factLO24 : Tryz.pinned.checked.prog.stopsHeard = true := by kernel_rfl
theorem factLO25 : Tryz.pinned.checked.prog.mayEnter = true := by kernel_rfl
theorem factLO26 : (Rows.linearOrdersRow.lifted == Tryz.pinned.checked.prog.liftsFinal) = true := by kernel_rfl
theorem factLO27 : (Tryz.pinned.checked.prog.make == some Rows.linearOrdersRow.make) = true := by kernel_rfl
theorem factLO28 : (Rows.linearOrdersRow.kinds == (if Rows.linearOrdersRow.domain.isEmpty then [] else Tryz.f3.params.toList.map fun t => match Tryz.pinned.checked.prog.underlying t with | some (.int k) => some k | _ => none)) = true := by kernel_rfl
theorem factLO29 : (Rows.linearOrdersRow.pinned == Rows.linearOrdersRow.pinnedBy) = true := by kernel_rfl
theorem factLO30 : (Rows.linearOrdersRow.veiled == (Tryz.f3.params.toList ++ Rows.linearOrdersSpec.plain.varTypes Tryz.pinned.checked.prog ++ Tryz.f3.resultTypes.toList).any (Tryz.pinned.checked.prog.veiledRec ·)) = true := by kernel_rfl
theorem factLO31 : Rows.linearOrdersRow.veiledFits Tryz.pinned.checked.prog Tryz.f3.params.toList (Tryz.f3.params.toList ++ Rows.linearOrdersSpec.plain.varTypes Tryz.pinned.checked.prog ++ Tryz.f3.resultTypes.toList) = true := by kernel_rfl
end Go.Proofs.YtjddelmhbafelaaGreatDoor
