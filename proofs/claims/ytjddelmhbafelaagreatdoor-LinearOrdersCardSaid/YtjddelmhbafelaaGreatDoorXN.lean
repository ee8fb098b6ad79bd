/-
  The closed facts of the row linearOrdersRow, a theorem each, part 0.
-/
import Derived.Test.YtjddelmhbafelaaGreatDoorXM
import Derived.Test.YtjddelmhbafelaaGreatDoorCards
import Derived.JoinedOf
set_option linter.unusedSectionVars false
set_option linter.unusedVariables false
set_option linter.unusedSimpArgs false
namespace Go.Proofs.YtjddelmhbafelaaGreatDoor
open Go.ChangeShapes Go.WideShapes Go.ChangeAt Go.RowKit Go.Deep Go.Joins
set_option maxRecDepth 100000
theorem factLO0 : Rows.linearOrdersRow.wf (OpenSpec.ofChange Rows.linearOrdersSpec) = true := by kernel_rfl
theorem factLO1 : laidOutB Tryz.pinned.checked.prog = true := by kernel_rfl
theorem factLO2 : mapsRowed Tryz.pinned.checked.prog = true := by kernel_rfl
theorem factLO3 : Tryz.f3.params.all (Tryz.pinned.checked.prog.readableRec ·) = true := by kernel_rfl
theorem factLO4 : namedTie Tryz.pinned.checked.prog Rows.linearOrdersRow.named Rows.linearOrdersSpec.vars = true := by kernel_rfl
theorem factLO5 : (Rows.linearOrdersRow.stops == []) = true := by kernel_rfl
theorem factLO6 : (Tryz.pinned.checked.prog.stops == []) = true := by kernel_rfl
theorem factLO7 : (Rows.linearOrdersRow.knobs == []) = true := by kernel_rfl
end Go.Proofs.YtjddelmhbafelaaGreatDoor
