/-
  The closed facts of the row linearLongsRow, a theorem each, part 0.
-/
import Derived.Test.YtjddelmhbafelaaGreatDoorWL
import Derived.Test.YtjddelmhbafelaaGreatDoorCards
import Derived.JoinedOf
set_option linter.unusedSectionVars false
set_option linter.unusedVariables false
set_option linter.unusedSimpArgs false
namespace Go.Proofs.YtjddelmhbafelaaGreatDoor
open Go.ChangeShapes Go.WideShapes Go.ChangeAt Go.RowKit Go.Deep Go.Joins
set_option maxRecDepth 100000
theorem factLG0 : Rows.linearLongsRow.wf (OpenSpec.ofChange Rows.linearLongsSpec) = true := by kernel_rfl
theorem factLG1 : laidOutB Tryz.pinned.checked.prog = true := by kernel_rfl
theorem factLG2 : mapsRowed Tryz.pinned.checked.prog = true := by kernel_rfl
theorem factLG3 : Tryz.f4.params.all (Tryz.pinned.checked.prog.readableRec ·) = true := by kernel_rfl
theorem factLG4 : namedTie Tryz.pinned.checked.prog Rows.linearLongsRow.named Rows.linearLongsSpec.vars = true := by kernel_rfl
theorem factLG5 : (Rows.linearLongsRow.stops == []) = true := by kernel_rfl
theorem factLG6 : (Tryz.pinned.checked.prog.stops == []) = true := by kernel_rfl
theorem factLG7 : (Rows.linearLongsRow.knobs == []) = true := by kernel_rfl
end Go.Proofs.YtjddelmhbafelaaGreatDoor
