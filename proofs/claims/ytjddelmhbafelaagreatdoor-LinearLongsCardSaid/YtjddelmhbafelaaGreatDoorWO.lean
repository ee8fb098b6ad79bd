/-
  The closed facts of the row linearLongsRow, a theorem each, part 2.
-/
import Derived.Test.YtjddelmhbafelaaGreatDoorWL
import Derived.Test.YtjddelmhbafelaaGreatDoorCards
import Derived.JoinedOf
set_option linter.unusedSectionVars false
set_option linter.unusedVariables false
set_option linter.unusedSimpArgs false
namespace Go.Proofs.YtjddelmhbafelaaGreatDoor
open Go.ChangeShapes Go.WideShapes Go.ChangeAt Go.RowKit Go.Deep Go.Joins
set_option maxRecDepth 100000
theorem factLG16 : (Rows.linearLongsRow.loops == (Tryz.f4.params.toList ++ Rows.linearLongsSpec.plain.varTypes Tryz.pinned.checked.prog).any (Tryz.pinned.checked.prog.loopsFrom ·)) = true := by kernel_rfl
theorem factLG17 : (Rows.linearLongsRow.wideKeys == (Tryz.f4.params.toList ++ Rows.linearLongsSpec.plain.varTypes Tryz.pinned.checked.prog ++ Tryz.f4.resultTypes.toList).any (Tryz.pinned.checked.prog.wideKeysFrom ·)) = true := by kernel_rfl
theorem factLG18 : Rows.linearLongsSpec.vars.all (Tryz.pinned.checked.prog.varReadable ·) = true := by kernel_rfl
theorem factLG19 : Tryz.f4.resultTypes.all (fun t => Tryz.pinned.checked.prog.readableRec t && decide (t < Tryz.pinned.checked.prog.types.size)) = true := by kernel_rfl
theorem factLG20 : (Rows.linearLongsRow.ifacesOut == Tryz.f4.resultTypes.toList.any (Tryz.pinned.checked.prog.ifacesRec ·)) = true := by kernel_rfl
theorem factLG21 : (Rows.linearLongsRow.loopsOut == Tryz.f4.resultTypes.toList.any (Tryz.pinned.checked.prog.loopsFrom ·)) = true := by kernel_rfl
theorem factLG22 : (Rows.linearLongsRow.plainKeys == Tryz.pinned.checked.prog.plainKeys) = true := by kernel_rfl
theorem factLG23 : Rows.linearLongsRow.shortTexts.isNone = true := by kernel_rfl
end Go.Proofs.YtjddelmhbafelaaGreatDoor
