/-
  The closed facts of the row fairLongsRow, a theorem each, part 2.
-/
import Derived.Test.YtkdegiobhgjghaaGreatDoorPH
import Derived.Test.YtkdegiobhgjghaaGreatDoorCards
import Derived.JoinedOf
set_option linter.unusedSectionVars false
set_option linter.unusedVariables false
set_option linter.unusedSimpArgs false
namespace Go.Proofs.YtkdegiobhgjghaaGreatDoor
open Go.ChangeShapes Go.WideShapes Go.ChangeAt Go.RowKit Go.Deep Go.Joins
set_option maxRecDepth 100000
theorem factFM16 : (Rows.fairLongsRow.loops == (Tryz.f4.params.toList ++ Rows.fairLongsSpec.plain.varTypes Tryz.pinned.checked.prog).any (Tryz.pinned.checked.prog.loopsFrom ·)) = true := by kernel_rfl
theorem factFM17 : (Rows.fairLongsRow.wideKeys == (Tryz.f4.params.toList ++ Rows.fairLongsSpec.plain.varTypes Tryz.pinned.checked.prog ++ Tryz.f4.resultTypes.toList).any (Tryz.pinned.checked.prog.wideKeysFrom ·)) = true := by kernel_rfl
theorem factFM18 : Rows.fairLongsSpec.vars.all (Tryz.pinned.checked.prog.varReadable ·) = true := by kernel_rfl
theorem factFM19 : Tryz.f4.resultTypes.all (fun t => Tryz.pinned.checked.prog.readableRec t && decide (t < Tryz.pinned.checked.prog.types.size)) = true := by kernel_rfl
theorem factFM20 : (Rows.fairLongsRow.ifacesOut == Tryz.f4.resultTypes.toList.any (Tryz.pinned.checked.prog.ifacesRec ·)) = true := by kernel_rfl
theorem factFM21 : (Rows.fairLongsRow.loopsOut == Tryz.f4.resultTypes.toList.any (Tryz.pinned.checked.prog.loopsFrom ·)) = true := by kernel_rfl
theorem factFM22 : (Rows.fairLongsRow.plainKeys == Tryz.pinned.checked.prog.plainKeys) = true := by kernel_rfl
theorem factFM23 : Rows.fairLongsRow.shortTexts.isNone = true := by kernel_rfl
end Go.Proofs.YtkdegiobhgjghaaGreatDoor
