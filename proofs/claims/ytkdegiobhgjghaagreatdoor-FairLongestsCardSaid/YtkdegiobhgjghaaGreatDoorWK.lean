/-
  The closed facts of the row fairLongestsRow, a theorem each, part 2.
-/
import Derived.Test.YtkdegiobhgjghaaGreatDoorWH
import Derived.Test.YtkdegiobhgjghaaGreatDoorCards
import Derived.JoinedOf
set_option linter.unusedSectionVars false
set_option linter.unusedVariables false
set_option linter.unusedSimpArgs false
namespace Go.Proofs.YtkdegiobhgjghaaGreatDoor
open Go.ChangeShapes Go.WideShapes Go.ChangeAt Go.RowKit Go.Deep Go.Joins
set_option maxRecDepth 100000
theorem factFL16 : (Rows.fairLongestsRow.loops == (Tryz.f3.params.toList ++ Rows.fairLongestsSpec.plain.varTypes Tryz.pinned.checked.prog).any (Tryz.pinned.checked.prog.loopsFrom ·)) = true := by kernel_rfl
theorem factFL17 : (Rows.fairLongestsRow.wideKeys == (Tryz.f3.params.toList ++ Rows.fairLongestsSpec.plain.varTypes Tryz.pinned.checked.prog ++ Tryz.f3.resultTypes.toList).any (Tryz.pinned.checked.prog.wideKeysFrom ·)) = true := by kernel_rfl
theorem factFL18 : Rows.fairLongestsSpec.vars.all (Tryz.pinned.checked.prog.varReadable ·) = true := by kernel_rfl
theorem factFL19 : Tryz.f3.resultTypes.all (fun t => Tryz.pinned.checked.prog.readableRec t && decide (t < Tryz.pinned.checked.prog.types.size)) = true := by kernel_rfl
theorem factFL20 : (Rows.fairLongestsRow.ifacesOut == Tryz.f3.resultTypes.toList.any (Tryz.pinned.checked.prog.ifacesRec ·)) = true := by kernel_rfl
theorem factFL21 : (Rows.fairLongestsRow.loopsOut == Tryz.f3.resultTypes.toList.any (Tryz.pinned.checked.prog.loopsFrom ·)) = true := by kernel_rfl
theorem factFL22 : (Rows.fairLongestsRow.plainKeys == Tryz.pinned.checked.prog.plainKeys) = true := by kernel_rfl
theorem factFL23 : Rows.fairLongestsRow.shortTexts.isNone = true := by kernel_rfl
end Go.Proofs.YtkdegiobhgjghaaGreatDoor
