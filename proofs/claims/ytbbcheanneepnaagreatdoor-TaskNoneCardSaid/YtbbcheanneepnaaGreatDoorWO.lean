/-
  The closed facts of the row taskNoneRow, a theorem each, part 2.
-/
import Derived.Test.YtbbcheanneepnaaGreatDoorWL
import Derived.Test.YtbbcheanneepnaaGreatDoorCards
import Derived.JoinedOf
set_option linter.unusedSectionVars false
set_option linter.unusedVariables false
set_option linter.unusedSimpArgs false
namespace Go.Proofs.YtbbcheanneepnaaGreatDoor
open Go.ChangeShapes Go.WideShapes Go.ChangeAt Go.RowKit Go.Deep Go.Joins
set_option maxRecDepth 100000
theorem factTN16 : (Rows.taskNoneRow.loops == (Tryz.f3.params.toList ++ Rows.taskNoneSpec.plain.varTypes Tryz.pinned.checked.prog).any (Tryz.pinned.checked.prog.loopsFrom ·)) = true := by kernel_rfl
theorem factTN17 : (Rows.taskNoneRow.wideKeys == (Tryz.f3.params.toList ++ Rows.taskNoneSpec.plain.varTypes Tryz.pinned.checked.prog ++ Tryz.f3.resultTypes.toList).any (Tryz.pinned.checked.prog.wideKeysFrom ·)) = true := by kernel_rfl
theorem factTN18 : Rows.taskNoneSpec.vars.all (Tryz.pinned.checked.prog.varReadable ·) = true := by kernel_rfl
theorem factTN19 : Tryz.f3.resultTypes.all (fun t => Tryz.pinned.checked.prog.readableRec t && decide (t < Tryz.pinned.checked.prog.types.size)) = true := by kernel_rfl
theorem factTN20 : (Rows.taskNoneRow.ifacesOut == Tryz.f3.resultTypes.toList.any (Tryz.pinned.checked.prog.ifacesRec ·)) = true := by kernel_rfl
theorem factTN21 : (Rows.taskNoneRow.loopsOut == Tryz.f3.resultTypes.toList.any (Tryz.pinned.checked.prog.loopsFrom ·)) = true := by kernel_rfl
theorem factTN22 : (Rows.taskNoneRow.plainKeys == Tryz.pinned.checked.prog.plainKeys) = true := by kernel_rfl
theorem factTN23 : Rows.taskNoneRow.shortTexts.isNone = true := by kernel_rfl
end Go.Proofs.YtbbcheanneepnaaGreatDoor
