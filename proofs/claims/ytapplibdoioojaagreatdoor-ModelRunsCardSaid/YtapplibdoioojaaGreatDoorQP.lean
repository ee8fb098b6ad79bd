/-
  The closed facts of the row modelRunsRow, a theorem each, part 2.
-/
import Derived.Test.YtapplibdoioojaaGreatDoorQM
import Derived.Test.YtapplibdoioojaaGreatDoorCards
import Derived.JoinedOf
set_option linter.unusedSectionVars false
set_option linter.unusedVariables false
set_option linter.unusedSimpArgs false
namespace Go.Proofs.YtapplibdoioojaaGreatDoor
open Go.ChangeShapes Go.WideShapes Go.ChangeAt Go.RowKit Go.Deep Go.Joins
set_option maxRecDepth 100000
theorem factMR16 : (Rows.modelRunsRow.loops == (Tryz.f4.params.toList ++ Rows.modelRunsSpec.plain.varTypes Tryz.pinned.checked.prog).any (Tryz.pinned.checked.prog.loopsFrom ·)) = true := by kernel_rfl
theorem factMR17 : (Rows.modelRunsRow.wideKeys == (Tryz.f4.params.toList ++ Rows.modelRunsSpec.plain.varTypes Tryz.pinned.checked.prog ++ Tryz.f4.resultTypes.toList).any (Tryz.pinned.checked.prog.wideKeysFrom ·)) = true := by kernel_rfl
theorem factMR18 : Rows.modelRunsSpec.vars.all (Tryz.pinned.checked.prog.varReadable ·) = true := by kernel_rfl
theorem factMR19 : Tryz.f4.resultTypes.all (fun t => Tryz.pinned.checked.prog.readableRec t && decide (t < Tryz.pinned.checked.prog.types.size)) = true := by kernel_rfl
theorem factMR20 : (Rows.modelRunsRow.ifacesOut == Tryz.f4.resultTypes.toList.any (Tryz.pinned.checked.prog.ifacesRec ·)) = true := by kernel_rfl
theorem factMR21 : (Rows.modelRunsRow.loopsOut == Tryz.f4.resultTypes.toList.any (Tryz.pinned.checked.prog.loopsFrom ·)) = true := by kernel_rfl
theorem factMR22 : (Rows.modelRunsRow.plainKeys == Tryz.pinned.checked.prog.plainKeys) = true := by kernel_rfl
theorem factMR23 : Rows.modelRunsRow.shortTexts.isNone = true := by kernel_rfl
end Go.Proofs.YtapplibdoioojaaGreatDoor
