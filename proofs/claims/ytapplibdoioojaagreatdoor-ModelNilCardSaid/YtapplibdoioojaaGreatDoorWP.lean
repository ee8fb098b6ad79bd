/-
  The closed facts of the row modelNilRow, a theorem each, part 2.
-/
import Derived.Test.YtapplibdoioojaaGreatDoorWM
import Derived.Test.YtapplibdoioojaaGreatDoorCards
import Derived.JoinedOf
set_option linter.unusedSectionVars false
set_option linter.unusedVariables false
set_option linter.unusedSimpArgs false
namespace Go.Proofs.YtapplibdoioojaaGreatDoor
open Go.ChangeShapes Go.WideShapes Go.ChangeAt Go.RowKit Go.Deep Go.Joins
set_option maxRecDepth 100000
theorem factMN16 : (Rows.modelNilRow.loops == (Tryz.f5.params.toList ++ Rows.modelNilSpec.plain.varTypes Tryz.pinned.checked.prog).any (Tryz.pinned.checked.prog.loopsFrom ·)) = true := by kernel_rfl
theorem factMN17 : (Rows.modelNilRow.wideKeys == (Tryz.f5.params.toList ++ Rows.modelNilSpec.plain.varTypes Tryz.pinned.checked.prog ++ Tryz.f5.resultTypes.toList).any (Tryz.pinned.checked.prog.wideKeysFrom ·)) = true := by kernel_rfl
theorem factMN18 : Rows.modelNilSpec.vars.all (Tryz.pinned.checked.prog.varReadable ·) = true := by kernel_rfl
theorem factMN19 : Tryz.f5.resultTypes.all (fun t => Tryz.pinned.checked.prog.readableRec t && decide (t < Tryz.pinned.checked.prog.types.size)) = true := by kernel_rfl
theorem factMN20 : (Rows.modelNilRow.ifacesOut == Tryz.f5.resultTypes.toList.any (Tryz.pinned.checked.prog.ifacesRec ·)) = true := by kernel_rfl
theorem factMN21 : (Rows.modelNilRow.loopsOut == Tryz.f5.resultTypes.toList.any (Tryz.pinned.checked.prog.loopsFrom ·)) = true := by kernel_rfl
theorem factMN22 : (Rows.modelNilRow.plainKeys == Tryz.pinned.checked.prog.plainKeys) = true := by kernel_rfl
theorem factMN23 : Rows.modelNilRow.shortTexts.isNone = true := by kernel_rfl
end Go.Proofs.YtapplibdoioojaaGreatDoor
