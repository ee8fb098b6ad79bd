/-
  The closed facts of the row scriptBatchesRow, a theorem each, part 2.
-/
import Derived.Test.YtphhhnjeojdnkaaGreatDoorSBP
import Derived.Test.YtphhhnjeojdnkaaGreatDoorCards
import Derived.JoinedOf
set_option linter.unusedSectionVars false
set_option linter.unusedVariables false
set_option linter.unusedSimpArgs false
namespace Go.Proofs.YtphhhnjeojdnkaaGreatDoor
open Go.ChangeShapes Go.WideShapes Go.ChangeAt Go.RowKit Go.Deep Go.Joins
set_option maxRecDepth 100000
theorem factSB16 : (Rows.scriptBatchesRow.loops == (Tryz.f4.params.toList ++ Rows.scriptBatchesSpec.plain.varTypes Tryz.pinned.checked.prog).any (Tryz.pinned.checked.prog.loopsFrom ·)) = true := by kernel_rfl
theorem factSB17 : (Rows.scriptBatchesRow.wideKeys == (Tryz.f4.params.toList ++ Rows.scriptBatchesSpec.plain.varTypes Tryz.pinned.checked.prog ++ Tryz.f4.resultTypes.toList).any (Tryz.pinned.checked.prog.wideKeysFrom ·)) = true := by kernel_rfl
theorem factSB18 : Rows.scriptBatchesSpec.vars.all (Tryz.pinned.checked.prog.varReadable ·) = true := by kernel_rfl
theorem factSB19 : Tryz.f4.resultTypes.all (fun t => Tryz.pinned.checked.prog.readableRec t && decide (t < Tryz.pinned.checked.prog.types.size)) = true := by kernel_rfl
theorem factSB20 : (Rows.scriptBatchesRow.ifacesOut == Tryz.f4.resultTypes.toList.any (Tryz.pinned.checked.prog.ifacesRec ·)) = true := by kernel_rfl
theorem factSB21 : (Rows.scriptBatchesRow.loopsOut == Tryz.f4.resultTypes.toList.any (Tryz.pinned.checked.prog.loopsFrom ·)) = true := by kernel_rfl
theorem factSB22 : (Rows.scriptBatchesRow.plainKeys == Tryz.pinned.checked.prog.plainKeys) = true := by kernel_rfl
theorem factSB23 : Rows.scriptBatchesRow.shortTexts.isNone = true := by kernel_rfl
end Go.Proofs.YtphhhnjeojdnkaaGreatDoor
