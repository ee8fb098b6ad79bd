/-
  The closed facts of the row scriptBatchesRow, a theorem each, part 3.
-/
import Derived.Test.YtphhhnjeojdnkaaGreatDoorSBP
import Derived.Test.YtphhhnjeojdnkaaGreatDoorCards
import Derived.JoinedOf
set_option linter.unusedSectionVars false
set_option linter.unusedVariables false
set_option linter.unusedSimpArgs false
namespace Go.Proofs.YtphhhnjeojdnkaaGreatDoor
open Go.ChangeShapes Go.WideShapes Go.ChangeAt Go.RowKit Go.Deep Go.Joins
set_option maxRecDepth 100000
theorem factSB24 : Tryz.pinned.checked.prog.stopsHeard = true := by kernel_rfl
theorem factSB25 : Tryz.pinned.checked.prog.mayEnter = true := by kernel_rfl
theorem factSB26 : (Rows.scriptBatchesRow.lifted == Tryz.pinned.checked.prog.liftsFinal) = true := by kernel_rfl
theorem factSB27 : (Tryz.pinned.checked.prog.make == some Rows.scriptBatchesRow.make) = true := by kernel_rfl
theorem factSB28 : (Rows.scriptBatchesRow.kinds == (if Rows.scriptBatchesRow.domain.isEmpty then [] else Tryz.f4.params.toList.map fun t => match Tryz.pinned.checked.prog.underlying t with | some (.int k) => some k | _ => none)) = true := by kernel_rfl
theorem factSB29 : (Rows.scriptBatchesRow.pinned == Rows.scriptBatchesRow.pinnedBy) = true := by kernel_rfl
theorem factSB30 : (Rows.scriptBatchesRow.veiled == (Tryz.f4.params.toList ++ Rows.scriptBatchesSpec.plain.varTypes Tryz.pinned.checked.prog ++ Tryz.f4.resultTypes.toList).any (Tryz.pinned.checked.prog.veiledRec ·)) = true := by kernel_rfl
theorem factSB31 : Rows.scriptBatchesRow.veiledFits Tryz.pinned.checked.prog Tryz.f4.params.toList (Tryz.f4.params.toList ++ Rows.scriptBatchesSpec.plain.varTypes Tryz.pinned.checked.prog ++ Tryz.f4.resultTypes.toList) = true := by kernel_rfl
end Go.Proofs.YtphhhnjeojdnkaaGreatDoor
