/-
  The closed facts of the row scriptParsesRow, a theorem each, part 3.
-/
import Derived.Test.YtphhhnjeojdnkaaGreatDoorSPAP
import Derived.Test.YtphhhnjeojdnkaaGreatDoorCards
import Derived.JoinedOf
set_option linter.unusedSectionVars false
set_option linter.unusedVariables false
set_option linter.unusedSimpArgs false
set_option maxRecDepth 100000
set_option maxHeartbeats 8000000
namespace Go.Proofs.YtphhhnjeojdnkaaGreatDoor
open Go.ChangeShapes Go.WideShapes Go.ChangeAt Go.RowKit Go.Deep Go.Joins
set_option maxRecDepth 100000
theorem factSP24 : Tryz.pinned.checked.prog.stopsHeard = true := by kernel_rfl
theorem factSP25 : Tryz.pinned.checked.prog.mayEnter = true := by kernel_rfl
theorem factSP26 : (Rows.scriptParsesRow.lifted == Tryz.pinned.checked.prog.liftsFinal) = true := by kernel_rfl
theorem factSP27 : (Tryz.pinned.checked.prog.make == some Rows.scriptParsesRow.make) = true := by kernel_rfl
theorem factSP28 : (Rows.scriptParsesRow.kinds == (if Rows.scriptParsesRow.domain.isEmpty then [] else Tryz.f3.params.toList.map fun t => match Tryz.pinned.checked.prog.underlying t with | some (.int k) => some k | _ => none)) = true := by kernel_rfl
theorem factSP29 : (Rows.scriptParsesRow.pinned == Rows.scriptParsesRow.pinnedBy) = true := by kernel_rfl
theorem factSP30 : (Rows.scriptParsesRow.veiled == (Tryz.f3.params.toList ++ Rows.scriptParsesSpec.plain.varTypes Tryz.pinned.checked.prog ++ Tryz.f3.resultTypes.toList).any (Tryz.pinned.checked.prog.veiledRec ·)) = true := by kernel_rfl
theorem factSP31 : Rows.scriptParsesRow.veiledFits Tryz.pinned.checked.prog Tryz.f3.params.toList (Tryz.f3.params.toList ++ Rows.scriptParsesSpec.plain.varTypes Tryz.pinned.checked.prog ++ Tryz.f3.resultTypes.toList) = true := by kernel_rfl
end Go.Proofs.YtphhhnjeojdnkaaGreatDoor
