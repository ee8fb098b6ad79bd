/-
  The closed facts of the row concNoneRow, a theorem each, part 3.
-/
import Derived.Test.YtpjpdohdceabpaaGreatDoorXAQ
import Derived.Test.YtpjpdohdceabpaaGreatDoorCards
import Derived.JoinedOf
set_option linter.unusedSectionVars false
set_option linter.unusedVariables false
set_option linter.unusedSimpArgs false
set_option maxRecDepth 100000
set_option maxHeartbeats 8000000
namespace Go.Proofs.YtpjpdohdceabpaaGreatDoor
open Go.ChangeShapes Go.WideShapes Go.ChangeAt Go.RowKit Go.Deep Go.Joins
set_option maxRecDepth 100000
theorem factCN24 : Tryz.pinned.checked.prog.stopsHeard = true := by kernel_rfl
theorem factCN25 : Tryz.pinned.checked.prog.mayEnter = true := by kernel_rfl
theorem factCN26 : (Rows.concNoneRow.lifted == Tryz.pinned.checked.prog.liftsFinal) = true := by kernel_rfl
theorem factCN27 : (Tryz.pinned.checked.prog.make == some Rows.concNoneRow.make) = true := by kernel_rfl
theorem factCN28 : (Rows.concNoneRow.kinds == (if Rows.concNoneRow.domain.isEmpty then [] else Tryz.f3.params.toList.map fun t => match Tryz.pinned.checked.prog.underlying t with | some (.int k) => some k | _ => none)) = true := by kernel_rfl
theorem factCN29 : (Rows.concNoneRow.pinned == Rows.concNoneRow.pinnedBy) = true := by kernel_rfl
theorem factCN30 : (Rows.concNoneRow.veiled == (Tryz.f3.params.toList ++ Rows.concNoneSpec.plain.varTypes Tryz.pinned.checked.prog ++ Tryz.f3.resultTypes.toList).any (Tryz.pinned.checked.prog.veiledRec ·)) = true := by kernel_rfl
theorem factCN31 : Rows.concNoneRow.veiledFits Tryz.pinned.checked.prog Tryz.f3.params.toList (Tryz.f3.params.toList ++ Rows.concNoneSpec.plain.varTypes Tryz.pinned.checked.prog ++ Tryz.f3.resultTypes.toList) = true := by kernel_rfl
end Go.Proofs.YtpjpdohdceabpaaGreatDoor
