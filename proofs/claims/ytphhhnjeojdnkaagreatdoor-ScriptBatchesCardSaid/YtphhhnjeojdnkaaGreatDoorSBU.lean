/-
  The closed facts of the row scriptBatchesRow, together.
-/
import Derived.Test.YtphhhnjeojdnkaaGreatDoorSBQ
import Derived.Test.YtphhhnjeojdnkaaGreatDoorSBR
import Derived.Test.YtphhhnjeojdnkaaGreatDoorSBS
import Derived.Test.YtphhhnjeojdnkaaGreatDoorSBT
import Derived.JoinedOf
set_option linter.unusedSectionVars false
set_option linter.unusedVariables false
set_option linter.unusedSimpArgs false
namespace Go.Proofs.YtphhhnjeojdnkaaGreatDoor
open Go.ChangeShapes Go.WideShapes Go.ChangeAt Go.RowKit Go.Deep Go.Joins
set_option maxRecDepth 100000
theorem and_both {a b : Bool} (h : a = true) (k : b = true) : (a && b) = true := by rw [h, k]; rfl
theorem joinedSB : joinedFacts Tryz.pinned.checked.prog 4 Tryz.f4 Rows.scriptBatchesSpec Rows.scriptBatchesRow = true := by
  unfold joinedFacts
  exact (and_both (and_both (and_both (and_both (and_both (and_both (and_both (and_both (and_both (and_both (and_both (and_both (and_both (and_both (and_both (and_both (and_both (and_both (and_both (and_both (and_both (and_both (and_both (and_both (and_both (and_both (and_both (and_both (and_both (and_both (and_both factSB0 factSB1) factSB2) factSB3) factSB4) factSB5) factSB6) factSB7) factSB8) factSB9) factSB10) factSB11) factSB12) factSB13) factSB14) factSB15) factSB16) factSB17) factSB18) factSB19) factSB20) factSB21) factSB22) factSB23) factSB24) factSB25) factSB26) factSB27) factSB28) factSB29) factSB30) factSB31)
theorem namedSB : Tryz.pinned.checked.prog.funcNamed Rows.scriptBatchesRow.func = some 4 := by kernel_rfl
end Go.Proofs.YtphhhnjeojdnkaaGreatDoor
