/-
  The closed facts of the row scriptParsesRow, together.
-/
import Derived.Test.YtphhhnjeojdnkaaGreatDoorSPAR
import Derived.Test.YtphhhnjeojdnkaaGreatDoorSPAS
import Derived.Test.YtphhhnjeojdnkaaGreatDoorSPAT
import Derived.Test.YtphhhnjeojdnkaaGreatDoorSPAU
import Derived.JoinedOf
set_option linter.unusedSectionVars false
set_option linter.unusedVariables false
set_option linter.unusedSimpArgs false
set_option maxRecDepth 100000
set_option maxHeartbeats 8000000
namespace Go.Proofs.YtphhhnjeojdnkaaGreatDoor
open Go.ChangeShapes Go.WideShapes Go.ChangeAt Go.RowKit Go.Deep Go.Joins
set_option maxRecDepth 100000
theorem and_both {a b : Bool} (h : a = true) (k : b = true) : (a && b) = true := by rw [h, k]; rfl
theorem joinedSP : joinedFacts Tryz.pinned.checked.prog 3 Tryz.f3 Rows.scriptParsesSpec Rows.scriptParsesRow = true := by
  unfold joinedFacts
  exact (and_both (and_both (and_both (and_both (and_both (and_both (and_both (and_both (and_both (and_both (and_both (and_both (and_both (and_both (and_both (and_both (and_both (and_both (and_both (and_both (and_both (and_both (and_both (and_both (and_both (and_both (and_both (and_both (and_both (and_both (and_both factSP0 factSP1) factSP2) factSP3) factSP4) factSP5) factSP6) factSP7) factSP8) factSP9) factSP10) factSP11) factSP12) factSP13) factSP14) factSP15) factSP16) factSP17) factSP18) factSP19) factSP20) factSP21) factSP22) factSP23) factSP24) factSP25) factSP26) factSP27) factSP28) factSP29) factSP30) factSP31)
theorem namedSP : Tryz.pinned.checked.prog.funcNamed Rows.scriptParsesRow.func = some 3 := by kernel_rfl
end Go.Proofs.YtphhhnjeojdnkaaGreatDoor
