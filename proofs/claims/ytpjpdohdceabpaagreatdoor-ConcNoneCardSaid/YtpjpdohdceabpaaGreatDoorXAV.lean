/-
  The closed facts of the row concNoneRow, together.
-/
import Derived.Test.YtpjpdohdceabpaaGreatDoorXAR
import Derived.Test.YtpjpdohdceabpaaGreatDoorXAS
import Derived.Test.YtpjpdohdceabpaaGreatDoorXAT
import Derived.Test.YtpjpdohdceabpaaGreatDoorXAU
import Derived.JoinedOf
set_option linter.unusedSectionVars false
set_option linter.unusedVariables false
set_option linter.unusedSimpArgs false
set_option maxRecDepth 100000
set_option maxHeartbeats 8000000
namespace Go.Proofs.YtpjpdohdceabpaaGreatDoor
open Go.ChangeShapes Go.WideShapes Go.ChangeAt Go.RowKit Go.Deep Go.Joins
set_option maxRecDepth 100000
theorem and_both {a b : Bool} (h : a = true) (k : b = true) : (a && b) = true := by rw [h, k]; rfl
theorem joinedCN : joinedFacts Tryz.pinned.checked.prog 3 Tryz.f3 Rows.concNoneSpec Rows.concNoneRow = true := by
  unfold joinedFacts
  exact (and_both (and_both (and_both (and_both (and_both (and_both (and_both (and_both (and_both (and_both (and_both (and_both (and_both (and_both (and_both (and_both (and_both (and_both (and_both (and_both (and_both (and_both (and_both (and_both (and_both (and_both (and_both (and_both (and_both (and_both (and_both factCN0 factCN1) factCN2) factCN3) factCN4) factCN5) factCN6) factCN7) factCN8) factCN9) factCN10) factCN11) factCN12) factCN13) factCN14) factCN15) factCN16) factCN17) factCN18) factCN19) factCN20) factCN21) factCN22) factCN23) factCN24) factCN25) factCN26) factCN27) factCN28) factCN29) factCN30) factCN31)
theorem namedCN : Tryz.pinned.checked.prog.funcNamed Rows.concNoneRow.func = some 3 := by kernel_rfl
end Go.Proofs.YtpjpdohdceabpaaGreatDoor
