/-
  The closed facts of the row taskNoneRow, together.
-/
import Derived.Test.YtbbcheanneepnaaGreatDoorWM
import Derived.Test.YtbbcheanneepnaaGreatDoorWN
import Derived.Test.YtbbcheanneepnaaGreatDoorWO
import Derived.Test.YtbbcheanneepnaaGreatDoorWP
import Derived.JoinedOf
set_option linter.unusedSectionVars false
set_option linter.unusedVariables false
set_option linter.unusedSimpArgs false
namespace Go.Proofs.YtbbcheanneepnaaGreatDoor
open Go.ChangeShapes Go.WideShapes Go.ChangeAt Go.RowKit Go.Deep Go.Joins
set_option maxRecDepth 100000
theorem and_both {a b : Bool} (h : a = true) (k : b = true) : (a && b) = true := by rw [h, k]; rfl
theorem joinedTN : joinedFacts Tryz.pinned.checked.prog 3 Tryz.f3 Rows.taskNoneSpec Rows.taskNoneRow = true := by
  unfold joinedFacts
  exact (and_both (and_both (and_both (and_both (and_both (and_both (and_both (and_both (and_both (and_both (and_both (and_both (and_both (and_both (and_both (and_both (and_both (and_both (and_both (and_both (and_both (and_both (and_both (and_both (and_both (and_both (and_both (and_both (and_both (and_both (and_both factTN0 factTN1) factTN2) factTN3) factTN4) factTN5) factTN6) factTN7) factTN8) factTN9) factTN10) factTN11) factTN12) factTN13) factTN14) factTN15) factTN16) factTN17) factTN18) factTN19) factTN20) factTN21) factTN22) factTN23) factTN24) factTN25) factTN26) factTN27) factTN28) factTN29) factTN30) factTN31)
theorem namedTN : Tryz.pinned.checked.prog.funcNamed Rows.taskNoneRow.func = some 3 := by kernel_rfl
end Go.Proofs.YtbbcheanneepnaaGreatDoor
