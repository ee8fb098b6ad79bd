/-
  The closed facts of the row modelNewRow, together.
-/
import Derived.Test.YtapplibdoioojaaGreatDoorPN
import Derived.Test.YtapplibdoioojaaGreatDoorPO
import Derived.Test.YtapplibdoioojaaGreatDoorPP
import Derived.Test.YtapplibdoioojaaGreatDoorPQ
import Derived.JoinedOf
set_option linter.unusedSectionVars false
set_option linter.unusedVariables false
set_option linter.unusedSimpArgs false
namespace Go.Proofs.YtapplibdoioojaaGreatDoor
open Go.ChangeShapes Go.WideShapes Go.ChangeAt Go.RowKit Go.Deep Go.Joins
set_option maxRecDepth 100000
theorem and_both {a b : Bool} (h : a = true) (k : b = true) : (a && b) = true := by rw [h, k]; rfl
theorem joinedMW : joinedFacts Tryz.pinned.checked.prog 3 Tryz.f3 Rows.modelNewSpec Rows.modelNewRow = true := by
  unfold joinedFacts
  exact (and_both (and_both (and_both (and_both (and_both (and_both (and_both (and_both (and_both (and_both (and_both (and_both (and_both (and_both (and_both (and_both (and_both (and_both (and_both (and_both (and_both (and_both (and_both (and_both (and_both (and_both (and_both (and_both (and_both (and_both (and_both factMW0 factMW1) factMW2) factMW3) factMW4) factMW5) factMW6) factMW7) factMW8) factMW9) factMW10) factMW11) factMW12) factMW13) factMW14) factMW15) factMW16) factMW17) factMW18) factMW19) factMW20) factMW21) factMW22) factMW23) factMW24) factMW25) factMW26) factMW27) factMW28) factMW29) factMW30) factMW31)
theorem namedMW : Tryz.pinned.checked.prog.funcNamed Rows.modelNewRow.func = some 3 := by kernel_rfl
end Go.Proofs.YtapplibdoioojaaGreatDoor
