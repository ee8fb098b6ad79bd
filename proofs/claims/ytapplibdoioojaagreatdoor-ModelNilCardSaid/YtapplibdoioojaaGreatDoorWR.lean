/-
  The closed facts of the row modelNilRow, together.
-/
import Derived.Test.YtapplibdoioojaaGreatDoorWN
import Derived.Test.YtapplibdoioojaaGreatDoorWO
import Derived.Test.YtapplibdoioojaaGreatDoorWP
import Derived.Test.YtapplibdoioojaaGreatDoorWQ
import Derived.JoinedOf
set_option linter.unusedSectionVars false
set_option linter.unusedVariables false
set_option linter.unusedSimpArgs false
namespace Go.Proofs.YtapplibdoioojaaGreatDoor
open Go.ChangeShapes Go.WideShapes Go.ChangeAt Go.RowKit Go.Deep Go.Joins
set_option maxRecDepth 100000
theorem and_both {a b : Bool} (h : a = true) (k : b = true) : (a && b) = true := by rw [h, k]; rfl
theorem joinedMN : joinedFacts Tryz.pinned.checked.prog 5 Tryz.f5 Rows.modelNilSpec Rows.modelNilRow = true := by
  unfold joinedFacts
  exact (and_both (and_both (and_both (and_both (and_both (and_both (and_both (and_both (and_both (and_both (and_both (and_both (and_both (and_both (and_both (and_both (and_both (and_both (and_both (and_both (and_both (and_both (and_both (and_both (and_both (and_both (and_both (and_both (and_both (and_both (and_both factMN0 factMN1) factMN2) factMN3) factMN4) factMN5) factMN6) factMN7) factMN8) factMN9) factMN10) factMN11) factMN12) factMN13) factMN14) factMN15) factMN16) factMN17) factMN18) factMN19) factMN20) factMN21) factMN22) factMN23) factMN24) factMN25) factMN26) factMN27) factMN28) factMN29) factMN30) factMN31)
theorem namedMN : Tryz.pinned.checked.prog.funcNamed Rows.modelNilRow.func = some 5 := by kernel_rfl
end Go.Proofs.YtapplibdoioojaaGreatDoor
