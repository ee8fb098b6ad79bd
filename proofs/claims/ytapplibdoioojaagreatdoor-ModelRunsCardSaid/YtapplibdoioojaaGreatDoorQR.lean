/-
  The closed facts of the row modelRunsRow, together.
-/
import Derived.Test.YtapplibdoioojaaGreatDoorQN
import Derived.Test.YtapplibdoioojaaGreatDoorQO
import Derived.Test.YtapplibdoioojaaGreatDoorQP
import Derived.Test.YtapplibdoioojaaGreatDoorQQ
import Derived.JoinedOf
set_option linter.unusedSectionVars false
set_option linter.unusedVariables false
set_option linter.unusedSimpArgs false
namespace Go.Proofs.YtapplibdoioojaaGreatDoor
open Go.ChangeShapes Go.WideShapes Go.ChangeAt Go.RowKit Go.Deep Go.Joins
set_option maxRecDepth 100000
theorem and_both {a b : Bool} (h : a = true) (k : b = true) : (a && b) = true := by rw [h, k]; rfl
theorem joinedMR : joinedFacts Tryz.pinned.checked.prog 4 Tryz.f4 Rows.modelRunsSpec Rows.modelRunsRow = true := by
  unfold joinedFacts
  exact (and_both (and_both (and_both (and_both (and_both (and_both (and_both (and_both (and_both (and_both (and_both (and_both (and_both (and_both (and_both (and_both (and_both (and_both (and_both (and_both (and_both (and_both (and_both (and_both (and_both (and_both (and_both (and_both (and_both (and_both (and_both factMR0 factMR1) factMR2) factMR3) factMR4) factMR5) factMR6) factMR7) factMR8) factMR9) factMR10) factMR11) factMR12) factMR13) factMR14) factMR15) factMR16) factMR17) factMR18) factMR19) factMR20) factMR21) factMR22) factMR23) factMR24) factMR25) factMR26) factMR27) factMR28) factMR29) factMR30) factMR31)
theorem namedMR : Tryz.pinned.checked.prog.funcNamed Rows.modelRunsRow.func = some 4 := by kernel_rfl
end Go.Proofs.YtapplibdoioojaaGreatDoor
