/-
  The closed facts of the row linearOrdersRow, together.
-/
import Derived.Test.YtjddelmhbafelaaGreatDoorXN
import Derived.Test.YtjddelmhbafelaaGreatDoorXO
import Derived.Test.YtjddelmhbafelaaGreatDoorXP
import Derived.Test.YtjddelmhbafelaaGreatDoorXQ
import Derived.JoinedOf
set_option linter.unusedSectionVars false
set_option linter.unusedVariables false
set_option linter.unusedSimpArgs false
namespace Go.Proofs.YtjddelmhbafelaaGreatDoor
open Go.ChangeShapes Go.WideShapes Go.ChangeAt Go.RowKit Go.Deep Go.Joins
set_option maxRecDepth 100000
theorem and_both {a b : Bool} (h : a = true) (k : b = true) : (a && b) = true := by rw [h, k]; rfl
theorem joinedLO : joinedFacts Tryz.pinned.checked.prog 3 Tryz.f3 Rows.linearOrdersSpec Rows.linearOrdersRow = true := by
  unfold joinedFacts
  exact (and_both (and_both (and_both (and_both (and_both (and_both (and_both (and_both (and_both (and_both (and_both (and_both (and_both (and_both (and_both (and_both (and_both (and_both (and_both (and_both (and_both (and_both (and_both (and_both (and_both (and_both (and_both (and_both (and_both (and_both (and_both factLO0 factLO1) factLO2) factLO3) factLO4) factLO5) factLO6) factLO7) factLO8) factLO9) factLO10) factLO11) factLO12) factLO13) factLO14) factLO15) factLO16) factLO17) factLO18) factLO19) factLO20) factLO21) factLO22) factLO23) factLO24) factLO25) factLO26) factLO27) factLO28) factLO29) factLO30) factLO31)
theorem namedLO : Tryz.pinned.checked.prog.funcNamed Rows.linearOrdersRow.func = some 3 := by kernel_rfl
end Go.Proofs.YtjddelmhbafelaaGreatDoor
