/-
  The closed facts of the row linearLongsRow, together.
-/
import Derived.Test.YtjddelmhbafelaaGreatDoorWM
import Derived.Test.YtjddelmhbafelaaGreatDoorWN
import Derived.Test.YtjddelmhbafelaaGreatDoorWO
import Derived.Test.YtjddelmhbafelaaGreatDoorWP
import Derived.JoinedOf
set_option linter.unusedSectionVars false
set_option linter.unusedVariables false
set_option linter.unusedSimpArgs false
namespace Go.Proofs.YtjddelmhbafelaaGreatDoor
open Go.ChangeShapes Go.WideShapes Go.ChangeAt Go.RowKit Go.Deep Go.Joins
set_option maxRecDepth 100000
theorem and_both {a b : Bool} (h : a = true) (k : b = true) : (a && b) = true := by rw [h, k]; rfl
theorem joinedLG : joinedFacts Tryz.pinned.checked.prog 4 Tryz.f4 Rows.linearLongsSpec Rows.linearLongsRow = true := by
  unfold joinedFacts
  exact (and_both (and_both (and_both (and_both (and_both (and_both (and_both (and_both (and_both (and_both (and_both (and_both (and_both (and_both (and_both (and_both (and_both (and_both (and_both (and_both (and_both (and_both (and_both (and_both (and_both (and_both (and_both (and_both (and_both (and_both (and_both factLG0 factLG1) factLG2) factLG3) factLG4) factLG5) factLG6) factLG7) factLG8) factLG9) factLG10) factLG11) factLG12) factLG13) factLG14) factLG15) factLG16) factLG17) factLG18) factLG19) factLG20) factLG21) factLG22) factLG23) factLG24) factLG25) factLG26) factLG27) factLG28) factLG29) factLG30) factLG31)
theorem namedLG : Tryz.pinned.checked.prog.funcNamed Rows.linearLongsRow.func = some 4 := by kernel_rfl
end Go.Proofs.YtjddelmhbafelaaGreatDoor
