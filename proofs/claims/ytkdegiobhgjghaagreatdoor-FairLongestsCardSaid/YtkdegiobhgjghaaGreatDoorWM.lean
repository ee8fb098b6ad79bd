/-
  The closed facts of the row fairLongestsRow, together.
-/
import Derived.Test.YtkdegiobhgjghaaGreatDoorWI
import Derived.Test.YtkdegiobhgjghaaGreatDoorWJ
import Derived.Test.YtkdegiobhgjghaaGreatDoorWK
import Derived.Test.YtkdegiobhgjghaaGreatDoorWL
import Derived.JoinedOf
set_option linter.unusedSectionVars false
set_option linter.unusedVariables false
set_option linter.unusedSimpArgs false
namespace Go.Proofs.YtkdegiobhgjghaaGreatDoor
open Go.ChangeShapes Go.WideShapes Go.ChangeAt Go.RowKit Go.Deep Go.Joins
set_option maxRecDepth 100000
theorem and_both {a b : Bool} (h : a = true) (k : b = true) : (a && b) = true := by rw [h, k]; rfl
theorem joinedFL : joinedFacts Tryz.pinned.checked.prog 3 Tryz.f3 Rows.fairLongestsSpec Rows.fairLongestsRow = true := by
  unfold joinedFacts
  exact (and_both (and_both (and_both (and_both (and_both (and_both (and_both (and_both (and_both (and_both (and_both (and_both (and_both (and_both (and_both (and_both (and_both (and_both (and_both (and_both (and_both (and_both (and_both (and_both (and_both (and_both (and_both (and_both (and_both (and_both (and_both factFL0 factFL1) factFL2) factFL3) factFL4) factFL5) factFL6) factFL7) factFL8) factFL9) factFL10) factFL11) factFL12) factFL13) factFL14) factFL15) factFL16) factFL17) factFL18) factFL19) factFL20) factFL21) factFL22) factFL23) factFL24) factFL25) factFL26) factFL27) factFL28) factFL29) factFL30) factFL31)
theorem namedFL : Tryz.pinned.checked.prog.funcNamed Rows.fairLongestsRow.func = some 3 := by kernel_rfl
end Go.Proofs.YtkdegiobhgjghaaGreatDoor
