/-
  The closed facts of the row fairLongsRow, together.
-/
import Derived.Test.YtkdegiobhgjghaaGreatDoorPI
import Derived.Test.YtkdegiobhgjghaaGreatDoorPJ
import Derived.Test.YtkdegiobhgjghaaGreatDoorPK
import Derived.Test.YtkdegiobhgjghaaGreatDoorPL
import Derived.JoinedOf
set_option linter.unusedSectionVars false
set_option linter.unusedVariables false
set_option linter.unusedSimpArgs false
namespace Go.Proofs.YtkdegiobhgjghaaGreatDoor
open Go.ChangeShapes Go.WideShapes Go.ChangeAt Go.RowKit Go.Deep Go.Joins
set_option maxRecDepth 100000
theorem and_both {a b : Bool} (h : a = true) (k : b = true) : (a && b) = true := by rw [h, k]; rfl
theorem joinedFM : joinedFacts Tryz.pinned.checked.prog 4 Tryz.f4 Rows.fairLongsSpec Rows.fairLongsRow = true := by
  unfold joinedFacts
  exact (and_both (and_both (and_both (and_both (and_both (and_both (and_both (and_both (and_both (and_both (and_both (and_both (and_both (and_both (and_both (and_both (and_both (and_both (and_both (and_both (and_both (and_both (and_both (and_both (and_both (and_both (and_both (and_both (and_both (and_both (and_both factFM0 factFM1) factFM2) factFM3) factFM4) factFM5) factFM6) factFM7) factFM8) factFM9) factFM10) factFM11) factFM12) factFM13) factFM14) factFM15) factFM16) factFM17) factFM18) factFM19) factFM20) factFM21) factFM22) factFM23) factFM24) factFM25) factFM26) factFM27) factFM28) factFM29) factFM30) factFM31)
theorem namedFM : Tryz.pinned.checked.prog.funcNamed Rows.fairLongsRow.func = some 4 := by kernel_rfl
end Go.Proofs.YtkdegiobhgjghaaGreatDoor
