/-
  The card of FairLongests.
-/
import Derived.Test.YtkdegiobhgjghaaGreatDoorWN
import Derived.Test.YtkdegiobhgjghaaGreatDoorWO
import Derived.Test.YtkdegiobhgjghaaGreatDoorWP
import Derived.Test.YtkdegiobhgjghaaGreatDoorWQ
import Derived.Test.YtkdegiobhgjghaaGreatDoorTie
set_option linter.unusedSectionVars false
set_option linter.unusedVariables false
set_option linter.unusedSimpArgs false
namespace Go.Proofs.YtkdegiobhgjghaaGreatDoor
open Go.ChangeShapes Go.WideShapes Go.ChangeAt Go.RowKit Go.Deep Go.Joins
theorem fairLongests_card : Rows.FairLongestsCardSaid :=
  Claim7.holds_tied_plain_at .later [] [.data, .data, .data, .pinned] true (true, "2bd99602555bb49214fa66074b084c81226e1bcc386c64ba3ec3b36dff7fdd51") true fairLongests_holds (fun _ h => by cases h) cardFL_wf (fun _ h => by cases h) fairLongests_row_tie rfl ⟨rfl, rfl⟩ cardFL_main rfl
    (fun f fn hf hfn => by
      obtain rfl : f = 3 := Option.some.inj (cardFL_named.symm.trans hf) |>.symm
      obtain rfl : fn = Tryz.f3 := (Option.some.inj (Tryz.func3.symm.trans hfn)).symm
      exact ⟨cardFL_looks, fun j t ht => by
        rw [Tryz.params3] at ht
        have hm : t ∈ [22] := by simpa using Array.mem_of_getElem? ht
        exact (show Tryz.prog.wantsStandIn t = false by simpa using List.all_eq_true.1 cardFL_want t hm)⟩)
    cardFL_goes
end Go.Proofs.YtkdegiobhgjghaaGreatDoor
