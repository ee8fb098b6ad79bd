/-
  The card of FairLongs.
-/
import Derived.Test.YtkdegiobhgjghaaGreatDoorPN
import Derived.Test.YtkdegiobhgjghaaGreatDoorPO
import Derived.Test.YtkdegiobhgjghaaGreatDoorPP
import Derived.Test.YtkdegiobhgjghaaGreatDoorPQ
import Derived.Test.YtkdegiobhgjghaaGreatDoorTie
set_option linter.unusedSectionVars false
set_option linter.unusedVariables false
set_option linter.unusedSimpArgs false
namespace Go.Proofs.YtkdegiobhgjghaaGreatDoor
open Go.ChangeShapes Go.WideShapes Go.ChangeAt Go.RowKit Go.Deep Go.Joins
theorem fairLongs_card : Rows.FairLongsCardSaid :=
  Claim7.holds_tied_plain_at .later [] [.data, .data, .data, .pinned] true (true, "2bd99602555bb49214fa66074b084c81226e1bcc386c64ba3ec3b36dff7fdd51") true fairLongs_holds (fun _ h => by cases h) cardFM_wf (fun _ h => by cases h) fairLongs_row_tie rfl ⟨rfl, rfl⟩ cardFM_main rfl
    (fun f fn hf hfn => by
      obtain rfl : f = 4 := Option.some.inj (cardFM_named.symm.trans hf) |>.symm
      obtain rfl : fn = Tryz.f4 := (Option.some.inj (Tryz.func4.symm.trans hfn)).symm
      exact ⟨cardFM_looks, fun j t ht => by
        rw [Tryz.params4] at ht
        have hm : t ∈ [3, 28] := by simpa using Array.mem_of_getElem? ht
        exact (show Tryz.prog.wantsStandIn t = false by simpa using List.all_eq_true.1 cardFM_want t hm)⟩)
    cardFM_goes
end Go.Proofs.YtkdegiobhgjghaaGreatDoor
