/-
  The card of LinearOrders.
-/
import Derived.Test.YtjddelmhbafelaaGreatDoorXS
import Derived.Test.YtjddelmhbafelaaGreatDoorXT
import Derived.Test.YtjddelmhbafelaaGreatDoorXU
import Derived.Test.YtjddelmhbafelaaGreatDoorXV
import Derived.Test.YtjddelmhbafelaaGreatDoorTie
set_option linter.unusedSectionVars false
set_option linter.unusedVariables false
set_option linter.unusedSimpArgs false
namespace Go.Proofs.YtjddelmhbafelaaGreatDoor
open Go.ChangeShapes Go.WideShapes Go.ChangeAt Go.RowKit Go.Deep Go.Joins
theorem linearOrders_card : Rows.LinearOrdersCardSaid :=
  Claim7.holds_tied_plain_at .later [] [.data, .data, .pinned] true (true, "2b8f388a0e42e0b9662216df25ea509b379fbbf26d5d97542945c774d38856eb") true linearOrders_holds (fun _ h => by cases h) cardLO_wf (fun _ h => by cases h) linearOrders_row_tie rfl ⟨rfl, rfl⟩ cardLO_main rfl
    (fun f fn hf hfn => by
      obtain rfl : f = 3 := Option.some.inj (cardLO_named.symm.trans hf) |>.symm
      obtain rfl : fn = Tryz.f3 := (Option.some.inj (Tryz.func3.symm.trans hfn)).symm
      exact ⟨cardLO_looks, fun j t ht => by
        rw [Tryz.params3] at ht
        have hm : t ∈ [22] := by simpa using Array.mem_of_getElem? ht
        exact (show Tryz.prog.wantsStandIn t = false by simpa using List.all_eq_true.1 cardLO_want t hm)⟩)
    cardLO_goes
end Go.Proofs.YtjddelmhbafelaaGreatDoor
