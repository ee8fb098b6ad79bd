/-
  The card of ModelNew.
-/
import Derived.Test.YtapplibdoioojaaGreatDoorPS
import Derived.Test.YtapplibdoioojaaGreatDoorPT
import Derived.Test.YtapplibdoioojaaGreatDoorPU
import Derived.Test.YtapplibdoioojaaGreatDoorPV
import Derived.Test.YtapplibdoioojaaGreatDoorTie
set_option linter.unusedSectionVars false
set_option linter.unusedVariables false
set_option linter.unusedSimpArgs false
namespace Go.Proofs.YtapplibdoioojaaGreatDoor
open Go.ChangeShapes Go.WideShapes Go.ChangeAt Go.RowKit Go.Deep Go.Joins
theorem modelNew_card : Rows.ModelNewCardSaid :=
  Claim7.holds_tied_plain_at .later [] [.data, .data, .pinned] true (true, "40dec1f92d3f85824d52c5b35e990a1286ae04c330c8be05919d23529283379e") true modelNew_holds (fun _ h => by cases h) cardMW_wf (fun _ h => by cases h) modelNew_row_tie rfl ⟨rfl, rfl⟩ cardMW_main rfl
    (fun f fn hf hfn => by
      obtain rfl : f = 3 := Option.some.inj (cardMW_named.symm.trans hf) |>.symm
      obtain rfl : fn = Tryz.f3 := (Option.some.inj (Tryz.func3.symm.trans hfn)).symm
      exact ⟨cardMW_looks, fun j t ht => by
        rw [Tryz.params3] at ht
        have hm : t ∈ [23] := by simpa using Array.mem_of_getElem? ht
        exact (show Tryz.prog.wantsStandIn t = false by simpa using List.all_eq_true.1 cardMW_want t hm)⟩)
    cardMW_goes
end Go.Proofs.YtapplibdoioojaaGreatDoor
