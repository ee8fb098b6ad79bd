/-
  The card of ModelRuns.
-/
import Derived.Test.YtapplibdoioojaaGreatDoorQS
import Derived.Test.YtapplibdoioojaaGreatDoorQT
import Derived.Test.YtapplibdoioojaaGreatDoorQU
import Derived.Test.YtapplibdoioojaaGreatDoorQV
import Derived.Test.YtapplibdoioojaaGreatDoorTie
set_option linter.unusedSectionVars false
set_option linter.unusedVariables false
set_option linter.unusedSimpArgs false
namespace Go.Proofs.YtapplibdoioojaaGreatDoor
open Go.ChangeShapes Go.WideShapes Go.ChangeAt Go.RowKit Go.Deep Go.Joins
theorem modelRuns_card : Rows.ModelRunsCardSaid :=
  Claim7.holds_tied_plain_at .later [] [.data, .data, .pinned] true (true, "40dec1f92d3f85824d52c5b35e990a1286ae04c330c8be05919d23529283379e") true modelRuns_holds (fun _ h => by cases h) cardMR_wf (fun _ h => by cases h) modelRuns_row_tie rfl ⟨rfl, rfl⟩ cardMR_main rfl
    (fun f fn hf hfn => by
      obtain rfl : f = 4 := Option.some.inj (cardMR_named.symm.trans hf) |>.symm
      obtain rfl : fn = Tryz.f4 := (Option.some.inj (Tryz.func4.symm.trans hfn)).symm
      exact ⟨cardMR_looks, fun j t ht => by
        rw [Tryz.params4] at ht
        have hm : t ∈ [3] := by simpa using Array.mem_of_getElem? ht
        exact (show Tryz.prog.wantsStandIn t = false by simpa using List.all_eq_true.1 cardMR_want t hm)⟩)
    cardMR_goes
end Go.Proofs.YtapplibdoioojaaGreatDoor
