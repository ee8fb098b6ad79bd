/-
  The card of ModelNil.
-/
import Derived.Test.YtapplibdoioojaaGreatDoorWS
import Derived.Test.YtapplibdoioojaaGreatDoorWT
import Derived.Test.YtapplibdoioojaaGreatDoorWU
import Derived.Test.YtapplibdoioojaaGreatDoorWV
import Derived.Test.YtapplibdoioojaaGreatDoorTie
set_option linter.unusedSectionVars false
set_option linter.unusedVariables false
set_option linter.unusedSimpArgs false
namespace Go.Proofs.YtapplibdoioojaaGreatDoor
open Go.ChangeShapes Go.WideShapes Go.ChangeAt Go.RowKit Go.Deep Go.Joins
theorem modelNil_card : Rows.ModelNilCardSaid :=
  Claim7.holds_tied_plain_at .later [] [.data, .data, .pinned] true (true, "40dec1f92d3f85824d52c5b35e990a1286ae04c330c8be05919d23529283379e") true modelNil_holds (fun _ h => by cases h) cardMN_wf (fun _ h => by cases h) modelNil_row_tie rfl ⟨rfl, rfl⟩ cardMN_main rfl
    (fun f fn hf hfn => by
      obtain rfl : f = 5 := Option.some.inj (cardMN_named.symm.trans hf) |>.symm
      obtain rfl : fn = Tryz.f5 := (Option.some.inj (Tryz.func5.symm.trans hfn)).symm
      exact ⟨cardMN_looks, fun j t ht => by
        rw [Tryz.params5] at ht
        have hm : t ∈ [36, 3] := by simpa using Array.mem_of_getElem? ht
        exact (show Tryz.prog.wantsStandIn t = false by simpa using List.all_eq_true.1 cardMN_want t hm)⟩)
    cardMN_goes
end Go.Proofs.YtapplibdoioojaaGreatDoor
