/-
  The card of LinearLongs.
-/
import Derived.Test.YtjddelmhbafelaaGreatDoorWR
import Derived.Test.YtjddelmhbafelaaGreatDoorWS
import Derived.Test.YtjddelmhbafelaaGreatDoorWT
import Derived.Test.YtjddelmhbafelaaGreatDoorWU
import Derived.Test.YtjddelmhbafelaaGreatDoorTie
set_option linter.unusedSectionVars false
set_option linter.unusedVariables false
set_option linter.unusedSimpArgs false
namespace Go.Proofs.YtjddelmhbafelaaGreatDoor
open Go.ChangeShapes Go.WideShapes Go.ChangeAt Go.RowKit Go.Deep Go.Joins
theorem linearLongs_card : Rows.LinearLongsCardSaid :=
  Claim7.holds_tied_plain_at .later [] [.data, .data, .pinned] true (true, "2b8f388a0e42e0b9662216df25ea509b379fbbf26d5d97542945c774d38856eb") true linearLongs_holds (fun _ h => by cases h) cardLG_wf (fun _ h => by cases h) linearLongs_row_tie rfl ⟨rfl, rfl⟩ cardLG_main rfl
    (fun f fn hf hfn => by
      obtain rfl : f = 4 := Option.some.inj (cardLG_named.symm.trans hf) |>.symm
      obtain rfl : fn = Tryz.f4 := (Option.some.inj (Tryz.func4.symm.trans hfn)).symm
      exact ⟨cardLG_looks, fun j t ht => by
        rw [Tryz.params4] at ht
        have hm : t ∈ [3, 30] := by simpa using Array.mem_of_getElem? ht
        exact (show Tryz.prog.wantsStandIn t = false by simpa using List.all_eq_true.1 cardLG_want t hm)⟩)
    cardLG_goes
end Go.Proofs.YtjddelmhbafelaaGreatDoor
