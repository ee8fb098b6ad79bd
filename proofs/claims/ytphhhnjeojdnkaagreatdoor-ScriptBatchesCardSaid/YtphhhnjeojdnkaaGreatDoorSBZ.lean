/-
  The card of ScriptBatches.
-/
import Derived.Test.YtphhhnjeojdnkaaGreatDoorSBV
import Derived.Test.YtphhhnjeojdnkaaGreatDoorSBW
import Derived.Test.YtphhhnjeojdnkaaGreatDoorSBX
import Derived.Test.YtphhhnjeojdnkaaGreatDoorSBY
import Derived.Test.YtphhhnjeojdnkaaGreatDoorTie
set_option linter.unusedSectionVars false
set_option linter.unusedVariables false
set_option linter.unusedSimpArgs false
namespace Go.Proofs.YtphhhnjeojdnkaaGreatDoor
open Go.ChangeShapes Go.WideShapes Go.ChangeAt Go.RowKit Go.Deep Go.Joins
theorem scriptBatches_card : Rows.ScriptBatchesCardSaid :=
  Claim7.holds_tied_plain_at .later [] [.data, .pinned] true (true, "ec4c26b81462aaaa755da6855442c4c942e93344a7ed4f706c4875ca261e1b65") true scriptBatches_holds (fun _ h => by cases h) cardSB_wf (fun _ h => by cases h) scriptBatches_row_tie rfl ⟨rfl, rfl⟩ cardSB_main rfl
    (fun f fn hf hfn => by
      obtain rfl : f = 4 := Option.some.inj (cardSB_named.symm.trans hf) |>.symm
      obtain rfl : fn = Tryz.f4 := (Option.some.inj (Tryz.func4.symm.trans hfn)).symm
      exact ⟨cardSB_looks, fun j t ht => by
        rw [Tryz.params4] at ht
        have hm : t ∈ [3, 3, 3, 3] := by simpa using Array.mem_of_getElem? ht
        exact (show Tryz.prog.wantsStandIn t = false by simpa using List.all_eq_true.1 cardSB_want t hm)⟩)
    cardSB_goes
end Go.Proofs.YtphhhnjeojdnkaaGreatDoor
