/-
  The card of ScriptParses.
-/
import Derived.Test.YtphhhnjeojdnkaaGreatDoorSPAW
import Derived.Test.YtphhhnjeojdnkaaGreatDoorSPAX
import Derived.Test.YtphhhnjeojdnkaaGreatDoorSPAY
import Derived.Test.YtphhhnjeojdnkaaGreatDoorSPAZ
import Derived.Test.YtphhhnjeojdnkaaGreatDoorTie
set_option linter.unusedSectionVars false
set_option linter.unusedVariables false
set_option linter.unusedSimpArgs false
set_option maxRecDepth 100000
set_option maxHeartbeats 8000000
namespace Go.Proofs.YtphhhnjeojdnkaaGreatDoor
open Go.ChangeShapes Go.WideShapes Go.ChangeAt Go.RowKit Go.Deep Go.Joins
theorem scriptParses_card : Rows.ScriptParsesCardSaid :=
  Claim7.holds_tied_plain_at .later [] [.data, .pinned] true (true, "ec4c26b81462aaaa755da6855442c4c942e93344a7ed4f706c4875ca261e1b65") true scriptParses_holds (fun _ h => by cases h) cardSP_wf (fun _ h => by cases h) scriptParses_row_tie rfl ⟨rfl, rfl⟩ cardSP_main rfl
    (fun f fn hf hfn => by
      obtain rfl : f = 3 := Option.some.inj (cardSP_named.symm.trans hf) |>.symm
      obtain rfl : fn = Tryz.f3 := (Option.some.inj (Tryz.func3.symm.trans hfn)).symm
      exact ⟨cardSP_looks, fun j t ht => by
        rw [Tryz.params3] at ht
        have hm : t ∈ [22, 3] := by simpa using Array.mem_of_getElem? ht
        exact (show Tryz.prog.wantsStandIn t = false by simpa using List.all_eq_true.1 cardSP_want t hm)⟩)
    cardSP_goes
end Go.Proofs.YtphhhnjeojdnkaaGreatDoor
