/-
  The card of ConcNone.
-/
import Derived.Test.YtpjpdohdceabpaaGreatDoorXAW
import Derived.Test.YtpjpdohdceabpaaGreatDoorXAX
import Derived.Test.YtpjpdohdceabpaaGreatDoorXAY
import Derived.Test.YtpjpdohdceabpaaGreatDoorXAZ
import Derived.Test.YtpjpdohdceabpaaGreatDoorTie
set_option linter.unusedSectionVars false
set_option linter.unusedVariables false
set_option linter.unusedSimpArgs false
set_option maxRecDepth 100000
set_option maxHeartbeats 8000000
namespace Go.Proofs.YtpjpdohdceabpaaGreatDoor
open Go.ChangeShapes Go.WideShapes Go.ChangeAt Go.RowKit Go.Deep Go.Joins
theorem concNone_card : Rows.ConcNoneCardSaid :=
  Claim7.holds_tied_plain_at .later [] [.data, .data, .data, .pinned] true (true, "3287dc79f97acbef3eee3f04411755e57ecf72968c21ded429e35e0bccc5090a") true concNone_holds (fun _ h => by cases h) cardCN_wf (fun _ h => by cases h) concNone_row_tie rfl ⟨rfl, rfl⟩ cardCN_main rfl
    (fun f fn hf hfn => by
      obtain rfl : f = 3 := Option.some.inj (cardCN_named.symm.trans hf) |>.symm
      obtain rfl : fn = Tryz.f3 := (Option.some.inj (Tryz.func3.symm.trans hfn)).symm
      exact ⟨cardCN_looks, fun j t ht => by
        rw [Tryz.params3] at ht
        have hm : t ∈ [3, 25] := by simpa using Array.mem_of_getElem? ht
        exact (show Tryz.prog.wantsStandIn t = false by simpa using List.all_eq_true.1 cardCN_want t hm)⟩)
    cardCN_goes
end Go.Proofs.YtpjpdohdceabpaaGreatDoor
