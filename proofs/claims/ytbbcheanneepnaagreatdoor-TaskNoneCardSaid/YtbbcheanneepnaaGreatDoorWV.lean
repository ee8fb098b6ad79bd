/-
  The card of TaskNone.
-/
import Derived.Test.YtbbcheanneepnaaGreatDoorWR
import Derived.Test.YtbbcheanneepnaaGreatDoorWS
import Derived.Test.YtbbcheanneepnaaGreatDoorWT
import Derived.Test.YtbbcheanneepnaaGreatDoorWU
import Derived.Test.YtbbcheanneepnaaGreatDoorTie
set_option linter.unusedSectionVars false
set_option linter.unusedVariables false
set_option linter.unusedSimpArgs false
namespace Go.Proofs.YtbbcheanneepnaaGreatDoor
open Go.ChangeShapes Go.WideShapes Go.ChangeAt Go.RowKit Go.Deep Go.Joins
set_option maxRecDepth 100000
theorem taskNone_card : Rows.TaskNoneCardSaid :=
  Claim7.holds_tied_plain_at .later [] [.data, .data, .data, .pinned] true (true, "7e497a33707cab738aa839470a6c3656c1c17badbdcb7dab390beca0e9cdf3cf") true taskNone_holds (fun _ h => by cases h) cardTN_wf (fun _ h => by cases h) taskNone_row_tie rfl ⟨rfl, rfl⟩ cardTN_main rfl
    (fun f fn hf hfn => by
      obtain rfl : f = 3 := Option.some.inj (cardTN_named.symm.trans hf) |>.symm
      obtain rfl : fn = Tryz.f3 := (Option.some.inj (Tryz.func3.symm.trans hfn)).symm
      exact ⟨cardTN_looks, fun j t ht => by
        rw [Tryz.params3] at ht
        have hm : t ∈ [3] := by simpa using Array.mem_of_getElem? ht
        exact (show Tryz.prog.wantsStandIn t = false by simpa using List.all_eq_true.1 cardTN_want t hm)⟩)
    cardTN_goes
end Go.Proofs.YtbbcheanneepnaaGreatDoor
