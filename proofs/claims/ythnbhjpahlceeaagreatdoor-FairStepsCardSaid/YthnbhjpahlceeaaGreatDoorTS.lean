/-
  The card of FairSteps.
-/
import Derived.Test.YthnbhjpahlceeaaGreatDoorTO
import Derived.Test.YthnbhjpahlceeaaGreatDoorTP
import Derived.Test.YthnbhjpahlceeaaGreatDoorTQ
import Derived.Test.YthnbhjpahlceeaaGreatDoorTR
import Derived.Test.YthnbhjpahlceeaaGreatDoorTie
set_option maxRecDepth 100000
set_option maxHeartbeats 8000000
set_option linter.unusedSectionVars false
set_option linter.unusedVariables false
set_option linter.unusedSimpArgs false
set_option maxRecDepth 100000
set_option maxHeartbeats 8000000
namespace Go.Proofs.YthnbhjpahlceeaaGreatDoor
open Go.ChangeShapes Go.WideShapes Go.ChangeAt Go.RowKit Go.Deep Go.Joins
theorem fairSteps_card:Rows.FairStepsCardSaid:=
 Claim7.holds_tied_plain_at .later [] [.data, .data, .data, .pinned] true (true, "02b6d8ed705211ead6e38009028c9996b041b67bf3fa86aa429578ddbfcf2ef2") true Pi (fun _ h => by cases h) Aeu (fun _ h => by cases h) fairSteps_row_tie rfl ⟨rfl, rfl⟩ Yf rfl
  (fun f fn hf hfn=>by
   obtain rfl:f=3:=Option.some.inj (cardFS_named.symm.trans hf) |>.symm
   obtain rfl:fn=Tryz.f3:=(Option.some.inj (Tryz.func3.symm.trans hfn)).symm
   exact⟨Vn,fun j t ht=>by
    rw[Tryz.params3] at ht
    have hm:t∈[25,3]:=by simpa using Array.mem_of_getElem? ht
    exact(show Tryz.prog.wantsStandIn t=false by simpa using List.all_eq_true.1 Xl t hm)⟩)
  Xx
end Go.Proofs.YthnbhjpahlceeaaGreatDoor
