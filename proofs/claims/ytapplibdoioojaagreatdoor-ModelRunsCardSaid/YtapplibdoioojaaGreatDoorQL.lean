/-
  known() returns true.
-/
import Derived.Test.YtapplibdoioojaaGreatDoorQK
set_option linter.unusedSectionVars false
set_option linter.unusedVariables false
set_option linter.unusedSimpArgs false
namespace Go.Proofs.YtapplibdoioojaaGreatDoor
open Go.RowKit
def G1 : V.AH := (1, .unk) :: G0
theorem known_run : V.isTrue (V.callP Tryz.prog 400 MM PU tabKM16 2000 100 8 [] G1 400) = true := by kernel_rfl
theorem known_body : ((Tryz.prog.funcs[8]?).bind Func.body).isSome = true := by kernel_rfl
theorem known_true {w : World} (hs : V.Sat 400 V.still (V.lk G1) w ∧ V.WF 400 (V.lk G1) 400) : Calls Tryz.prog 8 #[] w (Ret w (IsB true)) :=
  V.trueH (V.callP_ok mixed_ok funcs_ok MMok PUok tabKM16_ok 2000 100) funcs_ok known_run rfl known_body hs
end Go.Proofs.YtapplibdoioojaaGreatDoor
