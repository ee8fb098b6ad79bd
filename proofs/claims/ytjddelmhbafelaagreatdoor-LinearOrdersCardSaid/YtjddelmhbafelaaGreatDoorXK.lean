/-
  known() returns true.
-/
import Derived.Test.YtjddelmhbafelaaGreatDoorXJ
set_option linter.unusedSectionVars false
set_option linter.unusedVariables false
set_option linter.unusedSimpArgs false
namespace Go.Proofs.YtjddelmhbafelaaGreatDoor
open Go.RowKit
theorem known_run : V.isTrue (V.callT Tryz.prog 400 MM tabKL22 2000 100 6 [] G0 400) = true := by kernel_rfl
theorem known_body : ((Tryz.prog.funcs[6]?).bind Func.body).isSome = true := by kernel_rfl
theorem known_true {w : World} (hs : V.Sat 400 V.still (V.lk G0) w ∧ V.WF 400 (V.lk G0) 400) : Calls Tryz.prog 6 #[] w (Ret w (IsB true)) :=
  V.trueH (V.callT_ok mixed_ok funcs_ok MMok tabKL22_ok 2000 100) funcs_ok known_run rfl known_body hs
end Go.Proofs.YtjddelmhbafelaaGreatDoor
