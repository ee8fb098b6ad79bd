/-
  known() returns true.
-/
import Derived.Test.YtphhhnjeojdnkaaGreatDoorSPAK
set_option linter.unusedSectionVars false
set_option linter.unusedVariables false
set_option linter.unusedSimpArgs false
set_option maxRecDepth 100000
set_option maxHeartbeats 8000000
namespace Go.Proofs.YtphhhnjeojdnkaaGreatDoor
open Go.RowKit
theorem known_runs : V.isTrue (V.callT Tryz.prog 400 MM tabKS8 2000 100 6 [] [] 400) = true := by kernel_rfl
theorem known_body : ((Tryz.prog.funcs[6]?).bind Func.body).isSome = true := by kernel_rfl
theorem known_true (w : World) : Calls Tryz.prog 6 #[] w (Ret w (IsB true)) :=
  V.true_of (V.callT_ok mixed_ok funcs_ok MMok tabKS8_ok 2000 100) funcs_ok known_runs rfl known_body w
end Go.Proofs.YtphhhnjeojdnkaaGreatDoor
