/-
  known() returns true.
-/
import Derived.Test.YthoacbdoogpaiaaGreatDoorWH
set_option linter.unusedSectionVars false
set_option linter.unusedVariables false
set_option linter.unusedSimpArgs false
namespace Go.Proofs.YthoacbdoogpaiaaGreatDoor
open Go.RowKit
theorem known_runs : V.isTrue (V.callT Tryz.prog 400 MM tabKS5 2000 100 7 [] [] 400) = true := by kernel_rfl
theorem known_body : ((Tryz.prog.funcs[7]?).bind Func.body).isSome = true := by kernel_rfl
theorem known_true (w : World) : Calls Tryz.prog 7 #[] w (Ret w (IsB true)) :=
  V.true_of (V.callT_ok mixed_ok funcs_ok MMok tabKS5_ok 2000 100) funcs_ok known_runs rfl known_body w
end Go.Proofs.YthoacbdoogpaiaaGreatDoor
