/-
  known() returns true (with given calls).
-/
import Derived.Test.YtpjpdohdceabpaaGreatDoorXAO
set_option linter.unusedSectionVars false
set_option linter.unusedVariables false
set_option linter.unusedSimpArgs false
set_option maxRecDepth 100000
set_option maxHeartbeats 8000000
namespace Go.Proofs.YtpjpdohdceabpaaGreatDoor
open Go.RowKit
def knownR : V.Res := ⟨.bool true, G0, 4587, []⟩
theorem known_run : V.callR Tryz.prog 400 MM V.noPure PR tabKN28 2000 100 5 [] G0 400 = .ok knownR := by kernel_rfl
theorem known_body : ((Tryz.prog.funcs[5]?).bind Func.body).isSome = true := by kernel_rfl
theorem known_true {w : World} (hs : V.Sat 400 V.still (V.lk G0) w ∧ V.WF 400 (V.lk G0) 400) : Calls Tryz.prog 5 #[] w (Ret w (IsB true)) :=
  V.trueH (V.callR_ok mixed_ok funcs_ok MMok V.noPure_ok PRok tabKN28_ok 2000 100) funcs_ok (by rw [known_run]; rfl) rfl known_body hs
end Go.Proofs.YtpjpdohdceabpaaGreatDoor
