/-
  known() returns true.
-/
import Derived.Test.YtkdegiobhgjghaaGreatDoorPF
set_option linter.unusedSectionVars false
set_option linter.unusedVariables false
set_option linter.unusedSimpArgs false
namespace Go.Proofs.YtkdegiobhgjghaaGreatDoor
open Go.RowKit
def knownR : V.Res := ⟨.bool true, G0, 1730, []⟩
theorem known_run : V.callT Tryz.prog 400 MM tabKF3 2000 100 5 [] G0 400 = .ok knownR := by kernel_rfl
theorem known_body : ((Tryz.prog.funcs[5]?).bind Func.body).isSome = true := by kernel_rfl
theorem known_memo : V.MemoOKG Tryz.prog 400 5 ⟨⟨.bool true, [], 1730, []⟩, G0⟩ :=
  V.memoG_of (V.callT_ok mixed_ok funcs_ok MMok tabKF3_ok 2000 100) funcs_ok (by kernel_rfl) known_run rfl rfl known_body
theorem known_true {w : World} (hs : V.Sat 400 V.still (V.lk G0) w ∧ V.WF 400 (V.lk G0) 400) : Calls Tryz.prog 5 #[] w (Ret w (IsB true)) :=
  V.trueH (V.callT_ok mixed_ok funcs_ok MMok tabKF3_ok 2000 100) funcs_ok (by rw [known_run]; rfl) rfl known_body hs
noncomputable def MK : V.MemoG := V.addM 5 ⟨⟨.bool true, [], 1730, []⟩, G0⟩ MM
theorem MKok : V.MemosG Tryz.prog 400 MK := V.addM_ok MMok known_memo
end Go.Proofs.YtkdegiobhgjghaaGreatDoor
