/-
  The memo of the check sum's table.
-/
import Derived.Test.YtphhhnjeojdnkaaGreatDoorSPAE
import Derived.Test.YtphhhnjeojdnkaaGreatDoorSPAD
set_option linter.unusedSectionVars false
set_option linter.unusedVariables false
set_option linter.unusedSimpArgs false
set_option maxRecDepth 100000
set_option maxHeartbeats 8000000
namespace Go.Proofs.YtphhhnjeojdnkaaGreatDoor
open Go.RowKit
theorem made_body : ((Tryz.prog.funcs[106]?).bind Func.body).isSome = true := by kernel_rfl
theorem made_memo : V.MemoOK Tryz.prog 400 106 madeR := V.memo_of (V.callF_ok mixed_ok funcs_ok V.noMemos 2000 20) funcs_ok made_runs made_body
noncomputable def MM : V.MemoG := V.addM 106 ⟨madeR, []⟩ V.noMemoG
theorem MMok : V.MemosG Tryz.prog 400 MM := V.addM_ok V.noMemosG (V.memoG_of_old made_memo)
end Go.Proofs.YtphhhnjeojdnkaaGreatDoor
