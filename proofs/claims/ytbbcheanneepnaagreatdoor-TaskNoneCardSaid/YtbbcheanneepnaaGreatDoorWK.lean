/-
  TaskNone at each number of stripes from 5 to 8.
-/
import Derived.Test.YtbbcheanneepnaaGreatDoorWJ
set_option linter.unusedSectionVars false
set_option linter.unusedVariables false
set_option linter.unusedSimpArgs false
namespace Go.Proofs.YtbbcheanneepnaaGreatDoor
open Go.RowKit
theorem none_run5 : V.isTrue (V.callT Tryz.prog 400 MK V.noTab 2000 100 3 [.int .i64 (.ofNat 5)] G0 400) = true := by kernel_rfl
theorem none_run6 : V.isTrue (V.callT Tryz.prog 400 MK V.noTab 2000 100 3 [.int .i64 (.ofNat 6)] G0 400) = true := by kernel_rfl
theorem none_run7 : V.isTrue (V.callT Tryz.prog 400 MK V.noTab 2000 100 3 [.int .i64 (.ofNat 7)] G0 400) = true := by kernel_rfl
theorem none_run8 : V.isTrue (V.callT Tryz.prog 400 MK V.noTab 2000 100 3 [.int .i64 (.ofNat 8)] G0 400) = true := by kernel_rfl
end Go.Proofs.YtbbcheanneepnaaGreatDoor
