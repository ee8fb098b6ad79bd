/-
  TaskNone at each number of stripes from 1 to 4.
-/
import Derived.Test.YtbbcheanneepnaaGreatDoorWI
set_option linter.unusedSectionVars false
set_option linter.unusedVariables false
set_option linter.unusedSimpArgs false
namespace Go.Proofs.YtbbcheanneepnaaGreatDoor
open Go.RowKit
theorem none_run1 : V.isTrue (V.callT Tryz.prog 400 MK V.noTab 2000 100 3 [.int .i64 (.ofNat 1)] G0 400) = true := by kernel_rfl
theorem none_run2 : V.isTrue (V.callT Tryz.prog 400 MK V.noTab 2000 100 3 [.int .i64 (.ofNat 2)] G0 400) = true := by kernel_rfl
theorem none_run3 : V.isTrue (V.callT Tryz.prog 400 MK V.noTab 2000 100 3 [.int .i64 (.ofNat 3)] G0 400) = true := by kernel_rfl
theorem none_run4 : V.isTrue (V.callT Tryz.prog 400 MK V.noTab 2000 100 3 [.int .i64 (.ofNat 4)] G0 400) = true := by kernel_rfl
end Go.Proofs.YtbbcheanneepnaaGreatDoor
