/-
  The closed facts of the row fairStepsRow, together.
-/
import Derived.Test.YthnbhjpahlceeaaGreatDoorTJ
import Derived.Test.YthnbhjpahlceeaaGreatDoorTK
import Derived.Test.YthnbhjpahlceeaaGreatDoorTL
import Derived.Test.YthnbhjpahlceeaaGreatDoorTM
import Derived.JoinedOf
set_option maxRecDepth 100000
set_option maxHeartbeats 8000000
set_option linter.unusedSectionVars false
set_option linter.unusedVariables false
set_option linter.unusedSimpArgs false
set_option maxRecDepth 100000
set_option maxHeartbeats 8000000
namespace Go.Proofs.YthnbhjpahlceeaaGreatDoor
open Go.ChangeShapes Go.WideShapes Go.ChangeAt Go.RowKit Go.Deep Go.Joins
set_option maxRecDepth 100000
theorem Bf {a b:Bool} (h:a=true) (k:b=true):(a&&b)=true:=by rw[h,k];rfl
theorem Ak1:joinedFacts Tryz.pinned.checked.prog 3 Tryz.f3 Rows.fairStepsSpec Rows.fairStepsRow=true:=by
 unfold joinedFacts
 exact(Bf (Bf (Bf (Bf (Bf (Bf (Bf (Bf (Bf (Bf (Bf (Bf (Bf (Bf (Bf (Bf (Bf (Bf (Bf (Bf (Bf (Bf (Bf (Bf (Bf (Bf (Bf (Bf (Bf (Bf (Bf Aoe Amj) Anj) Anm) Aob) Aol) Amf) Am6) Aos) Al3) Ah8) Akq) Ahf) Ajl) Aia) Ajw) Akn) Aip) Aik) Aja) Akl) Aim) Ahl) Ahm) Aj1) Ah0) Akt) Ako) Aji) Ai7) Ah1) Ag2)
theorem Alv:Tryz.pinned.checked.prog.funcNamed Rows.fairStepsRow.func=some 3:=by kernel_rfl
end Go.Proofs.YthnbhjpahlceeaaGreatDoor
