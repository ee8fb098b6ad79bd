/-
  Closed facts of the card of FairSteps: three.
-/
import Derived.Test.YthnbhjpahlceeaaGreatDoorTI
import Derived.Test.YthnbhjpahlceeaaGreatDoorCards
import Derived.SevenTiedAt
set_option maxRecDepth 100000
set_option maxHeartbeats 8000000
set_option linter.unusedSectionVars false
set_option linter.unusedVariables false
set_option linter.unusedSimpArgs false
set_option maxRecDepth 100000
set_option maxHeartbeats 8000000
namespace Go.Proofs.YthnbhjpahlceeaaGreatDoor
open Go.ChangeShapes Go.WideShapes Go.ChangeAt Go.RowKit Go.Deep Go.Joins
set_option maxRecDepth 100000
theorem Uv {P:Program} (h:P.funcs.toList.any Func.goes=false) (f:FuncId):P.goes f=false:=by
 have key:∀ g:FuncId,((P.funcs[g]?).any Func.goes)=false:=fun g=>by
  cases hg:P.funcs[g]? with
  | none=>rfl
  | some fn=>
   have hm:fn∈P.funcs.toList:=by
    have:=Array.mem_of_getElem? hg
    simpa using this
   have:=List.any_eq_false.1 h fn hm
   simpa using this
 have h2:P.funcs.any Func.goes=false:=by rw[<-Array.any_toList];exact h
 unfold Program.goes
 rw[h2,Bool.and_false,Bool.or_false,List.any_eq_false]
 intro g _
 rw[key g]
 simp
theorem Yj {P:Program} (h:P.funcs.toList.any Func.goes=false) (c:OpenClaim):c.goesBy P=false:=by
 unfold OpenClaim.goesBy Program.goesAt Program.goesFrom
 have h1:(P.funcNamed c.func).any P.goes=false:=by
  cases P.funcNamed c.func with
  | none=>rfl
  | some f=>exact Uv h f
 rw[h1,Bool.false_or]
 cases c.start with
 | entering=>rfl
 | _=>exact List.any_eq_false.2 fun g _=>by rw[Uv h g];simp
theorem Aaj:Tryz.prog.funcs.toList.any Func.goes=false:=by kernel_rfl
theorem Xx:false=Rows.fairStepsRow.goesBy Tryz.prog:=(Yj Aaj _).symm
end Go.Proofs.YthnbhjpahlceeaaGreatDoor
