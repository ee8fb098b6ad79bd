/-
  The given calls at this program: maps.Clone, at its two instances.
-/
import Derived.Test.YtpjpdohdceabpaaGreatDoorXAE
import Derived.Test.YtpjpdohdceabpaaGreatDoorXAD
import Derived.Shelf.SlMaps.Clone
import Derived.Shelf.Lay
import Derived.Shelf.LaySoft
import Derived.Ground.SlmcProg
set_option linter.unusedSectionVars false
set_option linter.unusedVariables false
set_option linter.unusedSimpArgs false
set_option maxRecDepth 100000
set_option maxHeartbeats 8000000
namespace Go.Proofs.YtpjpdohdceabpaaGreatDoor
open Go.RowKit Go.Shelf
shelf_try shelf_lay_g SlLaysW.n5 Slmc 5 at Tryz 65 as Tryz.cloneII
shelf_try shelf_lay_g SlLaysW.n5 Slmc 5 at Tryz 122 as Tryz.cloneSS
theorem enters65 : Enters Tryz.prog 65 := enters_of Tryz.func65 (by kernel_rfl) rfl
theorem enters122 : Enters Tryz.prog 122 := enters_of Tryz.func122 (by kernel_rfl) rfl
noncomputable def PR0 : V.Prims := V.addC 65 (V.cloneE 65) V.noPrims
theorem PR0ok : V.PrimsOK Tryz.prog 400 PR0 := V.addC_ok V.noPrims_ok (V.cloneE_ok (fun a w => enters65 #[a] w) fun b es clock w hb => AnyW.maps_Clone Tryz.cloneII b es clock w hb)
noncomputable def PR : V.Prims := V.addC 122 (V.cloneE 122) PR0
theorem PRok : V.PrimsOK Tryz.prog 400 PR := V.addC_ok PR0ok (V.cloneE_ok (fun a w => enters122 #[a] w) fun b es clock w hb => AnyW.maps_Clone Tryz.cloneSS b es clock w hb)
end Go.Proofs.YtpjpdohdceabpaaGreatDoor
