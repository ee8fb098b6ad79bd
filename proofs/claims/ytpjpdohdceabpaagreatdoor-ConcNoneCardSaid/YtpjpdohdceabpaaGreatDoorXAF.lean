/-
  The given calls at this program: maps.Clone, at its two instances.
-/
import Derived.Test.YtpjpdohdceabpaaGreatDoorXAE
import Derived.Test.YtpjpdohdceabpaaGreatDoorXAD
import Derived.Shelf.SlMaps.Clone
import Derived.Shelf.Lay
import Derived.Shelf.LaySoft
import Derived.Ground.SlmcProg
set_option linter.unusedSectionVars false
set_option linter.unusedVariables false
set_option linter.unusedSimpArgs false
set_option maxRecDepth 100000
set_option maxHeartbeats 8000000
namespace Go.Proofs
open Go.Shelf
def Tryz.cloneII_ren : Go.Shelf.Ren := ⟨fun | 5 => 65 | 7 => 115 | n => n, fun | 23 => 71 | 25 => 3 | 3 => 3 | 4 => 4 | 20 => 20 | n => n, fun | n => n⟩
theorem Tryz.cloneII : Go.Proofs.SlLaysW.n5 Tryz.prog Tryz.cloneII_ren := {
  mixed := by kernel_rfl
  f5 := ⟨Tryz.f65.name, by decide, Tryz.func65.trans (congrArg some (by kernel_rfl))⟩
  f7 := Tryz.func115.trans (congrArg some (by kernel_rfl))
  t4 := Tryz.underlying4
  a4 := Tryz.isAgg4
  z4 := Tryz.sizeOf4
  v4 := Tryz.zeroValue4
  t20 := Tryz.underlying20
  a20 := Tryz.isAgg20
  z20 := Tryz.sizeOf20
  v20 := Tryz.zeroValue20
  t23 := Tryz.underlying71
  a23 := Tryz.isAgg71
  z23 := Tryz.sizeOf71
  v23 := Tryz.zeroValue71 }
def Tryz.cloneSS_ren : Go.Shelf.Ren := ⟨fun | 5 => 122 | 7 => 115 | n => n, fun | 23 => 183 | 25 => 9 | 3 => 168 | 4 => 4 | 20 => 20 | n => n, fun | n => n⟩
theorem Tryz.cloneSS : Go.Proofs.SlLaysW.n5 Tryz.prog Tryz.cloneSS_ren := {
  mixed := by kernel_rfl
  f5 := ⟨Tryz.f122.name, by decide, Tryz.func122.trans (congrArg some (by kernel_rfl))⟩
  f7 := Tryz.func115.trans (congrArg some (by kernel_rfl))
  t4 := Tryz.underlying4
  a4 := Tryz.isAgg4
  z4 := Tryz.sizeOf4
  v4 := Tryz.zeroValue4
  t20 := Tryz.underlying20
  a20 := Tryz.isAgg20
  z20 := Tryz.sizeOf20
  v20 := Tryz.zeroValue20
  t23 := Tryz.underlying183
  a23 := Tryz.isAgg183
  z23 := Tryz.sizeOf183
  v23 := Tryz.zeroValue183 }
end Go.Proofs
namespace Go.Proofs.YtpjpdohdceabpaaGreatDoor
open Go.RowKit Go.Shelf
theorem enters65 : Enters Tryz.prog 65 := enters_of Tryz.func65 (by kernel_rfl) rfl
theorem enters122 : Enters Tryz.prog 122 := enters_of Tryz.func122 (by kernel_rfl) rfl
noncomputable def PR0 : V.Prims := V.addC 65 (V.cloneE 65) V.noPrims
theorem PR0ok : V.PrimsOK Tryz.prog 400 PR0 := V.addC_ok V.noPrims_ok (V.cloneE_ok (fun a w => enters65 #[a] w) fun b es clock w hb => AnyW.maps_Clone Tryz.cloneII b es clock w hb)
noncomputable def PR : V.Prims := V.addC 122 (V.cloneE 122) PR0
theorem PRok : V.PrimsOK Tryz.prog 400 PR := V.addC_ok PR0ok (V.cloneE_ok (fun a w => enters122 #[a] w) fun b es clock w hb => AnyW.maps_Clone Tryz.cloneSS b es clock w hb)
end Go.Proofs.YtpjpdohdceabpaaGreatDoor
