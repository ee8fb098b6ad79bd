/-
  strings.Index of "tea" and two spaces: -1, whatever bytealg.MaxLen holds.
-/
import Derived.Test.YtapplibdoioojaaGreatDoorQE
import Derived.Test.YtapplibdoioojaaGreatDoorQD
import Derived.Lib.IndexEntry
import Derived.Laws.StandIn
set_option linter.unusedSectionVars false
set_option linter.unusedVariables false
set_option linter.unusedSimpArgs false
namespace Go.Proofs.YtapplibdoioojaaGreatDoor
open Go.RowKit
def teaS : Value := .string ⟨⟨[116, 101, 97]⟩⟩
def twoS : Value := .string ⟨⟨[32, 32]⟩⟩
theorem run_idx (w : World) (k : Int) (h : w.cell? ⟨1, 0, none⟩ = some (.int .i64 k)) (hk : 2 ≤ k) : (callFunc 145 #[.string ⟨⟨[116, 101, 97]⟩⟩, .string ⟨⟨[32, 32]⟩⟩]).run Tryz.prog w = .ok (.value (.int .i64 (-1))) w := by
  rw [run_callFunc_standIn (e := Extern.BytealgIndex.index) Tryz.func145 (by kernel_rfl) (by kernel_rfl) (by kernel_rfl) (by kernel_rfl),
    Lib.run_indexString ⟨⟨[116, 101, 97]⟩⟩ ⟨⟨[32, 32]⟩⟩ w 1 k (by kernel_rfl) h (by decide) (show ((2 : Nat) : Int) ≤ k from hk) (by decide)]
  have e : Lib.index [116, 101, 97] [32, 32] = -1 := by decide
  show (Result.ok (Value.int .i64 (Lib.index [116, 101, 97] [32, 32])) w).andThen _ = _
  rw [e]
  rfl
theorem run_idb (w : World) : (callFunc 239 #[.string ⟨⟨[101]⟩⟩, .int .u8 32]).run Tryz.prog w = .ok (.value (.int .i64 (-1))) w := by kernel_rfl
theorem idb (w : World) : Calls Tryz.prog 196 #[.string ⟨⟨[101]⟩⟩, .int .u8 32] w (Ret w (Is (.int .i64 (-1)))) := by
  have h1 := run_idb
  go_enter Tryz.func196, Tryz.ntmps196
  go_wp2
  go_ret
  exact ⟨_, rfl, Below.refl _ _, rfl⟩
set_option maxRecDepth 100000 in
theorem index_tea (w : World) (k : Int) (e : TypeId) (fr : Nat × Nat) (hk : w.heap[1]? = some (.cells #[.int .i64 k] e fr)) :
    Calls Tryz.prog 141 #[.string ⟨⟨[116, 101, 97]⟩⟩, .string ⟨⟨[32, 32]⟩⟩] w (Ret w (Is (.int .i64 (-1)))) := by
  have c1 : w.cell? ⟨1, 0, none⟩ = some (.int .i64 k) := by rw [cell_of_row w _ 0 _ e fr hk]; rfl
  by_cases h : 2 ≤ k
  · have h1 := run_idx w k c1 h
    have d1 : decide (2 ≤ k) = true := decide_eq_true h
    clear h
    go_enter Tryz.func141, Tryz.ntmps141
    go_wp2
    go_ret
    exact ⟨_, rfl, Below.refl _ _, rfl⟩
  · have d1 : decide (2 ≤ k) = false := decide_eq_false h
    clear h
    go_enter Tryz.func141, Tryz.ntmps141
    go_wp2
    refine wp_loop_rounds 1 ?_
    rw [rounds_succ]
    go_wp2_with fail
    refine (idb _).mono ?_
    rintro _ w1 ⟨_, rfl, hb1, rfl⟩
    go_wp2
    go_ret
    exact ⟨_, rfl, hb1, rfl⟩
noncomputable def PU : V.Pure := V.addP 141 [.string ⟨⟨[116, 101, 97]⟩⟩, .string ⟨⟨[32, 32]⟩⟩] (.int .i64 (.negSucc 0)) 1 V.noPure
theorem PUok : V.PureOK Tryz.prog 400 PU := V.addP_ok V.noPure_ok ⟨by decide, by kernel_rfl, by kernel_rfl, fun w => by
  simp [go_sem], fun w k e fr hk => index_tea w k e fr hk⟩
end Go.Proofs.YtapplibdoioojaaGreatDoor
