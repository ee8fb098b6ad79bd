/-
  Words on memory: slices that read as lists of dots, results of calls, worlds that only grow.
-/
import Derived.Test.YtpjpdohdceabpaaGreatDoorProg
import Derived.WalkKit
import Derived.WalkSpells
import Derived.WalkLawsBesides
import Derived.Lib.Hide
import Derived.Outline
import Derived.Deep.QuietTactic
import Derived.BigQuiet
import Derived.Deep.Draws
import Derived.Deep.RegionHeld3
import Derived.Deep.DeepCutAuto
import Derived.Handy
import Derived.Shelf.Abstract
set_option linter.unusedSectionVars false
set_option linter.unusedVariables false
set_option linter.unusedSimpArgs false
set_option maxRecDepth 100000
set_option maxHeartbeats 8000000
namespace Go.Proofs.YtpjpdohdceabpaaGreatDoor
open Go.RowKit
abbrev Dot := Int × Int
def Ret (w : World) (F : World -> Value -> Prop) (e : Ending) (w' : World) : Prop := ∃ v, e = .returned v ∧ Below w.heap.size w w' ∧ F w' v
def Is (x : Value) (_ : World) (v : Value) : Prop := v = x
abbrev IsB (b : Bool) := Is (.bool b)
theorem _root_.Go.RowKit.Below.le {a b c : World} (h : Below a.heap.size a b) (k : Below b.heap.size b c) : Below a.heap.size a c := h.trans (k.mono h.size)
theorem _root_.Go.RowKit.Below.drewN' {B : Nat} {a w : World} (h : Below B a w) (n : Nat) : Below B a (w.drewN n) := h.trans ⟨rfl, rfl, rfl, Nat.le_refl _, fun _ _ => rfl⟩
theorem cellKeep {w w1 : World} {a : Addr} {v : Value} (hb : Below w.heap.size w w1) (h : w.cell? a = some v) : w1.cell? a = some v := (hb.cell (World.block_lt_of_cell? w a h)).trans h
section
variable {w w' : World} {A : Option Addr} {n c : Nat} {l : List Dot}
end
def deq (a b : Dot) : Bool := a == b
theorem run_eql_dot (x y u v : Int) (w : World) : (binOp .eql 186 (.agg #[.int .i64 x, .int .i64 y]) (.agg #[.int .i64 u, .int .i64 v])).run Tryz.prog w = .ok (.bool (deq (x, y) (u, v))) w := by
  have e : deq (x, y) (u, v) = (decide (x = u) && decide (y = v)) := by unfold deq; rw [Bool.eq_iff_iff]; simp
  rw [e]
  simp [go_sem]
  by_cases h : x = u <;> by_cases h' : y = v <;> simp [h, h']
theorem run_neq_dot (x y u v : Int) (w : World) : (binOp .neq 186 (.agg #[.int .i64 x, .int .i64 y]) (.agg #[.int .i64 u, .int .i64 v])).run Tryz.prog w = .ok (.bool (!deq (x, y) (u, v))) w := by
  have e : deq (x, y) (u, v) = (decide (x = u) && decide (y = v)) := by unfold deq; rw [Bool.eq_iff_iff]; simp
  rw [e]
  simp [go_sem]
  by_cases h : x = u <;> by_cases h' : y = v <;> simp [h, h']
attribute [go_sem ↓] run_eql_dot run_neq_dot
end Go.Proofs.YtpjpdohdceabpaaGreatDoor

/-
  A region whose order is open, walked once, in the order of the text: each operation is given a property of its value that stays true while the world only grows;
  an operation may use the properties of those operations alone for which it waits. No order is followed, none is split on.
-/
namespace Go.Proofs.YtpjpdohdceabpaaGreatDoor
open Go.RowKit
class Grows (F : World -> Value -> Prop) : Prop where
  up : ∀ {w w' : World} {v : Value}, Below w.heap.size w w' -> F w v -> F w' v
instance (x : Value) : Grows (Is x) := ⟨fun _ h => h⟩
abbrev VT := World -> Value -> Prop
section
variable {P : Program} {ops : List Oper} {w0 : World} {a0 : Act} {Q : Exit -> Act -> World -> Prop}
theorem Oper.wp_noQ {o : Oper} {a : Act} {w : World} {K : Act -> World -> Prop} (h : o.wp P a w K (fun _ _ _ => False)) : o.wp P a w K Q := by
  unfold Oper.wp at *
  generalize (execOp a.eval o).run P w = r at *
  cases r with
  | ok n w' =>
    cases n <;> simp only [Oper.upon] at h ⊢ <;>
      first
        | exact h
        | exact Calls.mono h (fun e w'' he => by
            cases e with
            | returned v => exact he
            | panicked c => exact he.elim
            | outgrown => obtain ⟨_, _, hf⟩ := he; exact hf.elim)
  | halt x w' => cases x <;> simp only [Oper.upon] at h ⊢
def unlisted (listed : Array Bool) : Nat := listed.toList.countP (fun b => !b)
theorem unlisted_set {listed : Array Bool} {i : Nat} (h : listed[i]? = some false) : unlisted (listed.setIfInBounds i true) + 1 = unlisted listed := by
  obtain ⟨l⟩ := listed
  simp only [unlisted, List.setIfInBounds_toArray]
  simp only [List.getElem?_toArray] at h
  induction l generalizing i with
  | nil => simp at h
  | cons b l ih =>
    cases i with
    | zero => simp at h; subst h; simp
    | succ i => simp at h; simp [List.countP_cons]; have := ih h; omega
end
end Go.Proofs.YtpjpdohdceabpaaGreatDoor
