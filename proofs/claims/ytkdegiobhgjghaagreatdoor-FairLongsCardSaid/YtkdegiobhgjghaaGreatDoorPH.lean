/-
  PLAIN: how long calls take in a trace; a map of when they were asked for.
-/
import Derived.Test.YtkdegiobhgjghaaGreatDoorPA
import Derived.Maps.RangeWalk
import Derived.Maps.OwnOps
import Derived.Maps.OwnSet
import Derived.Deep.MidRow
import Derived.Laws.MakeOwn
import Derived.Test.YtkdegiobhgjghaaGreatDoorPG
import Derived.Test.YtkdegiobhgjghaaGreatDoorRows
import Derived.ProofKit
import Derived.WideKeyArgs
import Derived.Deep.SlicePairs
import Derived.Lib.SmallJoins
import Derived.KernelRfl
set_option linter.unusedSectionVars false
set_option linter.unusedVariables false
set_option linter.unusedSimpArgs false
namespace Go.Proofs.YtkdegiobhgjghaaGreatDoor
open Go.RowKit Go.Maps

/-- A task, and its step. -/
abbrev TS := Int × Int
/-- The last of the first k steps in which a call of a task was asked for. -/
def lastC (f : Nat → TS) (t : Int) : Nat → Option Nat
  | 0 => none
  | k + 1 => if (f k).1 = t ∧ (f k).2 = 1 then some k else lastC f t k
def more (m : Int) (k : Nat) : Option Nat → Int
  | some j => max m ((k : Int) - j)
  | none => m
/-- How long the call takes that takes longest, of the first k steps. -/
def long (f : Nat → TS) : Nat → Int
  | 0 => 0
  | k + 1 => if (f k).2 = 6 then more (long f k) k (lastC f (f k).1 k) else long f k
theorem lastC_lt {f : Nat → TS} {t : Int} : ∀ {k j : Nat}, lastC f t k = some j → j < k ∧ (f j).1 = t ∧ (f j).2 = 1
  | 0, j, h => by cases h
  | k + 1, j, h => by
    unfold lastC at h
    split at h
    · rename_i g
      cases h
      exact ⟨Nat.lt_succ_self _, g.1, g.2⟩
    · have := lastC_lt h
      exact ⟨by omega, this.2⟩
theorem more_le {m : Int} {k : Nat} {o : Option Nat} (h : 0 ≤ m ∧ m ≤ k) (ho : ∀ j, o = some j → j < k) : 0 ≤ more m k o ∧ more m k o ≤ k := by
  cases o with
  | none => exact h
  | some j =>
    have := ho j rfl
    show 0 ≤ max m ((k : Int) - j) ∧ max m ((k : Int) - j) ≤ k
    rw [Int.max_def]
    split <;> omega
theorem long_le (f : Nat → TS) : ∀ k, 0 ≤ long f k ∧ long f k ≤ k
  | 0 => by simp [long]
  | k + 1 => by
    have := long_le f k
    unfold long
    split
    · have := more_le this (fun j h => (lastC_lt h).1 : ∀ j, lastC f (f k).1 k = some j → j < k)
      omega
    · omega
/-- The last one asked for lies in front of, or at, k. -/
theorem lastC_back {f : Nat → TS} {t : Int} {i k : Nat} (hi : k < i) (h : ∀ j, k < j → j < i → ¬((f j).1 = t ∧ (f j).2 = 1)) : lastC f t i = lastC f t (k + 1) := by
  induction i with
  | zero => omega
  | succ i ih =>
    rcases Nat.lt_or_ge k i with hk | hk
    · have h1 := h i hk (Nat.lt_succ_self _)
      rw [lastC, if_neg h1]
      exact ih hk fun j h2 h3 => h j h2 (by omega)
    · have : k = i := by omega
      rw [this]
theorem lastC_none {f : Nat → TS} {t : Int} : ∀ {i : Nat}, (∀ j, j < i → ¬((f j).1 = t ∧ (f j).2 = 1)) → lastC f t i = none
  | 0, _ => rfl
  | i + 1, h => by
    rw [lastC, if_neg (h i (Nat.lt_succ_self _))]
    exact lastC_none fun j hj => h j (by omega)
abbrev DU := DataW Unit
abbrev numL (c : Int) : DU := .lit (.int .i64 c)
theorem numL_inj {a b : Int} (h : numL a = numL b) : a = b := by cases h; rfl
theorem key_int (x : Int) : WideAt.IsKeyLit (.int .i64 x) := trivial
structure AskedAt (D : DU) (f : Nat → TS) (k : Nat) : Prop where
  isMap : Maps.IsMap D
  keys : ∀ r, Maps.has D (.int .i64 r) = (lastC f r k).isSome
  vals : ∀ r j, lastC f r k = some j → D.atKey (.int .i64 r) (numL 0) = numL j
theorem AskedAt.nil_ (f : Nat → TS) : AskedAt (.map []) f 0 := ⟨Maps.isMap_empty, fun _ => rfl, fun _ _ h => nomatch h⟩
theorem AskedAt.skip {D : DU} {f : Nat → TS} {k : Nat} (h : AskedAt D f k) (hk : (f k).2 ≠ 1) : AskedAt D f (k + 1) := by
  have e : ∀ r, lastC f r (k + 1) = lastC f r k := fun r => by rw [lastC, if_neg (fun h => hk h.2)]
  exact ⟨h.isMap, fun r => by rw [e]; exact h.keys r, fun r j hj => h.vals r j (by rw [← e]; exact hj)⟩
theorem AskedAt.put {D : DU} {f : Nat → TS} {k : Nat} (h : AskedAt D f k) (hk : (f k).2 = 1) : AskedAt (D.put (.int .i64 (f k).1) (numL k)) f (k + 1) := by
  refine ⟨h.isMap.put _ _, fun r => ?_, fun r j hj => ?_⟩
  · by_cases e : r = (f k).1
    · subst e
      rw [Maps.has_put_same h.isMap (key_int _), lastC, if_pos ⟨rfl, hk⟩]; rfl
    · rw [Maps.has_put_other (fun h => e (by cases h; rfl)), h.keys r, lastC, if_neg (fun h => e h.1.symm)]
  · by_cases e : r = (f k).1
    · subst e
      rw [lastC, if_pos ⟨rfl, hk⟩] at hj
      cases hj
      rw [Maps.atKey_put_same h.isMap (key_int _)]
    · rw [lastC, if_neg (fun h => e h.1.symm)] at hj
      rw [Maps.atKey_put_other (fun h => e (by cases h; rfl)), h.vals r j hj]
/-- The trace of FairLongs. -/
theorem long_longs {f : Nat → TS} {a : Nat} (h0 : f 0 = (2, 1)) (ha : f (a + 1) = (2, 6)) (hf : ∀ i, i ≠ 0 → i ≠ a + 1 → f i = (1, 7)) : ∀ n, long f n = if a + 1 < n then (a : Int) + 1 else 0
  | 0 => by simp [long]
  | n + 1 => by
    have ih := long_longs h0 ha hf n
    have last : ∀ i, lastC f 2 (i + 1) = some 0 := by
      intro i
      induction i with
      | zero => rw [lastC, h0]; simp
      | succ i ih =>
        rw [lastC]
        by_cases e : i + 1 = a + 1
        · rw [e, ha]
          rw [e] at ih
          simpa using ih
        · rw [hf _ (by omega) e]
          simpa using ih
    unfold long
    by_cases e : n = a + 1
    · subst e
      rw [ha, if_pos rfl, last, ih, if_neg (by omega), if_pos (by omega)]
      show max (0 : Int) (((a + 1 : Nat) : Int) - ((0 : Nat) : Int)) = (a : Int) + 1
      rw [Int.max_def]
      split <;> omega
    · have hn : (f n).2 ≠ 6 := by
        by_cases e0 : n = 0
        · rw [e0, h0]; decide
        · rw [hf n e0 e]; decide
      rw [if_neg hn, ih]
      by_cases h : a + 1 < n
      · rw [if_pos h, if_pos (by omega)]
      · rw [if_neg h, if_neg (by omega)]
end Go.Proofs.YtkdegiobhgjghaaGreatDoor

/-
  Slices that are made at once and filled by stores: an element's cells, whatever they are.
-/
namespace Go.Proofs.YtkdegiobhgjghaaGreatDoor
open Go.RowKit

theorem rangeKeep {w w' : World} {b o : Nat} {cs : List Value} (h : w.rangeAt b o cs) (hb : Below w.heap.size w w') : w'.rangeAt b o cs := fun j v hj => cellKeep hb (h j v hj)
theorem thereKeep {w w' : World} {b o n : Nat} (h : w.there b o n) (hb : Below w.heap.size w w') : w'.there b o n := fun j hj => by
  obtain ⟨h1, h2⟩ := h j hj
  obtain ⟨v, hv⟩ := Option.isSome_iff_exists.1 h1
  exact ⟨by rw [cellKeep hb hv]; rfl, by rw [hb.frozen (p := ⟨b, o + j, none⟩) (World.block_lt_of_cell? w _ hv)]; exact h2⟩
theorem belowCells {W : World} {g : Nat} (hg : W.heap.size ≤ g) : ∀ (vs : List Value) (o : Nat) (w : World), Below W.heap.size W w → Below W.heap.size W (w.setCells g o vs)
  | [], _, _, h => h
  | v :: r, o, w, h => by
    rw [World.setCells]
    exact belowCells hg r (o + 1) _ (h.setCell (p := ⟨g, o, none⟩) hg v)
/-- n elements of z cells in a block that may be written: what they are. -/
structure Arr (w : World) (g n z : Nat) (f : Nat → List Value) : Prop where
  there : w.there g 0 (n * z)
  len : ∀ i, i < n → (f i).length = z
  at_ : ∀ i, i < n → w.rangeAt g (i * z) (f i)
section
variable {w w' : World} {g n z : Nat} {f : Nat → List Value}
theorem Arr.mono (h : Arr w g n z f) (hb : Below w.heap.size w w') : Arr w' g n z f := ⟨thereKeep h.there hb, h.len, fun i hi => rangeKeep (h.at_ i hi) hb⟩
theorem idx_le {i n z : Nat} (h : i < n) : i * z + z ≤ n * z := by
  have := Nat.mul_le_mul_right z (show i + 1 ≤ n from h)
  rw [Nat.add_mul] at this
  omega
theorem Arr.part (h : Arr w g n z f) {i : Nat} (hi : i < n) : w.there g (i * z) z := fun j hj => by
  have := h.there (i * z + j) (by have := idx_le (z := z) hi; omega)
  simpa [Nat.zero_add] using this
theorem Arr.store (h : Arr w g n z f) {i : Nat} (hi : i < n) {cs : List Value} (hc : cs.length = z) : Arr (w.setCells g (i * z) cs) g n z (fun j => if j = i then cs else f j) := by
  refine ⟨World.there_setCells h.there _ _ _, fun j hj => ?_, fun j hj => ?_⟩
  · show (if j = i then cs else f j).length = z
    split
    · exact hc
    · exact h.len j hj
  · show (w.setCells g (i * z) cs).rangeAt g (j * z) (if j = i then cs else f j)
    by_cases e : j = i
    · rw [if_pos e, e]
      exact World.rangeAt_setCells_same w g _ cs (by rw [hc]; exact h.part hi)
    · rw [if_neg e]
      refine World.rangeAt_setCells_apart (h.at_ j hj) g _ cs (.inr ?_)
      rw [h.len j hj, hc]
      rcases Nat.lt_or_ge j i with hlt | hge
      · exact .inl (idx_le hlt)
      · exact .inr (idx_le (show i < j by omega))
theorem Arr.congr {k : Nat → List Value} (h : Arr w g n z f) (e : ∀ i, i < n → k i = f i) : Arr w g n z k := ⟨h.there, fun i hi => by rw [e i hi]; exact h.len i hi, fun i hi => by rw [e i hi]; exact h.at_ i hi⟩
end
theorem madeCells_get (zc : Array Value) (hz : 0 < zc.size) (k j : Nat) (hj : j < k) : (madeCells zc k)[j]? = zc[j % zc.size]? := by
  have h1 : j % zc.size < zc.size := Nat.mod_lt _ hz
  simp [madeCells, hj, h1]
/-- Made: each element is the zero value. -/
theorem Arr.made (w : World) (zc : Array Value) (n : Nat) (e : TypeId) (hz : 0 < zc.size) : Arr (w.alloc (.cells (madeCells zc (n * zc.size)) e)) w.heap.size n zc.size (fun _ => zc.toList) := by
  have cell : ∀ j, j < n * zc.size → (w.alloc (.cells (madeCells zc (n * zc.size)) e)).cell? ⟨w.heap.size, j, none⟩ = zc[j % zc.size]? := fun j hj => by
    rw [cell_of_row _ _ _ _ e (0, 0) (heap_alloc_new w _), madeCells_get zc hz _ j hj]
  refine ⟨fun j hj => ⟨?_, ?_⟩, fun i _ => by simp, fun i hi j v hj => ?_⟩
  · rw [Nat.zero_add, cell j hj]
    have h1 : j % zc.size < zc.size := Nat.mod_lt _ hz
    simp [h1]
  · exact frozen_of_row _ _ _ _ e (heap_alloc_new w _)
  · have hjz : j < zc.size := by have := (List.getElem?_eq_some_iff.1 hj).1; simpa using this
    rw [cell _ (by have := idx_le (z := zc.size) hi; omega)]
    have e1 : (i * zc.size + j) % zc.size = j := by rw [Nat.mul_comm, Nat.mul_add_mod, Nat.mod_eq_of_lt hjz]
    rw [e1, ← Array.getElem?_toList]
    exact hj
end Go.Proofs.YtkdegiobhgjghaaGreatDoor

/-
  Traces in memory; fair.Longest.
-/
namespace Go.Proofs.YtkdegiobhgjghaaGreatDoor
open Go.RowKit Go.Maps

theorem lawI : Keyed Tryz.prog 3 := int_keyed Tryz.underlying3
theorem zeroI (w : World) : (zeroValue 3).run Tryz.prog w = .ok (.int .i64 0) w := by kernel_rfl
/-- A goal at which the walk stops. -/
def Halt (p : Prop) : Prop := p
theorem Halt.go {p : Prop} (h : Halt p) : p := h
theorem cast_world {P : Program} {Q : Exit → Act → World → Prop} {ops : Array Oper} {rest : List Oper} {a : Act} {W X : World} (e : W = X) (h : wpList P ops Q rest a W) : wpList P ops Q rest a X := e ▸ h
/-- The cells of a thing done: a task, a step, and sixteen more. -/
def did18 (s : TS) (v : Nat → Value) : List Value := [.int .i64 s.1, .int .i64 s.2, v 2, v 3, v 4, v 5, v 6, v 7, v 8, v 9, v 10, v 11, v 12, v 13, v 14, v 15, v 16, v 17]
/-- Each of them is one cell. -/
def OneV (v : Nat → Value) : Prop := ∀ j, (v j).oneCell' = true
structure Tr (w : World) (A : Option Addr) (n c : Nat) (f : Nat → TS) : Prop where
  cap : n ≤ c
  max : c ≤ maxLen
  nil : A = none → c = 0
  cell : ∀ i, i < n → ∃ b o v, A = some ⟨b, o, none⟩ ∧ w.rangeAt b (o + i * 18) (did18 (f i) v) ∧ OneV v
  wf : ∀ i, i < n → (Lit.int .i64 (f i).1).wf = true
section
variable {w w' : World} {A : Option Addr} {n c : Nat} {f : Nat → TS}
theorem Tr.mono (h : Tr w A n c f) (hb : Below w.heap.size w w') : Tr w' A n c f := ⟨h.cap, h.max, h.nil, fun i hi => let ⟨b, o, v, e, hr, h1⟩ := h.cell i hi; ⟨b, o, v, e, rangeKeep hr hb, h1⟩, h.wf⟩
theorem Tr.big (h : Tr w A n c f) : n ≤ 9223372036854775807 := by have := h.cap; have := h.max; unfold maxLen at this; omega
end
theorem add_lit' (b o j : Nat) : (⟨b, o, none⟩ : Addr).add j = ⟨b, o + j, none⟩ := Addr.add_mid b o j
theorem load_tr {w : World} {b o : Nat} {s : TS} {v : Nat → Value} (h : w.rangeAt b o (did18 s v)) : (Instr.loadAt 40 (.pointer (some ⟨b, o, none⟩))).run Tryz.prog w = .ok (.agg #[.int .i64 s.1, .int .i64 s.2, v 2, v 3, v 4, v 5, v 6, v 7, v 8, v 9, v 10, v 11, v 12, v 13, v 14, v 15, v 16, v 17]) w :=
  run_loadAt_mid (P := Tryz.prog) w b o 40 (did18 s v) _ h Tryz.underlying40 rfl (show (Tryz.prog.info? 40).map (·.size) = some 18 by kernel_rfl)
theorem did_one {s : TS} {v : Nat → Value} (h : OneV v) : (#[.int .i64 s.1, .int .i64 s.2, v 2, v 3, v 4, v 5, v 6, v 7, v 8, v 9, v 10, v 11, v 12, v 13, v 14, v 15, v 16, v 17] : Array Value).all (·.oneCell') = true := by
  have h2 : ∀ j, Value.oneCell' (v j) = true := h
  simp [show ∀ (a : Int), Value.oneCell' (.int .i64 a) = true from fun _ => rfl, h2]
theorem ownsMap_below {b n : Nat} {D : DU} {w w' : World} (h : w.ownsMap Tryz.prog 3 (plainElem Tryz.prog 3) b n D) (hb : Below w.heap.size w w') : w'.ownsMap Tryz.prog 3 (plainElem Tryz.prog 3) b n D := by
  have hlt := h.lt
  obtain ⟨es, clock, hb0, F, hs, hD⟩ := h
  exact ⟨es, clock, (hb.block b hlt).trans hb0, F, hs, hD⟩
theorem there_new (w : World) (zc : Array Value) (e : TypeId) : (w.alloc (.cells zc e)).there w.heap.size 0 zc.size := fun j hj => by
  rw [Nat.zero_add]
  exact ⟨by rw [cell_of_row _ _ _ _ e (0, 0) (heap_alloc_new w _)]; simp [hj], frozen_of_row _ _ _ _ e (heap_alloc_new w _)⟩
/-- A box that is made and filled at once. -/
theorem box_new (w : World) (zc : Array Value) (e : TypeId) (cs : List Value) (hl : zc.size = cs.length) :
    Below w.heap.size w ((w.alloc (.cells zc e)).setCells w.heap.size 0 cs) ∧ ((w.alloc (.cells zc e)).setCells w.heap.size 0 cs).rangeAt w.heap.size 0 cs :=
  ⟨belowCells (Nat.le_refl _) cs 0 _ ((Below.refl _ _).alloc (Nat.le_refl _) _), World.rangeAt_setCells_same _ _ _ cs (by rw [← hl]; exact there_new w zc e)⟩
theorem more_go {m : Int} {k j : Nat} {c0 : Int} (hm : 0 ≤ m ∧ m ≤ k) (hj : j < k) (hk : k ≤ 1000000) (hc : c0 = j) : (if m < wrap64 ((k : Int) - c0) then wrap64 ((k : Int) - c0) else m) = more m k (some j) := by
  subst hc
  have e : wrap64 ((k : Int) - j) = k - j := by unfold wrap64; omega
  show _ = max m ((k : Int) - j)
  rw [e, Int.max_def]
  split <;> split <;> omega
theorem more_go2 {m : Int} {k j : Nat} {c0 : Int} (hm : 0 ≤ m ∧ m ≤ k) (hj : j < k) (hk : k ≤ 1000000) (hc : c0 = j) : (if m < (k : Int) - c0 then (k : Int) - c0 else m) = more m k (some j) := by
  have := more_go hm hj hk hc
  rwa [show wrap64 ((k : Int) - c0) = k - c0 by subst hc; unfold wrap64; omega] at this
theorem more_go3 {m : Int} {k j : Nat} {c0 : Int} (hm : 0 ≤ m ∧ m ≤ k) (hj : j < k) (hk : k ≤ 1000000) (hc : c0 = j) : max m (wrap64 ((k : Int) - c0)) = more m k (some j) := by
  rw [show wrap64 ((k : Int) - c0) = k - j by subst hc; unfold wrap64; omega]
  rfl
theorem more_go4 {m : Int} {k j : Nat} {c0 : Int} (hm : 0 ≤ m ∧ m ≤ k) (hj : j < k) (hk : k ≤ 1000000) (hc : c0 = j) : max m ((k : Int) - c0) = more m k (some j) := by
  subst hc; rfl
theorem wf_small {k : Nat} (h : k ≤ 1000000) : (Lit.int .i64 (k : Int)).wf = true := WalkArith.wf_i64 (by omega)
def LRel (w : World) (n : Nat) (f : Nat → TS) (u i : Value) (wr : World) : Prop :=
  ∃ (k : Nat) (D : DU), i = .int .i64 k ∧ u = .int .i64 (long f k) ∧ k ≤ n ∧ wr.ownsMap Tryz.prog 3 (plainElem Tryz.prog 3) w.heap.size k D ∧ Below w.heap.size w wr ∧ AskedAt D f k
theorem cLongestLong (A : Option Addr) (n c : Nat) (w : World) (h : 100000 < n) (hn : n ≤ 9223372036854775807) :
    Calls Tryz.prog 10 #[.slice A n c] w (Ret w (Is (.tuple #[.int .i64 0, .int .i64 5]))) := by
  have d1 : decide ((100000 : Int) < (n : Int)) = true := decide_eq_true (by omega)
  go_enter Tryz.func10, Tryz.ntmps10
  go_wp2
  refine bodyPost_ret (v := .tuple #[.int .i64 0, .int .i64 5]) (by simp [results, Tryz.results10, go_sem]) rfl ?_
  exact ⟨_, rfl, Below.refl _ _, rfl⟩
end Go.Proofs.YtkdegiobhgjghaaGreatDoor

/-
  fair.Longest, of at most 100000 steps.
-/
namespace Go.Proofs.YtkdegiobhgjghaaGreatDoor
open Go.RowKit Go.Maps

set_option maxRecDepth 100000 in
set_option maxHeartbeats 4000000 in
theorem cLongest (A : Option Addr) (n c : Nat) (f : Nat → TS) (w : World) (h : Tr w A n c f) (hn : n ≤ 100000) :
    Calls Tryz.prog 10 #[.slice A n c] w (Ret w (Is (.tuple #[.int .i64 (long f n), .int .i64 0]))) := by
  have hmm := @run_makeMap Tryz.prog
  have d0 : decide ((100000 : Int) < (n : Int)) = false := decide_eq_false (by omega)
  have HN := Lib.hid hn
  have H := Lib.hid h; have HBG := h.big; clear h hn
  go_enter Tryz.func10, Tryz.ntmps10
  go_wp2
  clear d0
  go_loopw [5, 16] (fun u i wr => LRel w n f u i wr) (fun _ i _ => n - (intOf i).toNat)
  case atStart => exact ⟨0, .map [], rfl, rfl, Nat.zero_le _, World.ownsMap_made _ _ _ _, (Below.refl _ _).alloc (Nat.le_refl _) _, AskedAt.nil_ f⟩
  case round =>
    obtain ⟨k, D, rfl, rfl, hk, hown, hb, hm⟩ := hrel
    have OWN := Lib.hid hown; have HB := Lib.hid hb; have HM := Lib.hid hm
    clear hown hb hm
    by_cases hlt : k < n
    · obtain ⟨b, o, v, rfl, hr, hone⟩ := (H.out.mono HB.out).cell k hlt
      have ONE := Lib.hid hone
      have hbox := box_new wr #[.int .i64 0, .int .i64 0, .int .i64 0, .bool false, .int .i64 0, .slice none 0 0, .bool false, .int .i64 0, .string ⟨#[]⟩, .string ⟨#[]⟩, .string ⟨#[]⟩, .int .i64 0, .slice none 0 0, .int .i64 0, .int .i64 0, .int .i64 0, .slice none 0 0, .slice none 0 0] 40 (did18 (f k) v) rfl
      obtain ⟨W2, hW2⟩ : ∃ W2, W2 = (wr.alloc (.cells #[.int .i64 0, .int .i64 0, .int .i64 0, .bool false, .int .i64 0, .slice none 0 0, .bool false, .int .i64 0, .string ⟨#[]⟩, .string ⟨#[]⟩, .string ⟨#[]⟩, .int .i64 0, .slice none 0 0, .int .i64 0, .int .i64 0, .int .i64 0, .slice none 0 0, .slice none 0 0] 40)).setCells wr.heap.size 0 (did18 (f k) v) := ⟨_, rfl⟩
      rw [← hW2] at hbox
      have HW2 := Lib.hid hW2
      have C0 := Lib.hid (show W2.cell? ⟨wr.heap.size, 0, none⟩ = some (.int .i64 (f k).1) from hbox.2 0 _ rfl)
      have C1 := Lib.hid (show W2.cell? ⟨wr.heap.size, 1, none⟩ = some (.int .i64 (f k).2) from hbox.2 1 _ rfl)
      have HB2 := Lib.hid (HB.out.le hbox.1)
      have OWN0 := Lib.hid (ownsMap_below OWN.out hbox.1)
      clear hbox hW2 hone
      clear OWN
      have OWN := OWN0
      have R := Lib.hid hr
      have WFT := Lib.hid (H.out.wf k hlt)
      have WFK := Lib.hid (wf_small (k := k) (by have := HN.out; omega))
      have hle := long_le f k
      have LE := Lib.hid hle
      clear hr hle
      by_cases h1 : (f k).2 = 1
      · have H1 := Lib.hid h1
        have LS := Lib.hid (show long f (k + 1) = long f k by rw [long, if_neg (by rw [h1]; decide)])
        replace C1 := Lib.hid (C1.out.trans (by rw [h1]) : W2.cell? ⟨wr.heap.size, 1, none⟩ = some (.int .i64 1))
        clear h1
        go_wp2_with (first
          | (refine wpList_load_mid rfl 40 _ rfl _ _ rfl _ _ R.out Tryz.underlying40 rfl (show (Tryz.prog.info? 40).map (·.size) = some 18 by kernel_rfl) ?_; simp only [did18, Act.put, List.setIfInBounds_toArray, List.set_cons_zero, List.set_cons_succ])
          | (refine wpList_store_mid rfl 40 _ _ rfl wr.heap.size 0 #[.int .i64 (f k).1, .int .i64 (f k).2, v 2, v 3, v 4, v 5, v 6, v 7, v 8, v 9, v 10, v 11, v 12, v 13, v 14, v 15, v 16, v 17] rfl rfl (there_new wr _ _) (show (Tryz.prog.info? 40).map (·.size) = some 18 by kernel_rfl) (did_one (s := f k) ONE.out) ?_;
             simp only [Act.put, List.setIfInBounds_toArray, List.set_cons_zero, List.set_cons_succ];
             refine cast_world HW2.out ?_; have x0 := C0.out; have x1 := C1.out)
          | (at_mapUpdate; refine wpList_mapUpdate_own _ rfl _ _ _ 51 rfl 3 3 lawI Tryz.underlying51 _ w.heap.size k _ rfl OWN.out (by have := HN.out; unfold maxLen; omega) _ _ _ rfl rfl (keyOf_int_mk Tryz.underlying3 WFT.out) _ [] (plainElem_int Tryz.underlying3 WFK.out) ?_; intro w1 hown1 hgrow1; have OWN1 := Lib.hid hown1; have HG1 := Lib.hid hgrow1; clear hown1 hgrow1)
          | (at_lookup; refine wpList_lookup_own_ok_int _ rfl _ _ 51 rfl 3 3 .i64 lawI Tryz.underlying51 Tryz.underlying3 (zeroI _) w.heap.size k _ rfl OWN.out _ _ rfl (keyOf_int_mk Tryz.underlying3 WFT.out) ?_; intro c0 hat hwc; have HAT := Lib.hid hat; have HWC := Lib.hid hwc; clear hat hwc; rw [HAS.out])
          | go_in)
        go_roundw
        case rel => exact ⟨k + 1, _, by simp, by rw [LS.out], hlt, OWN1.out, HB2.out.grown HG1.out HB2.out.size (fun q hq => by cases hq; exact Nat.le_refl _), HM.out.put H1.out⟩
        case measure => simp [intOf]; omega
      · by_cases h6 : (f k).2 = 6
        · have H1 := Lib.hid h1; have H6 := Lib.hid h6
          have e6 : long f (k + 1) = more (long f k) k (lastC f (f k).1 k) := by rw [long, if_pos h6]
          have E6 := Lib.hid e6
          replace C1 := Lib.hid (C1.out.trans (by rw [h6]) : W2.cell? ⟨wr.heap.size, 1, none⟩ = some (.int .i64 6))
          clear h1 h6 e6
          cases hl : lastC f (f k).1 k with
          | none =>
            have HAS := Lib.hid (show Maps.has D (.int .i64 (f k).1) = false by rw [HM.out.keys, hl]; rfl)
            have HL := Lib.hid hl
            clear hl
            go_wp2_with (first
              | (refine wpList_load_mid rfl 40 _ rfl _ _ rfl _ _ R.out Tryz.underlying40 rfl (show (Tryz.prog.info? 40).map (·.size) = some 18 by kernel_rfl) ?_; simp only [did18, Act.put, List.setIfInBounds_toArray, List.set_cons_zero, List.set_cons_succ])
              | (refine wpList_store_mid rfl 40 _ _ rfl wr.heap.size 0 #[.int .i64 (f k).1, .int .i64 (f k).2, v 2, v 3, v 4, v 5, v 6, v 7, v 8, v 9, v 10, v 11, v 12, v 13, v 14, v 15, v 16, v 17] rfl rfl (there_new wr _ _) (show (Tryz.prog.info? 40).map (·.size) = some 18 by kernel_rfl) (did_one (s := f k) ONE.out) ?_;
                 simp only [Act.put, List.setIfInBounds_toArray, List.set_cons_zero, List.set_cons_succ];
                 refine cast_world HW2.out ?_; have x0 := C0.out; have x1 := C1.out)
              | (at_mapUpdate; refine wpList_mapUpdate_own _ rfl _ _ _ 51 rfl 3 3 lawI Tryz.underlying51 _ w.heap.size k _ rfl OWN.out (by have := HN.out; unfold maxLen; omega) _ _ _ rfl rfl (keyOf_int_mk Tryz.underlying3 WFT.out) _ [] (plainElem_int Tryz.underlying3 WFK.out) ?_; intro w1 hown1 hgrow1; have OWN1 := Lib.hid hown1; have HG1 := Lib.hid hgrow1; clear hown1 hgrow1)
              | (at_lookup; refine wpList_lookup_own_ok_int _ rfl _ _ 51 rfl 3 3 .i64 lawI Tryz.underlying51 Tryz.underlying3 (zeroI _) w.heap.size k _ rfl OWN.out _ _ rfl (keyOf_int_mk Tryz.underlying3 WFT.out) ?_; intro c0 hat hwc; have HAT := Lib.hid hat; have HWC := Lib.hid hwc; clear hat hwc; rw [HAS.out])
              | go_in)
            go_roundw
            case rel => exact ⟨k + 1, _, by simp, by rw [E6.out, HL.out]; rfl, hlt, OWN.out.mono (Nat.le_succ _), HB2.out, HM.out.skip (by rw [H6.out]; decide)⟩
            case measure => simp [intOf]; omega
          | some j =>
            have HAS := Lib.hid (show Maps.has D (.int .i64 (f k).1) = true by rw [HM.out.keys, hl]; rfl)
            have HL := Lib.hid hl
            have hj := (lastC_lt hl).1
            have HJ := Lib.hid hj
            clear hj
            have VAL := Lib.hid (HM.out.vals _ _ hl)
            clear hl
            go_wp2_with (first
              | (refine wpList_load_mid rfl 40 _ rfl _ _ rfl _ _ R.out Tryz.underlying40 rfl (show (Tryz.prog.info? 40).map (·.size) = some 18 by kernel_rfl) ?_; simp only [did18, Act.put, List.setIfInBounds_toArray, List.set_cons_zero, List.set_cons_succ])
              | (refine wpList_store_mid rfl 40 _ _ rfl wr.heap.size 0 #[.int .i64 (f k).1, .int .i64 (f k).2, v 2, v 3, v 4, v 5, v 6, v 7, v 8, v 9, v 10, v 11, v 12, v 13, v 14, v 15, v 16, v 17] rfl rfl (there_new wr _ _) (show (Tryz.prog.info? 40).map (·.size) = some 18 by kernel_rfl) (did_one (s := f k) ONE.out) ?_;
                 simp only [Act.put, List.setIfInBounds_toArray, List.set_cons_zero, List.set_cons_succ];
                 refine cast_world HW2.out ?_; have x0 := C0.out; have x1 := C1.out)
              | (at_mapUpdate; refine wpList_mapUpdate_own _ rfl _ _ _ 51 rfl 3 3 lawI Tryz.underlying51 _ w.heap.size k _ rfl OWN.out (by have := HN.out; unfold maxLen; omega) _ _ _ rfl rfl (keyOf_int_mk Tryz.underlying3 WFT.out) _ [] (plainElem_int Tryz.underlying3 WFK.out) ?_; intro w1 hown1 hgrow1; have OWN1 := Lib.hid hown1; have HG1 := Lib.hid hgrow1; clear hown1 hgrow1)
              | (at_lookup; refine wpList_lookup_own_ok_int _ rfl _ _ 51 rfl 3 3 .i64 lawI Tryz.underlying51 Tryz.underlying3 (zeroI _) w.heap.size k _ rfl OWN.out _ _ rfl (keyOf_int_mk Tryz.underlying3 WFT.out) ?_; intro c0 hat hwc; have HAT := Lib.hid hat; have HWC := Lib.hid hwc; clear hat hwc; rw [HAS.out])
              | go_in)
            go_roundw
            case rel => exact ⟨k + 1, _, by simp, by rw [E6.out, HL.out]; first | exact congrArg (Value.int .i64) (more_go LE.out HJ.out (by have := HN.out; omega) (numL_inj (HAT.out.symm.trans VAL.out))) | exact congrArg (Value.int .i64) (more_go2 LE.out HJ.out (by have := HN.out; omega) (numL_inj (HAT.out.symm.trans VAL.out))) | exact congrArg (Value.int .i64) (more_go3 LE.out HJ.out (by have := HN.out; omega) (numL_inj (HAT.out.symm.trans VAL.out))) | exact congrArg (Value.int .i64) (more_go4 LE.out HJ.out (by have := HN.out; omega) (numL_inj (HAT.out.symm.trans VAL.out))), hlt, OWN.out.mono (Nat.le_succ _), HB2.out, HM.out.skip (by rw [H6.out]; decide)⟩
            case measure => simp [intOf]; omega
        · have H1 := Lib.hid h1; have H6 := Lib.hid h6
          have LS := Lib.hid (show long f (k + 1) = long f k by rw [long, if_neg h6])
          go_wp2_with (first
            | (refine wpList_load_mid rfl 40 _ rfl _ _ rfl _ _ R.out Tryz.underlying40 rfl (show (Tryz.prog.info? 40).map (·.size) = some 18 by kernel_rfl) ?_; simp only [did18, Act.put, List.setIfInBounds_toArray, List.set_cons_zero, List.set_cons_succ])
            | (refine wpList_store_mid rfl 40 _ _ rfl wr.heap.size 0 #[.int .i64 (f k).1, .int .i64 (f k).2, v 2, v 3, v 4, v 5, v 6, v 7, v 8, v 9, v 10, v 11, v 12, v 13, v 14, v 15, v 16, v 17] rfl rfl (there_new wr _ _) (show (Tryz.prog.info? 40).map (·.size) = some 18 by kernel_rfl) (did_one (s := f k) ONE.out) ?_;
               simp only [Act.put, List.setIfInBounds_toArray, List.set_cons_zero, List.set_cons_succ];
               refine cast_world HW2.out ?_; have x0 := C0.out; have x1 := C1.out)
            | (at_mapUpdate; refine wpList_mapUpdate_own _ rfl _ _ _ 51 rfl 3 3 lawI Tryz.underlying51 _ w.heap.size k _ rfl OWN.out (by have := HN.out; unfold maxLen; omega) _ _ _ rfl rfl (keyOf_int_mk Tryz.underlying3 WFT.out) _ [] (plainElem_int Tryz.underlying3 WFK.out) ?_; intro w1 hown1 hgrow1; have OWN1 := Lib.hid hown1; have HG1 := Lib.hid hgrow1; clear hown1 hgrow1)
            | (at_lookup; refine wpList_lookup_own_ok_int _ rfl _ _ 51 rfl 3 3 .i64 lawI Tryz.underlying51 Tryz.underlying3 (zeroI _) w.heap.size k _ rfl OWN.out _ _ rfl (keyOf_int_mk Tryz.underlying3 WFT.out) ?_; intro c0 hat hwc; have HAT := Lib.hid hat; have HWC := Lib.hid hwc; clear hat hwc; rw [HAS.out])
            | go_in)
          go_roundw
          case rel => exact ⟨k + 1, _, by simp, by rw [LS.out], hlt, OWN.out.mono (Nat.le_succ _), HB2.out, HM.out.skip H1.out⟩
          case measure => simp [intOf]; omega
    · have hkn : k = n := by omega
      subst hkn
      go_wp2
      refine bodyPost_ret (v := .tuple #[.int .i64 (long f k), .int .i64 0]) (by simp [results, Tryz.results10, go_sem]) rfl ?_
      exact ⟨_, rfl, HB.out, rfl⟩
end Go.Proofs.YtkdegiobhgjghaaGreatDoor

/-
  The rules for the single operations, for the walk of XM.
-/
namespace Go.Proofs.YtkdegiobhgjghaaGreatDoor
open Go.RowKit

section
variable {P : Program} {ops : List Oper} {Fs : List VT} {w0 : World} {a0 : Act} {i : Nat} {o : Oper}

/-- The operand x has the property G whenever operation i comes up. -/
def Has (ops : List Oper) (Fs : List VT) (w0 : World) (a0 : Act) (i : Nat) (o : Oper) (x : Operand) (G : VT) : Prop := ∀ a w, Cx ops Fs w0 a0 i o a w → G w (a.eval x)
/-- Its guard, if it has one, lets it run. -/
def Wanted (ops : List Oper) (Fs : List VT) (w0 : World) (a0 : Act) (i : Nat) (o : Oper) : Prop := ∀ a w, Cx ops Fs w0 a0 i o a w → Region.wanted o (yielded ops.toArray a.tmps) = true

theorem Has.cst (v : Value) : Has ops Fs w0 a0 i o (.const v) (Is v) := fun _ _ _ => rfl
theorem Has.old {t : Tmp} {G : VT} (v : Value) (hn : (dstsOf ops).contains (some t) = false) (hv : a0.tmps.getD t undef = v) (hG : ∀ w, Below w0.heap.size w0 w → G w v) : Has ops Fs w0 a0 i o (.tmp t) G := fun a w cx => by
  have : a.eval (.tmp t) = v := (cx.old t (by simpa using hn)).trans hv
  rw [this]; exact hG w cx.le
theorem slot_of {a : Act} {t : Tmp} {v : Value} (h : a.tmps.toList[t]? = some v) : a.tmps.getD t undef = v := by rw [Array.getD_eq_getD_getElem?, ← Array.getElem?_toList, h]; rfl
theorem Has.oldIs {t : Tmp} {v : Value} (hn : (dstsOf ops).contains (some t) = false := by kernel_rfl) (hv : a0.tmps.toList[t]? = some v := by exact rfl) : Has ops Fs w0 a0 i o (.tmp t) (Is v) := Has.old v hn (slot_of hv) fun _ _ => rfl
theorem Has.late {t : Tmp} {v : Value} (j : Nat) {oj : Oper} (ho : ops[j]? = some oj := by exact rfl) (he : hasEdge oj i = true := by exact rfl) (hd : oj.dst = some t := by exact rfl) (hv : a0.tmps.toList[t]? = some v := by exact rfl) : Has ops Fs w0 a0 i o (.tmp t) (Is v) := fun _ _ cx => (cx.late j oj t ho he hd).trans (slot_of hv)
/-- The slot that operation j writes. -/
def dstAt (ops : List Oper) (j : Nat) : Option Tmp := (ops[j]?).bind (·.dst)
theorem back {RF : List VT} {j k : Nat} {G : VT} (hl : RF.length = j + k + 1) (hF : RF[k]? = some G) : RF.reverse[j]? = some G := by
  rw [List.getElem?_reverse (by omega), ← hF]; congr 1; omega
theorem dstAt_some {j : Nat} {t : Tmp} (h : dstAt ops j = some t) : ∃ oj, ops[j]? = some oj ∧ oj.dst = some t := by
  unfold dstAt at h
  cases ho : ops[j]? with
  | none => rw [ho] at h; cases h
  | some oj => rw [ho] at h; exact ⟨oj, rfl, h⟩
theorem Has.new {t : Tmp} {G : VT} {RF : List VT} (j k : Nat) (hF : RF[k]? = some G := by exact rfl) (hl : RF.length = j + k + 1 := by kernel_rfl) (hd : dstAt ops j = some t := by kernel_rfl) (he : hasEdge o j = true := by kernel_rfl) : Has ops RF.reverse w0 a0 i o (.tmp t) G := fun _ _ cx => by
  obtain ⟨oj, h1, h2⟩ := dstAt_some hd
  exact cx.new j oj t G he h1 h2 (back hl hF)
theorem Has.weak {x : Operand} {G H : VT} (h : Has ops Fs w0 a0 i o x G) (k : ∀ w v, G w v → H w v) : Has ops Fs w0 a0 i o x H := fun a w cx => k _ _ (h a w cx)

theorem Wanted.free (h : o.guard = none := by exact rfl) : Wanted ops Fs w0 a0 i o := fun _ _ _ => by simp [Region.wanted, h]
theorem wanted_of {j : Nat} {want b : Bool} {oj : Oper} {t : Tmp} {a : Act} {w : World} (hg : o.guard = some (j, want)) (ho : ops[j]? = some oj) (hd : oj.dst = some t) (hv : IsB b w (a.tmps.getD t undef)) : Region.wanted o (yielded ops.toArray a.tmps) = (b == want) := by
  have e : a.tmps[t]? = some (.bool b) := by
    have hv : a.tmps.getD t undef = .bool b := hv
    rw [Array.getD_eq_getD_getElem?] at hv
    cases h : a.tmps[t]? with
    | none => rw [h] at hv; simp at hv; cases hv
    | some u => rw [h] at hv; simp at hv; rw [hv]
  simp [Region.wanted, hg, yielded, ho, hd, e]
theorem Wanted.on {RF : List VT} (j k : Nat) {want : Bool} (hg : o.guard = some (j, want) := by exact rfl) (hF : RF[k]? = some (IsB want) := by exact rfl) (hl : RF.length = j + k + 1 := by kernel_rfl) (hd : (dstAt ops j).isSome = true := by kernel_rfl) (he : hasEdge o j = true := by kernel_rfl) : Wanted ops RF.reverse w0 a0 i o := fun a w cx => by
  obtain ⟨t, hd⟩ := Option.isSome_iff_exists.1 hd
  obtain ⟨oj, h1, h2⟩ := dstAt_some hd
  rw [wanted_of hg h1 h2 (cx.new j oj t _ he h1 h2 (back hl hF))]; simp

/-- The guard shuts it out: nothing is laid. -/
theorem Ob.off {RF : List VT} (j k : Nat) {want b : Bool} (hg : o.guard = some (j, want) := by exact rfl) (hF : RF[k]? = some (IsB b) := by exact rfl) (hl : RF.length = j + k + 1 := by kernel_rfl) (hd : (dstAt ops j).isSome = true := by kernel_rfl) (he : hasEdge o j = true := by kernel_rfl) (hne : (b == want) = false := by exact rfl) : Ob P ops RF.reverse w0 a0 i o (Is undef) := fun a w cx => by
  obtain ⟨t, hd⟩ := Option.isSome_iff_exists.1 hd
  obtain ⟨oj, h1, h2⟩ := dstAt_some hd
  rw [wanted_of hg h1 h2 (cx.new j oj t _ he h1 h2 (back hl hF)), hne]; exact rfl

/-- The guard's own operation was shut out. -/
theorem Ob.offU {RF : List VT} (j k : Nat) {want : Bool} (hg : o.guard = some (j, want) := by exact rfl) (hF : RF[k]? = some (Is undef) := by exact rfl) (hl : RF.length = j + k + 1 := by kernel_rfl) (hd : (dstAt ops j).isSome = true := by kernel_rfl) (he : hasEdge o j = true := by kernel_rfl) : Ob P ops RF.reverse w0 a0 i o (Is undef) := fun a w cx => by
  obtain ⟨t, hd⟩ := Option.isSome_iff_exists.1 hd
  obtain ⟨oj, ho, h2⟩ := dstAt_some hd
  have hv : a.tmps.getD t undef = undef := cx.new j oj t _ he ho h2 (back hl hF)
  have : Region.wanted o (yielded ops.toArray a.tmps) = false := by
    cases h : a.tmps[t]? with
    | none => simp [Region.wanted, hg, yielded, ho, h2, h]
    | some u =>
      rw [Array.getD_eq_getD_getElem?, h] at hv
      simp at hv
      subst hv
      simp [Region.wanted, hg, yielded, ho, h2, h, undef]
  rw [this]; exact rfl
theorem Ob.any {F : VT} (hw : Wanted ops Fs w0 a0 i o) (h : ∀ a w, Cx ops Fs w0 a0 i o a w → ∃ r w', (execOp a.eval o).run P w = .ok (.value r) w' ∧ Below w.heap.size w w' ∧ F w' r) : Ob P ops Fs w0 a0 i o F := fun a w cx => by
  rw [if_pos (hw a w cx)]
  obtain ⟨r, w', hr, hb, hF⟩ := h a w cx
  unfold Oper.wp
  rw [hr]
  exact ⟨r, rfl, hb, hF⟩
theorem Ob.stay {F : VT} (hw : Wanted ops Fs w0 a0 i o) (h : ∀ a w, Cx ops Fs w0 a0 i o a w → ∃ r, (execOp a.eval o).run P w = .ok (.value r) w ∧ F w r) : Ob P ops Fs w0 a0 i o F :=
  Ob.any hw fun a w cx => let ⟨r, h1, h2⟩ := h a w cx; ⟨r, w, h1, Below.refl _ _, h2⟩

variable {d : Option Tmp} {ty : TypeId} {pos : String} {after : Array Edge} {g : Option (Nat × Bool)}
theorem Ob.move {x : Operand} {F : VT} (hw : Wanted ops Fs w0 a0 i ⟨d, .move x, ty, pos, after, g⟩) (hx : Has ops Fs w0 a0 i ⟨d, .move x, ty, pos, after, g⟩ x F) : Ob P ops Fs w0 a0 i ⟨d, .move x, ty, pos, after, g⟩ F :=
  Ob.stay hw fun a w cx => ⟨_, by simp [execOp], hx a w cx⟩
theorem Ob.assign {x : Operand} {F : VT} (hw : Wanted ops Fs w0 a0 i ⟨d, .assign x, ty, pos, after, g⟩) (hx : Has ops Fs w0 a0 i ⟨d, .assign x, ty, pos, after, g⟩ x F) : Ob P ops Fs w0 a0 i ⟨d, .assign x, ty, pos, after, g⟩ F :=
  Ob.stay hw fun a w cx => ⟨_, by simp [execOp], hx a w cx⟩
theorem run_pick (ρ : Operand → Value) {c x y : Operand} {b : Bool} (h : ρ c = .bool b) (w : World) : (execOp ρ ⟨d, .pick c x y, ty, pos, after, g⟩).run P w = .ok (.value (if b then ρ x else ρ y)) w := by simp [execOp, asBool, h]
theorem run_not (ρ : Operand → Value) {x : Operand} {t : TypeId} {b : Bool} (h : ρ x = .bool b) (w : World) : (execOp ρ ⟨d, .unOp .not t x, ty, pos, after, g⟩).run P w = .ok (.value (.bool (!b))) w := by simp [execOp, h, go_sem]
theorem Ob.pickT {c x y : Operand} {F : VT} (hw : Wanted ops Fs w0 a0 i ⟨d, .pick c x y, ty, pos, after, g⟩) (hc : Has ops Fs w0 a0 i ⟨d, .pick c x y, ty, pos, after, g⟩ c (IsB true)) (hx : Has ops Fs w0 a0 i ⟨d, .pick c x y, ty, pos, after, g⟩ x F) : Ob P ops Fs w0 a0 i ⟨d, .pick c x y, ty, pos, after, g⟩ F :=
  Ob.stay hw fun a w cx => ⟨a.eval x, by rw [run_pick a.eval (hc a w cx)]; rfl, hx a w cx⟩
theorem Ob.pickF {c x y : Operand} {F : VT} (hw : Wanted ops Fs w0 a0 i ⟨d, .pick c x y, ty, pos, after, g⟩) (hc : Has ops Fs w0 a0 i ⟨d, .pick c x y, ty, pos, after, g⟩ c (IsB false)) (hy : Has ops Fs w0 a0 i ⟨d, .pick c x y, ty, pos, after, g⟩ y F) : Ob P ops Fs w0 a0 i ⟨d, .pick c x y, ty, pos, after, g⟩ F :=
  Ob.stay hw fun a w cx => ⟨a.eval y, by rw [run_pick a.eval (hc a w cx)]; rfl, hy a w cx⟩
theorem Ob.not {x : Operand} {b : Bool} {t : TypeId} (hw : Wanted ops Fs w0 a0 i ⟨d, .unOp .not t x, ty, pos, after, g⟩) (hx : Has ops Fs w0 a0 i ⟨d, .unOp .not t x, ty, pos, after, g⟩ x (IsB b)) : Ob P ops Fs w0 a0 i ⟨d, .unOp .not t x, ty, pos, after, g⟩ (IsB (!b)) :=
  Ob.stay hw fun a w cx => ⟨_, run_not a.eval (hx a w cx) w, rfl⟩
theorem Ob.load {x : Operand} {G F : VT} {t : TypeId} (hw : Wanted ops Fs w0 a0 i ⟨d, .load t x, ty, pos, after, g⟩) (hx : Has ops Fs w0 a0 i ⟨d, .load t x, ty, pos, after, g⟩ x G)
    (h : ∀ w v, Below w0.heap.size w0 w → G w v → ∃ r, (Instr.loadAt t v).run P w = .ok r w ∧ F w r) : Ob P ops Fs w0 a0 i ⟨d, .load t x, ty, pos, after, g⟩ F :=
  Ob.stay hw fun a w cx => by
    obtain ⟨r, h1, h2⟩ := h w _ cx.le (hx a w cx)
    exact ⟨r, by simp [execOp, h1], h2⟩
theorem Ob.fieldAddr {x : Operand} {G F : VT} {t : TypeId} {f : Nat} (hw : Wanted ops Fs w0 a0 i ⟨d, .fieldAddr t x f, ty, pos, after, g⟩) (hx : Has ops Fs w0 a0 i ⟨d, .fieldAddr t x f, ty, pos, after, g⟩ x G)
    (h : ∀ w v, Below w0.heap.size w0 w → G w v → ∃ r, (Instr.fieldAt t v f).run P w = .ok r w ∧ F w r) : Ob P ops Fs w0 a0 i ⟨d, .fieldAddr t x f, ty, pos, after, g⟩ F :=
  Ob.stay hw fun a w cx => by
    obtain ⟨r, h1, h2⟩ := h w _ cx.le (hx a w cx)
    exact ⟨r, by simp [execOp, h1], h2⟩
theorem Ob.extract {x : Operand} {G F : VT} {n : Nat} (hw : Wanted ops Fs w0 a0 i ⟨d, .extract x n, ty, pos, after, g⟩) (hx : Has ops Fs w0 a0 i ⟨d, .extract x n, ty, pos, after, g⟩ x G)
    (h : ∀ w v, Below w0.heap.size w0 w → G w v → ∃ r, (Instr.extract v n).run P w = .ok r w ∧ F w r) : Ob P ops Fs w0 a0 i ⟨d, .extract x n, ty, pos, after, g⟩ F :=
  Ob.stay hw fun a w cx => by
    obtain ⟨r, h1, h2⟩ := h w _ cx.le (hx a w cx)
    exact ⟨r, by simp [execOp, h1], h2⟩
theorem Ob.indexAddr {x y : Operand} {G H F : VT} {t : TypeId} (hw : Wanted ops Fs w0 a0 i ⟨d, .indexAddr t x y, ty, pos, after, g⟩) (hx : Has ops Fs w0 a0 i ⟨d, .indexAddr t x y, ty, pos, after, g⟩ x G) (hy : Has ops Fs w0 a0 i ⟨d, .indexAddr t x y, ty, pos, after, g⟩ y H)
    (h : ∀ w u v, Below w0.heap.size w0 w → G w u → H w v → ∃ r, (Instr.indexAt t u v).run P w = .ok r w ∧ F w r) : Ob P ops Fs w0 a0 i ⟨d, .indexAddr t x y, ty, pos, after, g⟩ F :=
  Ob.stay hw fun a w cx => by
    obtain ⟨r, h1, h2⟩ := h w _ _ cx.le (hx a w cx) (hy a w cx)
    exact ⟨r, by simp [execOp, h1], h2⟩
theorem Ob.bin {x y : Operand} {G H F : VT} {b : BinOp} {t t' : TypeId} (hw : Wanted ops Fs w0 a0 i ⟨d, .binOp b t x y t', ty, pos, after, g⟩) (hx : Has ops Fs w0 a0 i ⟨d, .binOp b t x y t', ty, pos, after, g⟩ x G) (hy : Has ops Fs w0 a0 i ⟨d, .binOp b t x y t', ty, pos, after, g⟩ y H)
    (h : ∀ w u v, Below w0.heap.size w0 w → G w u → H w v → ∃ r, (eqGuard b t x y u v).run P w = .ok () w ∧ (binOp b t u v).run P w = .ok r w ∧ F w r) : Ob P ops Fs w0 a0 i ⟨d, .binOp b t x y t', ty, pos, after, g⟩ F :=
  Ob.stay hw fun a w cx => by
    obtain ⟨r, h0, h1, h2⟩ := h w _ _ cx.le (hx a w cx) (hy a w cx)
    exact ⟨r, by simp [execOp, h0, h1], h2⟩
theorem Ob.buildSlice {F : VT} {t : TypeId} {n : Nat} {ps : Array (Nat × Operand)} (hw : Wanted ops Fs w0 a0 i ⟨d, .buildSlice t n ps, ty, pos, after, g⟩)
    (h : ∀ a w, Cx ops Fs w0 a0 i ⟨d, .buildSlice t n ps, ty, pos, after, g⟩ a w → ∃ r w', (Instr.buildSlice t n (ps.map fun (i, x) => (i, a.eval x))).run P w = .ok r w' ∧ Below w.heap.size w w' ∧ F w' r) : Ob P ops Fs w0 a0 i ⟨d, .buildSlice t n ps, ty, pos, after, g⟩ F :=
  Ob.any hw fun a w cx => by
    obtain ⟨r, w', h1, h2, h3⟩ := h a w cx
    exact ⟨r, w', by simp [execOp, h1], h2, h3⟩

theorem Ob.loadV {x : Operand} {p r : Value} {t : TypeId} (hw : Wanted ops Fs w0 a0 i ⟨d, .load t x, ty, pos, after, g⟩) (hx : Has ops Fs w0 a0 i ⟨d, .load t x, ty, pos, after, g⟩ x (Is p))
    (h : ∀ w, Below w0.heap.size w0 w → (Instr.loadAt t p).run P w = .ok r w) : Ob P ops Fs w0 a0 i ⟨d, .load t x, ty, pos, after, g⟩ (Is r) :=
  Ob.load hw hx fun w v hb e => ⟨r, by rw [show v = p from e]; exact h w hb, rfl⟩
theorem Ob.fieldV {x : Operand} {p r : Value} {t : TypeId} {f : Nat} (hw : Wanted ops Fs w0 a0 i ⟨d, .fieldAddr t x f, ty, pos, after, g⟩) (hx : Has ops Fs w0 a0 i ⟨d, .fieldAddr t x f, ty, pos, after, g⟩ x (Is p))
    (h : ∀ w, (Instr.fieldAt t p f).run P w = .ok r w) : Ob P ops Fs w0 a0 i ⟨d, .fieldAddr t x f, ty, pos, after, g⟩ (Is r) :=
  Ob.fieldAddr hw hx fun w v _ e => ⟨r, by rw [show v = p from e]; exact h w, rfl⟩
theorem Ob.indexV {x y : Operand} {p q r : Value} {t : TypeId} (hw : Wanted ops Fs w0 a0 i ⟨d, .indexAddr t x y, ty, pos, after, g⟩) (hx : Has ops Fs w0 a0 i ⟨d, .indexAddr t x y, ty, pos, after, g⟩ x (Is p)) (hy : Has ops Fs w0 a0 i ⟨d, .indexAddr t x y, ty, pos, after, g⟩ y (Is q))
    (h : ∀ w, (Instr.indexAt t p q).run P w = .ok r w) : Ob P ops Fs w0 a0 i ⟨d, .indexAddr t x y, ty, pos, after, g⟩ (Is r) :=
  Ob.indexAddr hw hx hy fun w u v _ e e' => ⟨r, by rw [show u = p from e, show v = q from e']; exact h w, rfl⟩
theorem Ob.binV {x y : Operand} {p q r : Value} {b : BinOp} {t t' : TypeId} (hw : Wanted ops Fs w0 a0 i ⟨d, .binOp b t x y t', ty, pos, after, g⟩) (hx : Has ops Fs w0 a0 i ⟨d, .binOp b t x y t', ty, pos, after, g⟩ x (Is p)) (hy : Has ops Fs w0 a0 i ⟨d, .binOp b t x y t', ty, pos, after, g⟩ y (Is q))
    (h : ∀ w, (eqGuard b t x y p q).run P w = .ok () w ∧ (Go.binOp b t p q).run P w = .ok r w) : Ob P ops Fs w0 a0 i ⟨d, .binOp b t x y t', ty, pos, after, g⟩ (Is r) :=
  Ob.bin hw hx hy fun w u v _ e e' => ⟨r, by rw [show u = p from e, show v = q from e']; exact (h w).1, by rw [show u = p from e, show v = q from e']; exact (h w).2, rfl⟩
theorem Ob.lenV {x : Operand} {p r : Value} {t : TypeId} (hw : Wanted ops Fs w0 a0 i ⟨d, .call ⟨.builtin .len, #[x], #[t]⟩, ty, pos, after, g⟩) (hx : Has ops Fs w0 a0 i ⟨d, .call ⟨.builtin .len, #[x], #[t]⟩, ty, pos, after, g⟩ x (Is p))
    (h : ∀ w, (Builtin.len_ #[t] ty #[p]).run P w = .ok r w) : Ob P ops Fs w0 a0 i ⟨d, .call ⟨.builtin .len, #[x], #[t]⟩, ty, pos, after, g⟩ (Is r) :=
  Ob.stay hw fun a w cx => ⟨r, by
    have h1 : a.eval x = p := hx a w cx
    have h2 := h w
    generalize a.eval = ρ at h1
    simp [execOp, resolve, invoke, builtin, h1, h2], rfl⟩
theorem run_call {f : FuncId} {args : Array Operand} {tys : Array TypeId} (he : Enters P f) (a : Act) (w : World) : (execOp a.eval ⟨d, .call ⟨.value (.func f), args, tys⟩, ty, pos, after, g⟩).run P w = .ok (.enter f (args.map a.eval)) w := by
  have := he (args.map a.eval) w
  simp [execOp, resolve, Act.eval, Deferred.ofValue, invoke, this]
theorem Ob.call {f : FuncId} {args : Array Operand} {tys : Array TypeId} {F : VT} (hw : Wanted ops Fs w0 a0 i ⟨d, .call ⟨.value (.func f), args, tys⟩, ty, pos, after, g⟩) (he : Enters P f)
    (h : ∀ a w, Cx ops Fs w0 a0 i ⟨d, .call ⟨.value (.func f), args, tys⟩, ty, pos, after, g⟩ a w → Calls P f (args.map a.eval) w (Ret w F)) : Ob P ops Fs w0 a0 i ⟨d, .call ⟨.value (.func f), args, tys⟩, ty, pos, after, g⟩ F := fun a w cx => by
  rw [if_pos (hw a w cx)]
  unfold Oper.wp
  rw [run_call he a w]
  refine (h a w cx).mono ?_
  rintro e w' ⟨v, rfl, hb, hF⟩
  exact ⟨v, rfl, hb, hF⟩
theorem Ob.call0 {f : FuncId} {tys : Array TypeId} {F : VT} (hw : Wanted ops Fs w0 a0 i ⟨d, .call ⟨.value (.func f), #[], tys⟩, ty, pos, after, g⟩) (he : Enters P f)
    (h : ∀ w, Below w0.heap.size w0 w → Calls P f #[] w (Ret w F)) : Ob P ops Fs w0 a0 i ⟨d, .call ⟨.value (.func f), #[], tys⟩, ty, pos, after, g⟩ F := Ob.call hw he fun a w cx => by rw [List.map_toArray]; exact h w cx.le
theorem Ob.call1 {f : FuncId} {tys : Array TypeId} {x : Operand} {G F : VT} (hw : Wanted ops Fs w0 a0 i ⟨d, .call ⟨.value (.func f), #[x], tys⟩, ty, pos, after, g⟩) (he : Enters P f)
    (hx : Has ops Fs w0 a0 i ⟨d, .call ⟨.value (.func f), #[x], tys⟩, ty, pos, after, g⟩ x G)
    (h : ∀ w v, Below w0.heap.size w0 w → G w v → Calls P f #[v] w (Ret w F)) : Ob P ops Fs w0 a0 i ⟨d, .call ⟨.value (.func f), #[x], tys⟩, ty, pos, after, g⟩ F := Ob.call hw he fun a w cx => by rw [List.map_toArray]; exact h w _ cx.le (hx a w cx)
theorem Ob.call2 {f : FuncId} {tys : Array TypeId} {x y : Operand} {G H F : VT} (hw : Wanted ops Fs w0 a0 i ⟨d, .call ⟨.value (.func f), #[x, y], tys⟩, ty, pos, after, g⟩) (he : Enters P f)
    (hx : Has ops Fs w0 a0 i ⟨d, .call ⟨.value (.func f), #[x, y], tys⟩, ty, pos, after, g⟩ x G) (hy : Has ops Fs w0 a0 i ⟨d, .call ⟨.value (.func f), #[x, y], tys⟩, ty, pos, after, g⟩ y H)
    (h : ∀ w u v, Below w0.heap.size w0 w → G w u → H w v → Calls P f #[u, v] w (Ret w F)) : Ob P ops Fs w0 a0 i ⟨d, .call ⟨.value (.func f), #[x, y], tys⟩, ty, pos, after, g⟩ F := Ob.call hw he fun a w cx => by rw [List.map_toArray]; exact h w _ _ cx.le (hx a w cx) (hy a w cx)
theorem Ob.call3 {f : FuncId} {tys : Array TypeId} {x y z : Operand} {G H K F : VT} (hw : Wanted ops Fs w0 a0 i ⟨d, .call ⟨.value (.func f), #[x, y, z], tys⟩, ty, pos, after, g⟩) (he : Enters P f)
    (hx : Has ops Fs w0 a0 i ⟨d, .call ⟨.value (.func f), #[x, y, z], tys⟩, ty, pos, after, g⟩ x G) (hy : Has ops Fs w0 a0 i ⟨d, .call ⟨.value (.func f), #[x, y, z], tys⟩, ty, pos, after, g⟩ y H) (hz : Has ops Fs w0 a0 i ⟨d, .call ⟨.value (.func f), #[x, y, z], tys⟩, ty, pos, after, g⟩ z K)
    (h : ∀ w u v s, Below w0.heap.size w0 w → G w u → H w v → K w s → Calls P f #[u, v, s] w (Ret w F)) : Ob P ops Fs w0 a0 i ⟨d, .call ⟨.value (.func f), #[x, y, z], tys⟩, ty, pos, after, g⟩ F := Ob.call hw he fun a w cx => by rw [List.map_toArray]; exact h w _ _ _ cx.le (hx a w cx) (hy a w cx) (hz a w cx)
theorem Ob.call4 {f : FuncId} {tys : Array TypeId} {x y z q : Operand} {G H K L F : VT} (hw : Wanted ops Fs w0 a0 i ⟨d, .call ⟨.value (.func f), #[x, y, z, q], tys⟩, ty, pos, after, g⟩) (he : Enters P f)
    (hx : Has ops Fs w0 a0 i ⟨d, .call ⟨.value (.func f), #[x, y, z, q], tys⟩, ty, pos, after, g⟩ x G) (hy : Has ops Fs w0 a0 i ⟨d, .call ⟨.value (.func f), #[x, y, z, q], tys⟩, ty, pos, after, g⟩ y H) (hz : Has ops Fs w0 a0 i ⟨d, .call ⟨.value (.func f), #[x, y, z, q], tys⟩, ty, pos, after, g⟩ z K) (hq : Has ops Fs w0 a0 i ⟨d, .call ⟨.value (.func f), #[x, y, z, q], tys⟩, ty, pos, after, g⟩ q L)
    (h : ∀ w u v s r, Below w0.heap.size w0 w → G w u → H w v → K w s → L w r → Calls P f #[u, v, s, r] w (Ret w F)) : Ob P ops Fs w0 a0 i ⟨d, .call ⟨.value (.func f), #[x, y, z, q], tys⟩, ty, pos, after, g⟩ F := Ob.call hw he fun a w cx => by rw [List.map_toArray]; exact h w _ _ _ _ cx.le (hx a w cx) (hy a w cx) (hz a w cx) (hq a w cx)
theorem Ob.call1V {f : FuncId} {tys : Array TypeId} {x : Operand} {p1 : Value} {F : VT} (hw : Wanted ops Fs w0 a0 i ⟨d, .call ⟨.value (.func f), #[x], tys⟩, ty, pos, after, g⟩) (he : Enters P f) (hx : Has ops Fs w0 a0 i ⟨d, .call ⟨.value (.func f), #[x], tys⟩, ty, pos, after, g⟩ x (Is p1))
    (h : ∀ w, Below w0.heap.size w0 w → Calls P f #[p1] w (Ret w F)) : Ob P ops Fs w0 a0 i ⟨d, .call ⟨.value (.func f), #[x], tys⟩, ty, pos, after, g⟩ F := Ob.call1 hw he hx fun w v0 hb e0 => by unfold Is at *; subst e0; exact h w hb
theorem Ob.call2V {f : FuncId} {tys : Array TypeId} {x y : Operand} {p1 p2 : Value} {F : VT} (hw : Wanted ops Fs w0 a0 i ⟨d, .call ⟨.value (.func f), #[x, y], tys⟩, ty, pos, after, g⟩) (he : Enters P f) (hx : Has ops Fs w0 a0 i ⟨d, .call ⟨.value (.func f), #[x, y], tys⟩, ty, pos, after, g⟩ x (Is p1)) (hy : Has ops Fs w0 a0 i ⟨d, .call ⟨.value (.func f), #[x, y], tys⟩, ty, pos, after, g⟩ y (Is p2))
    (h : ∀ w, Below w0.heap.size w0 w → Calls P f #[p1, p2] w (Ret w F)) : Ob P ops Fs w0 a0 i ⟨d, .call ⟨.value (.func f), #[x, y], tys⟩, ty, pos, after, g⟩ F := Ob.call2 hw he hx hy fun w v0 v1 hb e0 e1 => by unfold Is at *; subst e0; subst e1; exact h w hb
theorem Ob.call3V {f : FuncId} {tys : Array TypeId} {x y z : Operand} {p1 p2 p3 : Value} {F : VT} (hw : Wanted ops Fs w0 a0 i ⟨d, .call ⟨.value (.func f), #[x, y, z], tys⟩, ty, pos, after, g⟩) (he : Enters P f) (hx : Has ops Fs w0 a0 i ⟨d, .call ⟨.value (.func f), #[x, y, z], tys⟩, ty, pos, after, g⟩ x (Is p1)) (hy : Has ops Fs w0 a0 i ⟨d, .call ⟨.value (.func f), #[x, y, z], tys⟩, ty, pos, after, g⟩ y (Is p2)) (hz : Has ops Fs w0 a0 i ⟨d, .call ⟨.value (.func f), #[x, y, z], tys⟩, ty, pos, after, g⟩ z (Is p3))
    (h : ∀ w, Below w0.heap.size w0 w → Calls P f #[p1, p2, p3] w (Ret w F)) : Ob P ops Fs w0 a0 i ⟨d, .call ⟨.value (.func f), #[x, y, z], tys⟩, ty, pos, after, g⟩ F := Ob.call3 hw he hx hy hz fun w v0 v1 v2 hb e0 e1 e2 => by unfold Is at *; subst e0; subst e1; subst e2; exact h w hb
theorem Ob.call4V {f : FuncId} {tys : Array TypeId} {x y z q : Operand} {p1 p2 p3 p4 : Value} {F : VT} (hw : Wanted ops Fs w0 a0 i ⟨d, .call ⟨.value (.func f), #[x, y, z, q], tys⟩, ty, pos, after, g⟩) (he : Enters P f) (hx : Has ops Fs w0 a0 i ⟨d, .call ⟨.value (.func f), #[x, y, z, q], tys⟩, ty, pos, after, g⟩ x (Is p1)) (hy : Has ops Fs w0 a0 i ⟨d, .call ⟨.value (.func f), #[x, y, z, q], tys⟩, ty, pos, after, g⟩ y (Is p2)) (hz : Has ops Fs w0 a0 i ⟨d, .call ⟨.value (.func f), #[x, y, z, q], tys⟩, ty, pos, after, g⟩ z (Is p3)) (hq : Has ops Fs w0 a0 i ⟨d, .call ⟨.value (.func f), #[x, y, z, q], tys⟩, ty, pos, after, g⟩ q (Is p4))
    (h : ∀ w, Below w0.heap.size w0 w → Calls P f #[p1, p2, p3, p4] w (Ret w F)) : Ob P ops Fs w0 a0 i ⟨d, .call ⟨.value (.func f), #[x, y, z, q], tys⟩, ty, pos, after, g⟩ F := Ob.call4 hw he hx hy hz hq fun w v0 v1 v2 v3 hb e0 e1 e2 e3 => by unfold Is at *; subst e0; subst e1; subst e2; subst e3; exact h w hb
end

theorem mixed : Tryz.prog.follows .mixedOrders = true := by kernel_rfl
section
variable {w0 w : World} {b o : Nat}
theorem load_dot {x y : Int} (hb : Below w0.heap.size w0 w) (h1 : w0.cell? ⟨b, o, none⟩ = some (.int .i64 x)) (h2 : w0.cell? ⟨b, o + 1, none⟩ = some (.int .i64 y)) : (Instr.loadAt 130 (.pointer (some ⟨b, o, none⟩))).run Tryz.prog w = .ok (.agg #[.int .i64 x, .int .i64 y]) w := by
  have c1 := cellKeep hb h1
  have c2 := cellKeep hb h2
  simp [go_sem, c1, c2]
theorem load_int {x : Int} (hb : Below w0.heap.size w0 w) (h1 : w0.cell? ⟨b, o, none⟩ = some (.int .i64 x)) : (Instr.loadAt 3 (.pointer (some ⟨b, o, none⟩))).run Tryz.prog w = .ok (.int .i64 x) w := by
  have c1 := cellKeep hb h1
  simp [go_sem, c1]
theorem field_dot0 : (Instr.fieldAt 130 (.pointer (some ⟨b, o, none⟩)) 0).run Tryz.prog w = .ok (.pointer (some ⟨b, o, none⟩)) w := by simp [go_sem]
theorem field_dot1 : (Instr.fieldAt 130 (.pointer (some ⟨b, o, none⟩)) 1).run Tryz.prog w = .ok (.pointer (some ⟨b, o + 1, none⟩)) w := by simp [go_sem]

theorem index_vec {n c k : Nat} (hk : k < n) : (Instr.indexAt 116 (.slice (some ⟨b, o, none⟩) n c) (.int .i64 (k : Int))).run Tryz.prog w = .ok (.pointer (some ⟨b, o + k * 2, none⟩)) w := by
  have h1 : (0 : Int) ≤ (k : Int) := by omega
  have h2 : (k : Int) < (n : Int) := by omega
  simp [go_sem, h1, h2]
theorem index_dots {n c k : Nat} (hk : k < n) : (Instr.indexAt 115 (.slice (some ⟨b, o, none⟩) n c) (.int .i64 (k : Int))).run Tryz.prog w = .ok (.pointer (some ⟨b, o + k * 2, none⟩)) w := by
  have h1 : (0 : Int) ≤ (k : Int) := by omega
  have h2 : (k : Int) < (n : Int) := by omega
  simp [go_sem, h1, h2]
theorem sub_one {x y : Operand} {k : Nat} (hk : k + 1 ≤ 9223372036854775807) : (eqGuard .sub 3 x y (.int .i64 ((k + 1 : Nat) : Int)) (.int .i64 1)).run Tryz.prog w = .ok () w ∧ (Go.binOp .sub 3 (.int .i64 ((k + 1 : Nat) : Int)) (.int .i64 1)).run Tryz.prog w = .ok (.int .i64 (k : Int)) w := by
  have e : IntKind.i64.wrap (k : Int) = k := IntWalk.i64_in _ (by omega)
  constructor
  · simp [go_sem]
  · simp [go_sem, e]
theorem field_con0 : (Instr.fieldAt 118 (.pointer (some ⟨b, o, none⟩)) 0).run Tryz.prog w = .ok (.pointer (some ⟨b, o, none⟩)) w := by simp [go_sem]
theorem field_con1 : (Instr.fieldAt 118 (.pointer (some ⟨b, o, none⟩)) 1).run Tryz.prog w = .ok (.pointer (some ⟨b, o + 1, none⟩)) w := by simp [go_sem]
theorem load_vec {A : Option Addr} {n c : Nat} (hb : Below w0.heap.size w0 w) (h1 : w0.cell? ⟨b, o, none⟩ = some (.slice A n c)) : (Instr.loadAt 116 (.pointer (some ⟨b, o, none⟩))).run Tryz.prog w = .ok (.slice A n c) w := by
  have c1 := cellKeep hb h1
  simp [go_sem, c1]
theorem load_dots {A : Option Addr} {n c : Nat} (hb : Below w0.heap.size w0 w) (h1 : w0.cell? ⟨b, o, none⟩ = some (.slice A n c)) : (Instr.loadAt 115 (.pointer (some ⟨b, o, none⟩))).run Tryz.prog w = .ok (.slice A n c) w := by
  have c1 := cellKeep hb h1
  simp [go_sem, c1]
theorem load_con {A B : Option Addr} {n c m d : Nat} (hb : Below w0.heap.size w0 w) (h1 : w0.cell? ⟨b, o, none⟩ = some (.slice A n c)) (h2 : w0.cell? ⟨b, o + 1, none⟩ = some (.slice B m d)) : (Instr.loadAt 118 (.pointer (some ⟨b, o, none⟩))).run Tryz.prog w = .ok (.agg #[.slice A n c, .slice B m d]) w := by
  have c1 := cellKeep hb h1
  have c2 := cellKeep hb h2
  simp [go_sem, c1, c2]
theorem int_add {x y : Operand} {a c : Int} (r : Int) (h : IntKind.i64.wrap (a + c) = r) : (eqGuard .add 3 x y (.int .i64 a) (.int .i64 c)).run Tryz.prog w = .ok () w ∧ (Go.binOp .add 3 (.int .i64 a) (.int .i64 c)).run Tryz.prog w = .ok (.int .i64 r) w := by subst h; simp [go_sem]
theorem len_dots {A : Option Addr} {n c : Nat} {ty : TypeId} : (Builtin.len_ #[115] ty #[.slice A n c]).run Tryz.prog w = .ok (.int .i64 (n : Int)) w := by simp [go_sem]
theorem len_vec {A : Option Addr} {n c : Nat} {ty : TypeId} : (Builtin.len_ #[116] ty #[.slice A n c]).run Tryz.prog w = .ok (.int .i64 (n : Int)) w := by simp [go_sem]
/-- Tests on integers and bools. -/
theorem int_gtr {x y : Operand} {k : IntKind} {t : TypeId} {a c : Int} (r : Bool) (h : (decide (c < a)) = r) : (eqGuard .gtr t x y (.int k a) (.int k c)).run Tryz.prog w = .ok () w ∧ (Go.binOp .gtr t (.int k a) (.int k c)).run Tryz.prog w = .ok (.bool r) w := by subst h; simp [go_sem]
theorem int_geq {x y : Operand} {k : IntKind} {t : TypeId} {a c : Int} (r : Bool) (h : (decide (c ≤ a)) = r) : (eqGuard .geq t x y (.int k a) (.int k c)).run Tryz.prog w = .ok () w ∧ (Go.binOp .geq t (.int k a) (.int k c)).run Tryz.prog w = .ok (.bool r) w := by subst h; simp [go_sem]
theorem int_lss {x y : Operand} {k : IntKind} {t : TypeId} {a c : Int} (r : Bool) (h : (decide (a < c)) = r) : (eqGuard .lss t x y (.int k a) (.int k c)).run Tryz.prog w = .ok () w ∧ (Go.binOp .lss t (.int k a) (.int k c)).run Tryz.prog w = .ok (.bool r) w := by subst h; simp [go_sem]
theorem int_leq {x y : Operand} {k : IntKind} {t : TypeId} {a c : Int} (r : Bool) (h : (decide (a ≤ c)) = r) : (eqGuard .leq t x y (.int k a) (.int k c)).run Tryz.prog w = .ok () w ∧ (Go.binOp .leq t (.int k a) (.int k c)).run Tryz.prog w = .ok (.bool r) w := by subst h; simp [go_sem]
theorem int_eql {x y : Operand} {k : IntKind} {t : TypeId} {a c : Int} (r : Bool) (h : (a == c) = r) : (eqGuard .eql t x y (.int k a) (.int k c)).run Tryz.prog w = .ok () w ∧ (Go.binOp .eql t (.int k a) (.int k c)).run Tryz.prog w = .ok (.bool r) w := by subst h; simp [go_sem]
theorem int_neq {x y : Operand} {k : IntKind} {t : TypeId} {a c : Int} (r : Bool) (h : (a != c) = r) : (eqGuard .neq t x y (.int k a) (.int k c)).run Tryz.prog w = .ok () w ∧ (Go.binOp .neq t (.int k a) (.int k c)).run Tryz.prog w = .ok (.bool r) w := by subst h; simp [go_sem]
theorem bool_neq {x y : Operand} {a c : Bool} (r : Bool) (h : (a != c) = r) : (eqGuard .neq 4 x y (.bool a) (.bool c)).run Tryz.prog w = .ok () w ∧ (Go.binOp .neq 4 (.bool a) (.bool c)).run Tryz.prog w = .ok (.bool r) w := by subst h; cases a <;> cases c <;> simp [go_sem]
theorem bool_eql {x y : Operand} {a c : Bool} (r : Bool) (h : (a == c) = r) : (eqGuard .eql 4 x y (.bool a) (.bool c)).run Tryz.prog w = .ok () w ∧ (Go.binOp .eql 4 (.bool a) (.bool c)).run Tryz.prog w = .ok (.bool r) w := by subst h; simp [go_sem]
end
end Go.Proofs.YtkdegiobhgjghaaGreatDoor

/-
  pannierref35.Longest.
-/
namespace Go.Proofs.YtkdegiobhgjghaaGreatDoor
open Go.RowKit

theorem index_tr {w : World} {b o n c k : Nat} (hk : k < n) : (Instr.indexAt 22 (.slice (some ⟨b, o, none⟩) n c) (.int .i64 (k : Int))).run Tryz.prog w = .ok (.pointer (some ⟨b, o + k * 18, none⟩)) w := by
  have h1 : (0 : Int) ≤ (k : Int) := by omega
  have h2 : (k : Int) < (n : Int) := by omega
  simp [go_sem, h1, h2]
theorem field_tr0 {w : World} {b o : Nat} : (Instr.fieldAt 40 (.pointer (some ⟨b, o, none⟩)) 0).run Tryz.prog w = .ok (.pointer (some ⟨b, o, none⟩)) w := by simp [go_sem]
theorem field_tr1 {w : World} {b o : Nat} : (Instr.fieldAt 40 (.pointer (some ⟨b, o, none⟩)) 1).run Tryz.prog w = .ok (.pointer (some ⟨b, o + 1, none⟩)) w := by simp [go_sem]
theorem load_step {w0 w : World} {b o : Nat} {x : Int} (hb : Below w0.heap.size w0 w) (h1 : w0.cell? ⟨b, o, none⟩ = some (.int .i64 x)) : (Instr.loadAt 29 (.pointer (some ⟨b, o, none⟩))).run Tryz.prog w = .ok (.int .i64 x) w := by
  have c1 := cellKeep hb h1
  simp [go_sem, c1]
/-- Is step j that in which the call of task t was asked for? -/
def hit (f : Nat → TS) (t : Int) (j : Nat) : Prop := (f j).1 = t ∧ (f j).2 = 1
theorem last_here {f : Nat → TS} {t : Int} {k : Nat} (h : hit f t k) : lastC f t (k + 1) = some k := by rw [lastC]; exact if_pos h
theorem Tr.two {w : World} {A : Option Addr} {n c : Nat} {f : Nat → TS} (h : Tr w A n c f) {i : Nat} (hi : i < n) : ∃ b o, A = some ⟨b, o, none⟩ ∧ w.cell? ⟨b, o + i * 18, none⟩ = some (.int .i64 (f i).1) ∧ w.cell? ⟨b, o + i * 18 + 1, none⟩ = some (.int .i64 (f i).2) := by
  obtain ⟨b, o, v, e, hr, _⟩ := h.cell i hi
  exact ⟨b, o, e, hr 0 _ rfl, hr 1 _ rfl⟩
/-- The search back from step i for the call of its task: none of those from k on. -/
def BRel (w : World) (f : Nat → TS) (i : Nat) (j : Value) (wr : World) : Prop :=
  ∃ k : Nat, j = .int .i64 ((k : Int) - 1) ∧ k ≤ i ∧ (∀ q, k ≤ q → q < i → ¬hit f (f i).1 q) ∧ Below w.heap.size w wr
def RRel (w : World) (n : Nat) (f : Nat → TS) (u i : Value) (wr : World) : Prop :=
  ∃ k : Nat, i = .int .i64 k ∧ u = .int .i64 (long f k) ∧ k ≤ n ∧ Below w.heap.size w wr
theorem pred_in {q : Nat} (h : q ≤ 1000000) : wrap64 ((q : Int) - 1) = q - 1 := by unfold wrap64; omega
set_option maxRecDepth 100000 in
set_option maxHeartbeats 4000000 in
theorem rLongest (A : Option Addr) (n c : Nat) (f : Nat → TS) (w : World) (h : Tr w A n c f) (hn : n ≤ 1000) :
    Calls Tryz.prog 7 #[.slice A n c] w (Ret w (IsI (long f n))) := by
  have HN := Lib.hid hn
  have H := Lib.hid h; have HBG := h.big; clear h hn
  go_enter Tryz.func7, Tryz.ntmps7
  go_wp2
  go_loopw [3, 4] (fun u i wr => RRel w n f u i wr) (fun _ i _ => n - (intOf i).toNat)
  case atStart => exact ⟨0, rfl, rfl, Nat.zero_le _, Below.refl _ _⟩
  case round =>
    obtain ⟨k, rfl, rfl, hk, hb⟩ := hrel
    have HB := Lib.hid hb
    clear hb
    by_cases hlt : k < n
    · have HLT := Lib.hid hlt
      have HTR := Lib.hid (H.out.mono HB.out)
      obtain ⟨b, o, rfl, h0, h1⟩ := HTR.out.two hlt
      have LE := Lib.hid (long_le f k)
      by_cases h6 : (f k).2 = 6
      · have E6 := Lib.hid (show long f (k + 1) = more (long f k) k (lastC f (f k).1 k) by rw [long, if_pos h6])
        rw [h6] at h1
        have C0 := Lib.hid h0
        clear h0 h6
        go_wp2
        clear h1
        generalize hWR : wr = WR at *
        clear hWR
        go_loopw [5] (fun j wq => BRel WR f k j wq) (fun j _ => (intOf j + 1).toNat)
        case atStart => exact ⟨k, by first | rfl | rw [pred_in (by have := HLT.out; have := HN.out; omega)], Nat.le_refl _, fun q h1 h2 => by omega, Below.refl _ _⟩
        case round =>
          obtain ⟨q, rfl, hq, hno, hbq⟩ := hrel
          have HQ := Lib.hid hq; have NO := Lib.hid hno; have HBQ := Lib.hid hbq
          clear hno hbq
          cases q with
          | zero =>
            have NONE := Lib.hid (lastC_none (f := f) (t := (f k).1) (i := k) fun j hj => NO.out j (Nat.zero_le _) hj)
            go_wp2_with fail
            refine wp_region_M mixed (by kernel_rfl) ?_
            refine MDerR.step (Ob.move Wanted.free Has.oldIs) ?_
            refine MDerR.step (Ob.binV Wanted.free (Has.new 0 0) (Has.cst _) (fun w1 => int_geq false (by simp))) ?_
            refine MDerR.step (Ob.move Wanted.free (Has.new 1 0)) ?_
            refine MDerR.step (Ob.off 2 0) ?_
            refine MDerR.step (Ob.off 2 1) ?_
            refine MDerR.step (Ob.off 2 2) ?_
            refine MDerR.step (Ob.off 2 3) ?_
            refine MDerR.step (Ob.off 2 4) ?_
            refine MDerR.step (Ob.off 2 5) ?_
            refine MDerR.step (Ob.off 2 6) ?_
            refine MDerR.step (Ob.off 2 7) ?_
            refine MDerR.step (Ob.off 2 8) ?_
            refine MDerR.step (Ob.off 2 9) ?_
            refine MDerR.step (Ob.off 2 10) ?_
            refine MDerR.step (Ob.off 2 11) ?_
            refine MDerR.step (Ob.offU 14 0) ?_
            refine MDerR.step (Ob.offU 14 1) ?_
            refine MDerR.step (Ob.offU 14 2) ?_
            refine MDerR.step (Ob.offU 14 3) ?_
            refine MDerR.step (Ob.offU 14 4) ?_
            refine MDerR.step (Ob.offU 14 5) ?_
            refine MDerR.step (Ob.off 2 18) ?_
            refine MDerR.step (Ob.pickF Wanted.free (Has.new 2 19) (Has.cst _)) ?_
            simp only [MDerR, dstsOf, List.map, EndM, List.reverse_cons, List.reverse_nil, List.nil_append, List.cons_append]
            intro wE hE
            iterate 23 (rintro _ rfl)
            simp only [Act.put, List.setIfInBounds_toArray, List.set_cons_zero, List.set_cons_succ]
            go_wp2
            go_roundw
            case rel => exact ⟨k + 1, by simp, by rw [E6.out, NONE.out]; rfl, HLT.out, HB.out.le (HBQ.out.le hE)⟩
            case measure => simp [intOf]; omega
          | succ q =>
            have ej : (((q + 1 : Nat) : Int) - 1) = (q : Int) := by omega
            rw [ej]
            clear ej
            have HQN := Lib.hid (show q < n by have := HQ.out; have := HLT.out; omega)
            obtain ⟨b2, o2, e2, q0, q1⟩ := (HTR.out.mono HBQ.out).two HQN.out
            obtain ⟨rfl, rfl⟩ : b = b2 ∧ o = o2 := by cases e2; exact ⟨rfl, rfl⟩
            have Q0 := Lib.hid q0; have Q1 := Lib.hid q1; have K0 := Lib.hid (cellKeep HBQ.out C0.out)
            clear e2 q0 q1
            by_cases ht : (f q).1 = (f k).1
            · by_cases hs : (f q).2 = 1
              · have LAST := Lib.hid (show lastC f (f k).1 k = some q from (lastC_back (show q < k by have := HQ.out; omega) fun j h1 h2 => NO.out j h1 h2).trans (last_here ⟨ht, hs⟩))
                have T0 := Lib.hid (show ((f q).1 != (f k).1) = false by simp [ht])
                have T1 := Lib.hid (show ((f q).2 != 1) = false by simp [hs])
                clear ht hs
                go_wp2_with fail
                refine wp_region_M mixed (by kernel_rfl) ?_
                refine MDerR.step (Ob.move Wanted.free Has.oldIs) ?_
                refine MDerR.step (Ob.binV Wanted.free (Has.new 0 0) (Has.cst _) (fun w1 => int_geq true (by simp))) ?_
                refine MDerR.step (Ob.move Wanted.free (Has.new 1 0)) ?_
                refine MDerR.step (Ob.move (Wanted.on 2 0) Has.oldIs) ?_
                refine MDerR.step (Ob.move (Wanted.on 2 1) Has.oldIs) ?_
                refine MDerR.step (Ob.indexV (Wanted.on 2 2) (Has.new 3 1) (Has.new 4 0) (fun w1 => index_tr HQN.out)) ?_
                refine MDerR.step (Ob.fieldV (Wanted.on 2 3) (Has.new 5 0) (fun w1 => field_tr0)) ?_
                refine MDerR.step (Ob.loadV (Wanted.on 2 4) (Has.new 6 0) (fun w1 hb1 => load_int hb1 Q0.out)) ?_
                refine MDerR.step (Ob.move (Wanted.on 2 5) Has.oldIs) ?_
                refine MDerR.step (Ob.move (Wanted.on 2 6) Has.oldIs) ?_
                refine MDerR.step (Ob.indexV (Wanted.on 2 7) (Has.new 8 1) (Has.new 9 0) (fun w1 => index_tr HLT.out)) ?_
                refine MDerR.step (Ob.fieldV (Wanted.on 2 8) (Has.new 10 0) (fun w1 => field_tr0)) ?_
                refine MDerR.step (Ob.loadV (Wanted.on 2 9) (Has.new 11 0) (fun w1 hb1 => load_int hb1 K0.out)) ?_
                refine MDerR.step (Ob.binV (Wanted.on 2 10) (Has.new 7 5) (Has.new 12 0) (fun w1 => int_neq false T0.out)) ?_
                refine MDerR.step (Ob.move (Wanted.on 2 11) (Has.new 13 0)) ?_
                refine MDerR.step (Ob.move (Wanted.on 14 0) Has.oldIs) ?_
                refine MDerR.step (Ob.move (Wanted.on 14 1) Has.oldIs) ?_
                refine MDerR.step (Ob.indexV (Wanted.on 14 2) (Has.new 15 1) (Has.new 16 0) (fun w1 => index_tr HQN.out)) ?_
                refine MDerR.step (Ob.fieldV (Wanted.on 14 3) (Has.new 17 0) (fun w1 => field_tr1)) ?_
                refine MDerR.step (Ob.loadV (Wanted.on 14 4) (Has.new 18 0) (fun w1 hb1 => load_step hb1 Q1.out)) ?_
                refine MDerR.step (Ob.binV (Wanted.on 14 5) (Has.new 19 0) (Has.cst _) (fun w1 => int_neq false T1.out)) ?_
                refine MDerR.step (Ob.pickF (Wanted.on 2 18) (Has.new 14 6) (Has.new 20 0)) ?_
                refine MDerR.step (Ob.pickT Wanted.free (Has.new 2 19) (Has.new 21 0)) ?_
                simp only [MDerR, dstsOf, List.map, EndM, List.reverse_cons, List.reverse_nil, List.nil_append, List.cons_append]
                intro wE hE
                iterate 23 (rintro _ rfl)
                simp only [Act.put, List.setIfInBounds_toArray, List.set_cons_zero, List.set_cons_succ]
                go_wp2
                go_roundw
                case rel => exact ⟨k + 1, by simp, by rw [E6.out, LAST.out]; first | exact congrArg (Value.int .i64) (more_go2 LE.out (show q < k by have := HQ.out; omega) (by have := HLT.out; have := HN.out; omega) rfl) | exact congrArg (Value.int .i64) (more_go LE.out (show q < k by have := HQ.out; omega) (by have := HLT.out; have := HN.out; omega) rfl) | exact congrArg (Value.int .i64) (more_go3 LE.out (show q < k by have := HQ.out; omega) (by have := HLT.out; have := HN.out; omega) rfl) | exact congrArg (Value.int .i64) (more_go4 LE.out (show q < k by have := HQ.out; omega) (by have := HLT.out; have := HN.out; omega) rfl), HLT.out, HB.out.le (HBQ.out.le hE)⟩
                case measure => simp [intOf]; omega
              · have NOT := Lib.hid (show ¬hit f (f k).1 q from fun h => hs h.2)
                have T0 := Lib.hid (show ((f q).1 != (f k).1) = false by simp [ht])
                have T1 := Lib.hid (show ((f q).2 != 1) = true by simp [hs])
                clear ht hs
                go_wp2_with fail
                refine wp_region_M mixed (by kernel_rfl) ?_
                refine MDerR.step (Ob.move Wanted.free Has.oldIs) ?_
                refine MDerR.step (Ob.binV Wanted.free (Has.new 0 0) (Has.cst _) (fun w1 => int_geq true (by simp))) ?_
                refine MDerR.step (Ob.move Wanted.free (Has.new 1 0)) ?_
                refine MDerR.step (Ob.move (Wanted.on 2 0) Has.oldIs) ?_
                refine MDerR.step (Ob.move (Wanted.on 2 1) Has.oldIs) ?_
                refine MDerR.step (Ob.indexV (Wanted.on 2 2) (Has.new 3 1) (Has.new 4 0) (fun w1 => index_tr HQN.out)) ?_
                refine MDerR.step (Ob.fieldV (Wanted.on 2 3) (Has.new 5 0) (fun w1 => field_tr0)) ?_
                refine MDerR.step (Ob.loadV (Wanted.on 2 4) (Has.new 6 0) (fun w1 hb1 => load_int hb1 Q0.out)) ?_
                refine MDerR.step (Ob.move (Wanted.on 2 5) Has.oldIs) ?_
                refine MDerR.step (Ob.move (Wanted.on 2 6) Has.oldIs) ?_
                refine MDerR.step (Ob.indexV (Wanted.on 2 7) (Has.new 8 1) (Has.new 9 0) (fun w1 => index_tr HLT.out)) ?_
                refine MDerR.step (Ob.fieldV (Wanted.on 2 8) (Has.new 10 0) (fun w1 => field_tr0)) ?_
                refine MDerR.step (Ob.loadV (Wanted.on 2 9) (Has.new 11 0) (fun w1 hb1 => load_int hb1 K0.out)) ?_
                refine MDerR.step (Ob.binV (Wanted.on 2 10) (Has.new 7 5) (Has.new 12 0) (fun w1 => int_neq false T0.out)) ?_
                refine MDerR.step (Ob.move (Wanted.on 2 11) (Has.new 13 0)) ?_
                refine MDerR.step (Ob.move (Wanted.on 14 0) Has.oldIs) ?_
                refine MDerR.step (Ob.move (Wanted.on 14 1) Has.oldIs) ?_
                refine MDerR.step (Ob.indexV (Wanted.on 14 2) (Has.new 15 1) (Has.new 16 0) (fun w1 => index_tr HQN.out)) ?_
                refine MDerR.step (Ob.fieldV (Wanted.on 14 3) (Has.new 17 0) (fun w1 => field_tr1)) ?_
                refine MDerR.step (Ob.loadV (Wanted.on 14 4) (Has.new 18 0) (fun w1 hb1 => load_step hb1 Q1.out)) ?_
                refine MDerR.step (Ob.binV (Wanted.on 14 5) (Has.new 19 0) (Has.cst _) (fun w1 => int_neq true T1.out)) ?_
                refine MDerR.step (Ob.pickF (Wanted.on 2 18) (Has.new 14 6) (Has.new 20 0)) ?_
                refine MDerR.step (Ob.pickT Wanted.free (Has.new 2 19) (Has.new 21 0)) ?_
                simp only [MDerR, dstsOf, List.map, EndM, List.reverse_cons, List.reverse_nil, List.nil_append, List.cons_append]
                intro wE hE
                iterate 23 (rintro _ rfl)
                simp only [Act.put, List.setIfInBounds_toArray, List.set_cons_zero, List.set_cons_succ]
                go_wp2
                go_roundw
                case rel => exact ⟨q, by first | rfl | rw [pred_in (by have := HQ.out; have := HLT.out; have := HN.out; omega)], by have := HQ.out; omega, fun p h1 h2 => by
                  by_cases e : p = q
                  · subst e; exact NOT.out
                  · exact NO.out p (by omega) h2, HBQ.out.le hE⟩
                case measure => first | (simp [intOf]; done) | (simp [intOf]; omega)
            · have NOT := Lib.hid (show ¬hit f (f k).1 q from fun h => ht h.1)
              have T0 := Lib.hid (show ((f q).1 != (f k).1) = true by simp [ht])
              clear ht
              go_wp2_with fail
              refine wp_region_M mixed (by kernel_rfl) ?_
              refine MDerR.step (Ob.move Wanted.free Has.oldIs) ?_
              refine MDerR.step (Ob.binV Wanted.free (Has.new 0 0) (Has.cst _) (fun w1 => int_geq true (by simp))) ?_
              refine MDerR.step (Ob.move Wanted.free (Has.new 1 0)) ?_
              refine MDerR.step (Ob.move (Wanted.on 2 0) Has.oldIs) ?_
              refine MDerR.step (Ob.move (Wanted.on 2 1) Has.oldIs) ?_
              refine MDerR.step (Ob.indexV (Wanted.on 2 2) (Has.new 3 1) (Has.new 4 0) (fun w1 => index_tr HQN.out)) ?_
              refine MDerR.step (Ob.fieldV (Wanted.on 2 3) (Has.new 5 0) (fun w1 => field_tr0)) ?_
              refine MDerR.step (Ob.loadV (Wanted.on 2 4) (Has.new 6 0) (fun w1 hb1 => load_int hb1 Q0.out)) ?_
              refine MDerR.step (Ob.move (Wanted.on 2 5) Has.oldIs) ?_
              refine MDerR.step (Ob.move (Wanted.on 2 6) Has.oldIs) ?_
              refine MDerR.step (Ob.indexV (Wanted.on 2 7) (Has.new 8 1) (Has.new 9 0) (fun w1 => index_tr HLT.out)) ?_
              refine MDerR.step (Ob.fieldV (Wanted.on 2 8) (Has.new 10 0) (fun w1 => field_tr0)) ?_
              refine MDerR.step (Ob.loadV (Wanted.on 2 9) (Has.new 11 0) (fun w1 hb1 => load_int hb1 K0.out)) ?_
              refine MDerR.step (Ob.binV (Wanted.on 2 10) (Has.new 7 5) (Has.new 12 0) (fun w1 => int_neq true T0.out)) ?_
              refine MDerR.step (Ob.move (Wanted.on 2 11) (Has.new 13 0)) ?_
              refine MDerR.step (Ob.off 14 0) ?_
              refine MDerR.step (Ob.off 14 1) ?_
              refine MDerR.step (Ob.off 14 2) ?_
              refine MDerR.step (Ob.off 14 3) ?_
              refine MDerR.step (Ob.off 14 4) ?_
              refine MDerR.step (Ob.off 14 5) ?_
              refine MDerR.step (Ob.pickT (Wanted.on 2 18) (Has.new 14 6) (Has.cst _)) ?_
              refine MDerR.step (Ob.pickT Wanted.free (Has.new 2 19) (Has.new 21 0)) ?_
              simp only [MDerR, dstsOf, List.map, EndM, List.reverse_cons, List.reverse_nil, List.nil_append, List.cons_append]
              intro wE hE
              iterate 23 (rintro _ rfl)
              simp only [Act.put, List.setIfInBounds_toArray, List.set_cons_zero, List.set_cons_succ]
              go_wp2
              go_roundw
              case rel => exact ⟨q, by first | rfl | rw [pred_in (by have := HQ.out; have := HLT.out; have := HN.out; omega)], by have := HQ.out; omega, fun p h1 h2 => by
                by_cases e : p = q
                · subst e; exact NOT.out
                · exact NO.out p (by omega) h2, HBQ.out.le hE⟩
              case measure => first | (simp [intOf]; done) | (simp [intOf]; omega)
      · have LS := Lib.hid (show long f (k + 1) = long f k by rw [long, if_neg h6])
        go_wp2
        go_roundw
        case rel => exact ⟨k + 1, by simp, by rw [LS.out], hlt, HB.out⟩
        case measure => simp [intOf]; omega
    · have hkn : k = n := by omega
      subst hkn
      go_wp2
      go_ret
      exact ⟨_, rfl, HB.out, rfl⟩
end Go.Proofs.YtkdegiobhgjghaaGreatDoor

/-
  FairLongests: of any trace, over the package variables as the program's text lays them, the law returns true.
-/
namespace Go.Proofs.YtkdegiobhgjghaaGreatDoor
open Go.RowKit
theorem retB' {b c : Bool} {w w' : World} (h : b = c) (hb : Below w.heap.size w w') : Ret w (IsB c) (.returned (.bool b)) w' := ⟨_, rfl, hb, by rw [h]; rfl⟩
theorem sat_keep {w w' : World} {G : V.AH} (hs : V.Sat 400 V.still (V.lk G) w ∧ V.WF 400 (V.lk G) 400) (hb : Below w.heap.size w w') : V.Sat 400 V.still (V.lk G) w' ∧ V.WF 400 (V.lk G) 400 := by
  obtain ⟨h, k⟩ := hs
  refine ⟨⟨h.fix, fun i o ho => ?_, h.inj⟩, k⟩
  have ha := h.at_ i o ho
  have lt : (V.still i).blk < w.heap.size := by
    cases o with
    | cells cs e es x => obtain ⟨c, fr, h1, _⟩ := ha; exact (Array.getElem?_eq_some_iff.1 h1).1
    | map es c => exact (Array.getElem?_eq_some_iff.1 ha.2).1
    | str s p => exact (Array.getElem?_eq_some_iff.1 ha.2).1
    | mit m s x l => exact (Array.getElem?_eq_some_iff.1 ha.2).1
  rw [hb.block _ lt]
  exact ha
theorem lLong (A : Option Addr) (n c : Nat) (f : Nat → TS) (want : Int) (w : World) (h : Tr w A n c f) (hn : n ≤ 100000) (hw : long f n = want) :
    Calls Tryz.prog 6 #[.slice A n c, .int .i64 want, .int .i64 0] w (Ret w (IsB true)) := by
  have C := Lib.hid (cLongest A n c f w h hn)
  rw [hw] at C
  clear h hn hw
  go_enter Tryz.func6, Tryz.ntmps6
  go_wp2_with fail
  refine C.out.mono ?_
  rintro _ w1 ⟨_, rfl, hb1, rfl⟩
  go_wp2
  go_ret
  exact retB' (by simp) hb1
theorem lLongErr (A : Option Addr) (n c : Nat) (w : World) (h : 100000 < n) (hn : n ≤ 9223372036854775807) :
    Calls Tryz.prog 6 #[.slice A n c, .int .i64 0, .int .i64 5] w (Ret w (IsB true)) := by
  have C := Lib.hid (cLongestLong A n c w h hn)
  clear h hn
  go_enter Tryz.func6, Tryz.ntmps6
  go_wp2_with fail
  refine C.out.mono ?_
  rintro _ w1 ⟨_, rfl, hb1, rfl⟩
  go_wp2
  go_ret
  exact retB' (by simp) hb1
set_option maxRecDepth 100000 in
theorem lawLongests (A : Option Addr) (n c : Nat) (f : Nat → TS) (w : World) (h : Tr w A n c f) (hs : V.Sat 400 V.still (V.lk G0) w ∧ V.WF 400 (V.lk G0) 400) :
    Calls Tryz.prog 3 #[.slice A n c] w (Ret w (IsB true)) := by
  have HBG := h.big
  have HS := Lib.hid hs
  by_cases hn : n ≤ 120
  · have d0 : decide ((120 : Int) < (n : Int)) = false := decide_eq_false (by omega)
    have RL := Lib.hid (rLongest A n c f w h (by omega))
    have H := Lib.hid h; have HN := Lib.hid hn
    clear h hs hn
    go_enter Tryz.func3, Tryz.ntmps3
    go_wp2_with fail
    refine RL.out.mono ?_
    rintro _ w1 ⟨_, rfl, hb1, rfl⟩
    have HB1 := Lib.hid hb1
    clear hb1
    go_wp2_with fail
    refine (lLong A n c f _ _ (H.out.mono HB1.out) (by have := HN.out; omega) rfl).mono ?_
    rintro _ w2 ⟨_, rfl, hb2, rfl⟩
    have HB2 := Lib.hid (HB1.out.le hb2)
    clear hb2
    go_wp2_with fail
    refine (known_true (sat_keep HS.out HB2.out)).mono ?_
    rintro _ w3 ⟨_, rfl, hb3, rfl⟩
    go_wp2
    go_ret
    exact retB' rfl (HB2.out.le hb3)
  · have d0 : decide ((120 : Int) < (n : Int)) = true := decide_eq_true (by omega)
    clear h hs hn
    go_enter Tryz.func3, Tryz.ntmps3
    go_wp2_with fail
    refine (known_true HS.out).mono ?_
    rintro _ w3 ⟨_, rfl, hb3, rfl⟩
    go_wp2
    go_ret
    exact retB' rfl hb3
end Go.Proofs.YtkdegiobhgjghaaGreatDoor

/-
  FairLongs: of any numbers, over the package variables as the program's text lays them, the law returns true.
-/
namespace Go.Proofs.YtkdegiobhgjghaaGreatDoor
open Go.RowKit
def v0 : Nat → Value := fun j => [.bool false, .bool false, .int .i64 0, .bool false, .int .i64 0, .slice none 0 0, .bool false, .int .i64 0, .string ⟨#[]⟩, .string ⟨#[]⟩, .string ⟨#[]⟩, .int .i64 0, .slice none 0 0, .int .i64 0, .int .i64 0, .int .i64 0, .slice none 0 0, .slice none 0 0].getD j (.bool false)
def zeros : Array Value := #[.int .i64 0, .int .i64 0, .int .i64 0, .bool false, .int .i64 0, .slice none 0 0, .bool false, .int .i64 0, .string ⟨#[]⟩, .string ⟨#[]⟩, .string ⟨#[]⟩, .int .i64 0, .slice none 0 0, .int .i64 0, .int .i64 0, .int .i64 0, .slice none 0 0, .slice none 0 0]
theorem info_did : (Tryz.prog.info? 40).map (fun i => (i.size, (i.zero.map Value.cells), decide (i.bytes ≤ 1000))) = some (18, some zeros, true) := by kernel_rfl
theorem wpList_makeT {P : Program} (w : World) {ops : Array Oper} {rest : List Oper} {o : Oper} {a : Act} {Q : Exit → Act → World → Prop}
    (hg : o.guard = none) (l c : Operand) (hop : o.op = Op.makeSlice 22 l c) (hP : P = Tryz.prog) (L : Int) (n : Nat) (hl : a.eval l = .int .i64 L) (hc : a.eval c = .int .i64 L) (hL : L = (n : Int)) (hn : n ≤ 1000000)
    (hK : wpList P ops Q rest (a.put o.dst (.slice (some ⟨w.heap.size, 0, none⟩) n n)) (w.alloc (.cells (madeCells zeros (n * 18)) 40))) :
    wpList P ops Q (o :: rest) a w := by
  subst hP
  subst hL
  refine wpList_plain hg fun K hK' => ?_
  obtain ⟨i, hi, hzz⟩ := Option.map_eq_some_iff.1 info_did
  simp only [Prod.mk.injEq] at hzz
  obtain ⟨h1, h2, h3⟩ := hzz
  obtain ⟨z, hz, hz2⟩ := Option.map_eq_some_iff.1 h2
  have h4 : i.bytes ≤ 1000 := of_decide_eq_true h3
  have h5 : i.bytes * n ≤ 1000 * 1000000 := Nat.mul_le_mul h4 hn
  have hb' : (i.bytes : Int) * (n : Int) ≤ 281474976710656 := by
    have h : ((i.bytes * n : Nat) : Int) ≤ 281474976710656 := by omega
    rwa [Int.natCast_mul] at h
  have hrun := run_make (P := Tryz.prog) w 22 40 i z Tryz.underlying22 hi hz .i64 .i64 n n (by omega) (Int.le_refl _) hb' (by omega)
  simp only [Int.toNat_natCast, h1, hz2] at hrun
  unfold Oper.wp
  simp [execOp, hop, hl, hc, hrun, Result.andThen]
  exact hK' _ _ hK
theorem made_zeros (w : World) (n : Nat) : Arr (w.alloc (.cells (madeCells zeros (n * 18)) 40)) w.heap.size n 18 (fun _ => zeros.toList) := Arr.made w zeros n 40 (by decide)
theorem ones (a c : Int) : (#[.int .i64 a, .int .i64 c, .int .i64 0, .bool false, .int .i64 0, .slice none 0 0, .bool false, .int .i64 0, .string ⟨#[]⟩, .string ⟨#[]⟩, .string ⟨#[]⟩, .int .i64 0, .slice none 0 0, .int .i64 0, .int .i64 0, .int .i64 0, .slice none 0 0, .slice none 0 0] : Array Value).all (·.oneCell') = true := by simp [Value.oneCell']
def didA (a c : Int) : Array Value := #[.int .i64 a, .int .i64 c, .int .i64 0, .bool false, .int .i64 0, .slice none 0 0, .bool false, .int .i64 0, .string ⟨#[]⟩, .string ⟨#[]⟩, .string ⟨#[]⟩, .int .i64 0, .slice none 0 0, .int .i64 0, .int .i64 0, .int .i64 0, .slice none 0 0, .slice none 0 0]
/-- The first k elements are filled. -/
def FRel (w : World) (g n : Nat) (i : Value) (wr : World) : Prop :=
  ∃ k : Nat, i = .int .i64 k ∧ k ≤ n ∧ Below w.heap.size w wr ∧ Arr wr g n 18 (fun j => if j < k then (didA 1 7).toList else zeros.toList)
theorem Arr.put {w0 w : World} {g n : Nat} {F : Nat → List Value} (h : Arr w g n 18 F) (hg : w0.heap.size ≤ g) (hb : Below w0.heap.size w0 w) {i : Nat} (hi : i < n) (a c : Int) :
    Arr (w.setCells g (i * 18) (didA a c).toList) g n 18 (fun j => if j = i then (didA a c).toList else F j) ∧ Below w0.heap.size w0 (w.setCells g (i * 18) (didA a c).toList) :=
  ⟨h.store hi rfl, belowCells hg _ _ _ hb⟩
theorem tr_of {w : World} {g n : Nat} {F : Nat → List Value} {f : Nat → TS} (h : Arr w g n 18 F) (hF : ∀ i, i < n → F i = did18 (f i) v0) (hn : n ≤ 1000000) (hw : ∀ i, i < n → (Lit.int .i64 (f i).1).wf = true) : Tr w (some ⟨g, 0, none⟩) n n f :=
  ⟨Nat.le_refl _, by unfold maxLen; omega, (fun e => nomatch e), fun i hi => ⟨g, 0, v0, rfl, by rw [Nat.zero_add, ← hF i hi]; exact h.at_ i hi, fun j => by
    unfold v0
    match j with
    | 0 | 1 | 2 | 3 | 4 | 5 | 6 | 7 | 8 | 9 | 10 | 11 | 12 | 13 | 14 | 15 | 16 | 17 => rfl
    | j + 18 => rfl⟩, hw⟩
def fL (n a : Nat) (i : Nat) : TS := if i = a + 1 then (2, 6) else if i = 0 then (2, 1) else (1, 7)
set_option maxRecDepth 100000 in
set_option maxHeartbeats 4000000 in
theorem lawLongs (more at_ : Int) (w : World) (ha : 0 ≤ at_ ∧ at_ ≤ 65535) (hs : V.Sat 400 V.still (V.lk G0) w ∧ V.WF 400 (V.lk G0) 400) :
    Calls Tryz.prog 4 #[.int .i64 more, .int .u16 at_] w (Ret w (IsB true)) := by
  have HS := Lib.hid hs
  clear hs
  by_cases h1 : more < -2
  · have d1 : decide (more < -2) = true := decide_eq_true h1
    clear ha h1
    go_enter Tryz.func4, Tryz.ntmps4
    go_wp2_with fail
    refine (known_true HS.out).mono ?_
    rintro _ w9 ⟨_, rfl, hb9, rfl⟩
    go_wp2
    go_ret
    exact retB' rfl hb9
  by_cases h2 : 2 < more
  · have d1 : decide (more < -2) = false := decide_eq_false h1
    have d2 : decide (2 < more) = true := decide_eq_true h2
    clear ha h1 h2
    go_enter Tryz.func4, Tryz.ntmps4
    go_wp2_with fail
    refine (known_true HS.out).mono ?_
    rintro _ w9 ⟨_, rfl, hb9, rfl⟩
    go_wp2
    go_ret
    exact retB' rfl hb9
  have d1 : decide (more < -2) = false := decide_eq_false h1
  have d2 : decide (2 < more) = false := decide_eq_false h2
  obtain ⟨n, hn⟩ : ∃ n : Nat, 100000 + more = (n : Int) := ⟨(100000 + more).toNat, by omega⟩
  have WR := Lib.hid (show wrap64 (100000 + more) = (n : Int) by unfold wrap64; omega)
  have HN := Lib.hid hn; have HA := Lib.hid ha; have H1 := Lib.hid h1; have H2 := Lib.hid h2
  clear hn ha h1 h2
  go_enter Tryz.func4, Tryz.ntmps4
  go_wp2_with (first | (at_make; refine Halt.go ?_) | fail)
  unfold Halt
  have hn1 : n ≤ 100002 ∧ 99998 ≤ n := by
    have h3 := of_decide_eq_false d1; have h4 := of_decide_eq_false d2; have := HN.out
    omega
  have HN1 := Lib.hid hn1
  have HBG : n ≤ 9223372036854775807 := by omega
  clear hn1 d1 d2
  refine wpList_makeT w rfl _ _ rfl rfl _ n rfl rfl WR.out (by have := HN1.out; omega) ?_
  simp only [Act.put, List.setIfInBounds_toArray, List.set_cons_zero, List.set_cons_succ]
  have arr := made_zeros w n
  have hb0 : Below w.heap.size w (w.alloc (.cells (madeCells zeros (n * 18)) 40)) := (Below.refl _ _).alloc (Nat.le_refl _) _
  generalize w.alloc (.cells (madeCells zeros (n * 18)) 40) = W0 at *
  have ARR := Lib.hid arr; have HB := Lib.hid hb0
  clear arr hb0
  go_wp2
  go_loopw [6] (fun i wr => FRel w w.heap.size n i wr) (fun i _ => n - (intOf i).toNat)
  case atStart => exact ⟨0, rfl, Nat.zero_le _, HB.out, ARR.out.congr fun i _ => by simp⟩
  case round =>
    clear ARR HB
    obtain ⟨k, rfl, hk, hb, arr⟩ := hrel
    have ARR := Lib.hid arr; have HB := Lib.hid hb
    clear arr hb
    by_cases hlt : k < n
    · have HLT := Lib.hid hlt
      have HP := Lib.hid (ARR.out.put (Nat.le_refl _) HB.out hlt 1 7)
      obtain ⟨W2, hW2⟩ : ∃ W2, W2 = wr.setCells w.heap.size (k * 18) (didA 1 7).toList := ⟨_, rfl⟩
      rw [← hW2] at HP
      have HW2 := Lib.hid hW2
      clear hW2
      go_wp2_with (first
        | (refine wpList_store_mid rfl 40 _ _ rfl w.heap.size (k * 18) (didA 1 7) rfl rfl (ARR.out.part HLT.out) (show (Tryz.prog.info? 40).map (·.size) = some 18 by kernel_rfl) (ones _ _) ?_
           simp only [Act.put, List.setIfInBounds_toArray, List.set_cons_zero, List.set_cons_succ]
           refine cast_world HW2.out ?_)
        | fail)
      go_roundw
      case rel => exact ⟨k + 1, by simp, HLT.out, HP.out.2, HP.out.1.congr fun i _ => by
        by_cases e : i = k
        · simp [e]
        · have : (i < k + 1) = (i < k) := by simp; omega
          simp [e, this]⟩
      case measure => simp [intOf]; omega
    · have hkn : k = n := by omega
      subst hkn
      clear hk hlt
      replace ARR := Lib.hid (ARR.out.congr (k := fun _ => (didA 1 7).toList) fun i hi => by simp [hi])
      obtain ⟨a, rfl⟩ : ∃ a : Nat, at_ = (a : Int) := ⟨at_.toNat, by have := HA.out; omega⟩
      have ha : a + 1 < k := by have := HA.out; have := HN1.out; omega
      have h0 : 0 < k := by omega
      have HP := Lib.hid (ARR.out.put (Nat.le_refl _) HB.out h0 2 1)
      obtain ⟨W2, hW2⟩ : ∃ W2, W2 = wr.setCells w.heap.size (0 * 18) (didA 2 1).toList := ⟨_, rfl⟩
      rw [← hW2] at HP
      have HQ := Lib.hid (HP.out.1.put (Nat.le_refl _) HP.out.2 ha 2 6)
      obtain ⟨W3, hW3⟩ : ∃ W3, W3 = W2.setCells w.heap.size ((a + 1) * 18) (didA 2 6).toList := ⟨_, rfl⟩
      rw [← hW3] at HQ
      have HW2 := Lib.hid hW2; have HW3 := Lib.hid hW3; have HAL := Lib.hid ha; have H0 := Lib.hid h0
      clear hW2 hW3 ha h0
      have TR := Lib.hid (tr_of (f := fL k a) HQ.out.1 (fun i hi => by
        unfold fL
        by_cases e : i = a + 1
        · simp only [if_pos e]; rfl
        · by_cases e0 : i = 0
          · simp only [if_neg e, if_pos e0]; rfl
          · simp only [if_neg e, if_neg e0]; rfl) (by have := HN1.out; omega) (fun i hi => by unfold fL; split <;> (try split) <;> rfl))
      have LONG := Lib.hid (show long (fL k a) k = (a : Int) + 1 by
        rw [long_longs (a := a) (by unfold fL; simp) (by unfold fL; simp) (fun i h0 h1 => by unfold fL; simp [h0, h1]) k, if_pos HAL.out])
      replace HB := Lib.hid HQ.out.2
      have AL := HAL.out
      by_cases hm : 0 < more
      · have d3 : decide (0 < more) = true := by simpa using hm
        clear hm
        go_wp2_with (first
          | (refine wpList_store_mid rfl 40 _ _ rfl w.heap.size (0 * 18) (didA 2 1) rfl rfl (ARR.out.part H0.out) (show (Tryz.prog.info? 40).map (·.size) = some 18 by kernel_rfl) (ones _ _) ?_
             simp only [Act.put, List.setIfInBounds_toArray, List.set_cons_zero, List.set_cons_succ]
             refine cast_world HW2.out ?_)
          | (refine wpList_store_mid rfl 40 _ _ rfl w.heap.size ((a + 1) * 18) (didA 2 6) rfl rfl (HP.out.1.part HAL.out) (show (Tryz.prog.info? 40).map (·.size) = some 18 by kernel_rfl) (ones _ _) ?_
             simp only [Act.put, List.setIfInBounds_toArray, List.set_cons_zero, List.set_cons_succ]
             refine cast_world HW3.out ?_)
          | fail)
        refine (lLongErr _ _ _ _ (by have := HN.out; have := of_decide_eq_true d3; omega) (by have := HN1.out; omega)).mono ?_
        rintro _ w4 ⟨_, rfl, hb4, rfl⟩
        replace HB := Lib.hid (HB.out.le hb4)
        clear hb4
        go_wp2_with fail
        refine (known_true (sat_keep HS.out HB.out)).mono ?_
        rintro _ w9 ⟨_, rfl, hb9, rfl⟩
        have HB9 := Lib.hid (HB.out.le hb9)
        clear hb9
        go_wp2
        go_ret
        exact retB' rfl HB9.out
      · have d3 : decide (0 < more) = false := by simpa using hm
        clear hm
        go_wp2_with (first
          | (refine wpList_store_mid rfl 40 _ _ rfl w.heap.size (0 * 18) (didA 2 1) rfl rfl (ARR.out.part H0.out) (show (Tryz.prog.info? 40).map (·.size) = some 18 by kernel_rfl) (ones _ _) ?_
             simp only [Act.put, List.setIfInBounds_toArray, List.set_cons_zero, List.set_cons_succ]
             refine cast_world HW2.out ?_)
          | (refine wpList_store_mid rfl 40 _ _ rfl w.heap.size ((a + 1) * 18) (didA 2 6) rfl rfl (HP.out.1.part HAL.out) (show (Tryz.prog.info? 40).map (·.size) = some 18 by kernel_rfl) (ones _ _) ?_
             simp only [Act.put, List.setIfInBounds_toArray, List.set_cons_zero, List.set_cons_succ]
             refine cast_world HW3.out ?_)
          | fail)
        refine (lLong _ _ _ _ _ _ TR.out (by have := HN.out; have := of_decide_eq_false d3; omega) LONG.out).mono ?_
        rintro _ w4 ⟨_, rfl, hb4, rfl⟩
        replace HB := Lib.hid (HB.out.le hb4)
        clear hb4
        go_wp2_with fail
        refine (known_true (sat_keep HS.out HB.out)).mono ?_
        rintro _ w9 ⟨_, rfl, hb9, rfl⟩
        have HB9 := Lib.hid (HB.out.le hb9)
        clear hb9
        go_wp2
        go_ret
        exact retB' rfl HB9.out
end Go.Proofs.YtkdegiobhgjghaaGreatDoor

/-
  From a law's walk to its row: what was there stays.
-/
namespace Go.Proofs.YtkdegiobhgjghaaGreatDoor
open Go.ChangeShapes Go.WideShapes Go.ChangeAt Go.RowKit Go.Deep Go.Joins

section
variable {H : Type} {enc : TypeId × Value → H} {P : Program}
/-- Arguments that were read whole are read alike in a world in which all that was there is as it was. -/
theorem all_stay (hl : laidOutB P = true) {W W' : World} {sp' : Nat → Bool} : ∀ {ts : List TypeId} {vs : List Value} {ds : List (DataW H)} {ps : List MemPlace}, (∀ t ∈ ts, P.readableRec t = true ∧ t < P.types.size) →
    DataW.TrodAll enc P W 0 (fun _ => true) true ts vs ds ps → (∀ p ∈ ps, W.sameAt W' p) → (∀ p ∈ ps, sp' p.block = true) → DataW.TrodAll enc P W' 0 sp' true ts vs ds ps
  | [], _, _, _, _, h, _, _ => by
    obtain ⟨rfl, rfl, rfl⟩ := trodAll_nil h
    rfl
  | t :: ts, _, _, _, hr, h, hs, hp => by
    obtain ⟨v, vs, d, ds, a, b, rfl, rfl, rfl, h1, h2⟩ := trodAll_cons h
    have ht := hr t List.mem_cons_self
    exact ⟨a, b, Go.WideElems.Trod_stays hl ht.1 ht.2 h1 (fun p h => hs p (List.mem_append_left _ h)) (fun p h => hp p (List.mem_append_left _ h)),
      all_stay hl (fun t h => hr t (List.mem_cons_of_mem _ h)) h2 (fun p h => hs p (List.mem_append_right _ h)) (fun p h => hp p (List.mem_append_right _ h)), rfl⟩
/-- The row's last step for a law: it returned true, and nothing that was there has turned. -/
theorem law_post {f : Func} {s : ChangeSpec} {apart fresh handsOn again : Bool} {W W' : World} {args : Array Value} {ds : List (DataW H)} {before : List MemPlace} {tb : TypeId} (hl : laidOutB P = true)
    (hr0 : f.params.toList.all (fun t => P.readableRec t && decide (t < P.types.size)) = true) (hT : f.resultTypes = #[tb]) (hbt : P.underlying tb = some .bool) (hsv : s.vars = []) (hfn : s.fn H ds = { results := [.lit (.bool true)], args := ds })
    (hW : DataW.Whole enc P f.params.toList s.vars apart W args.toList ds [] before) (hb : Below W.heap.size W W') : s.post enc P f apart fresh handsOn again W args (.bool true) W' := by
  have hr : ∀ t ∈ f.params.toList, P.readableRec t = true ∧ t < P.types.size := fun t ht => by
    have := List.all_eq_true.1 hr0 t ht
    rw [Bool.and_eq_true] at this
    exact ⟨this.1, of_decide_eq_true this.2⟩
  obtain ⟨p, q, hA, hV, hps, hz, hn⟩ := id hW
  have hq : q = [] := by rw [hsv] at hV; exact hV
  subst hq
  rw [List.append_nil] at hps
  subst hps
  have hlt : ∀ x ∈ before, x.block < W.heap.size := fun x hx => hW.lt x hx
  have hsame : ∀ x ∈ before, W.sameAt W' x := fun x hx => hb.same (hlt x hx)
  have hres : ∀ (b : Nat) (sp : Nat → Bool) (hd : Bool), DataW.TrodAll enc P W' b sp hd f.resultTypes.toList ((Value.bool true).resultList f.resultTypes.size) [.lit (.bool true)] [] := by
    intro b sp hd
    rw [hT]
    exact trodAll_mk1 (shut_bool hbt _)
  refine ⟨ds, [], before, [], before, [], hW, ?_, ?_, ?_, World.keptBut_mono (fun x hx => ⟨hx, .inr (.inl hx)⟩) (hb.frame (· ∈ before)), fun _ => ⟨?_, ?_⟩⟩
  · rw [List.append_nil, hfn]; exact hres _ _ _
  · rw [List.append_nil, hfn]; exact all_stay hl hr hA hsame fun x hx => by simpa using hlt x hx
  · rw [List.append_nil, hfn, hsv]; rfl
  · exact ok_one hT rfl (okWide_bool_mk hbt _)
  · refine ⟨_, [], before, ⟨before, [], trodAll_append (p := []) (all_stay hl hr hA hsame fun _ _ => rfl) (hres _ _ _), by rw [hsv]; rfl, by simp, fun b off hp => ?_, hn⟩, fun x hx _ => hx⟩
    rw [hb.frozen (hlt _ hp)]
    exact hz b off hp
end

theorem own_none : ownKnob Tryz.prog.godebug = none := by kernel_rfl
theorem laid_out : laidOutB Tryz.prog = true := by kernel_rfl
end Go.Proofs.YtkdegiobhgjghaaGreatDoor
