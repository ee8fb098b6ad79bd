/-
  The rules for the single operations, for the walk of XM.
-/
import Derived.Test.YtpjpdohdceabpaaGreatDoorXAA
import Derived.Deep.MidRow
import Derived.Laws.MakeOwn
import Derived.Deep.OwnRows
import Derived.Deep.RegionWith
import Derived.Deep.QuietTactic
import Derived.BigQuiet
import Derived.Test.YtpjpdohdceabpaaGreatDoorXAP
import Derived.Test.YtpjpdohdceabpaaGreatDoorXAD
import Derived.Test.YtpjpdohdceabpaaGreatDoorRows
import Derived.ProofKit
import Derived.WideKeyArgs
import Derived.Deep.SlicePairs
import Derived.Lib.SmallJoins
import Derived.KernelRfl
set_option linter.unusedSectionVars false
set_option linter.unusedVariables false
set_option linter.unusedSimpArgs false
set_option maxRecDepth 100000
set_option maxHeartbeats 8000000
namespace Go.Proofs.YtpjpdohdceabpaaGreatDoor
open Go.RowKit
section
variable {P : Program} {ops : List Oper} {Fs : List VT} {w0 : World} {a0 : Act} {i : Nat} {o : Oper}
theorem back {RF : List VT} {j k : Nat} {G : VT} (hl : RF.length = j + k + 1) (hF : RF[k]? = some G) : RF.reverse[j]? = some G := by
  rw [List.getElem?_reverse (by omega), <- hF]; congr 1; omega
variable {d : Option Tmp} {ty : TypeId} {pos : String} {after : Array Edge} {g : Option (Nat × Bool)}
end
section
variable {w0 w : World} {b o : Nat}
end
end Go.Proofs.YtpjpdohdceabpaaGreatDoor

/-
  Slices that are made at once and filled by stores: an element's cells, whatever they are.
-/
namespace Go.Proofs.YtpjpdohdceabpaaGreatDoor
open Go.RowKit
section
variable {w w' : World} {g n z : Nat} {f : Nat -> List Value}
end
end Go.Proofs.YtpjpdohdceabpaaGreatDoor

/-
  Concurrent nodes that are none: nil, and zero.
-/
namespace Go.Proofs.YtpjpdohdceabpaaGreatDoor
open Go.RowKit
def ZeroC (b : Bool) (w : World) (p : Value) : Prop := ∀ w', Below w.heap.size w w' -> Calls Tryz.prog 30 #[p] w' (Ret w' (IsB b))
def ZeroQ (b : Bool) (w : World) (p : Value) : Prop := ∀ w', Below w.heap.size w w' -> Calls Tryz.prog 30 #[p] w' fun e w2 => e = .returned (.bool b) ∧ w2 = w'
theorem ZeroQ.mono {b : Bool} {w w' : World} {p : Value} (h : ZeroQ b w p) (hb : Below w.heap.size w w') : ZeroQ b w' p := fun w2 h2 => h w2 (hb.le h2)
theorem ZeroQ.c {b : Bool} {w : World} {p : Value} (h : ZeroQ b w p) : ZeroC b w p := fun w2 h2 => (h w2 h2).mono fun e w3 ⟨he, hw⟩ => ⟨_, he, by rw [hw]; exact Below.refl _ _, rfl⟩
theorem ZeroC.mono {b : Bool} {w w' : World} {p : Value} (h : ZeroC b w p) (hb : Below w.heap.size w w') : ZeroC b w' p := fun w2 h2 => h w2 (hb.le h2)
theorem retB' {b c : Bool} {w w' : World} (h : b = c) (hb : Below w.heap.size w w') : Ret w (IsB c) (.returned (.bool b)) w' := ⟨_, rfl, hb, by rw [h]; rfl⟩
theorem zero_nil (w : World) : ZeroQ true w (.pointer none) := fun w' _ => by
  go_enter Tryz.func30, Tryz.ntmps30
  go_wp2
  go_ret
  exact ⟨rfl, rfl⟩
theorem zero_nothing {w : World} {b : Nat} (h : w.cell? ⟨b, 0, none⟩ = some (.pointer none)) : ZeroQ true w (.pointer (some ⟨b, 0, none⟩)) := fun w' hb => by
  have c0 := cellKeep hb h
  go_enter Tryz.func30, Tryz.ntmps30
  go_wp2
  go_ret
  exact ⟨rfl, rfl⟩
theorem noneEnabled {w : World} {p : Value} (h : ZeroC true w p) : Calls Tryz.prog 14 #[p] w (Ret w (Is (.slice none 0 0))) := by
  have N := Lib.hid (h w (Below.refl _ _))
  clear h
  go_enter Tryz.func14, Tryz.ntmps14
  go_wp2_with fail
  refine N.out.mono ?_
  rintro _ w1 ⟨_, rfl, hb1, rfl⟩
  go_wp2
  go_ret
  exact ⟨_, rfl, hb1, rfl⟩
theorem noneOpen {w : World} {p : Value} (h : ZeroC true w p) : Calls Tryz.prog 15 #[p] w (Ret w (Is (.slice none 0 0))) := by
  have N := Lib.hid (h w (Below.refl _ _))
  clear h
  go_enter Tryz.func15, Tryz.ntmps15
  go_wp2_with fail
  refine N.out.mono ?_
  rintro _ w1 ⟨_, rfl, hb1, rfl⟩
  go_wp2
  go_ret
  exact ⟨_, rfl, hb1, rfl⟩
theorem noneWaits {w : World} {p : Value} (h : ZeroC true w p) : Calls Tryz.prog 17 #[p] w (Ret w (Is (.slice none 0 0))) := by
  have N := Lib.hid (h w (Below.refl _ _))
  clear h
  go_enter Tryz.func17, Tryz.ntmps17
  go_wp2_with fail
  refine N.out.mono ?_
  rintro _ w1 ⟨_, rfl, hb1, rfl⟩
  go_wp2
  go_ret
  exact ⟨_, rfl, hb1, rfl⟩
theorem noneTasks {w : World} {p : Value} (h : ZeroC true w p) : Calls Tryz.prog 16 #[p] w (Ret w (Is (.int .i64 0))) := by
  have N := Lib.hid (h w (Below.refl _ _))
  clear h
  go_enter Tryz.func16, Tryz.ntmps16
  go_wp2_with fail
  refine N.out.mono ?_
  rintro _ w1 ⟨_, rfl, hb1, rfl⟩
  go_wp2
  go_ret
  exact ⟨_, rfl, hb1, rfl⟩
theorem noneNode {w : World} {p : Value} (h : ZeroC true w p) : Calls Tryz.prog 19 #[p] w (Ret w (Is (.pointer none))) := by
  have N := Lib.hid (h w (Below.refl _ _))
  clear h
  go_enter Tryz.func19, Tryz.ntmps19
  go_wp2_with fail
  refine N.out.mono ?_
  rintro _ w1 ⟨_, rfl, hb1, rfl⟩
  go_wp2
  go_ret
  exact ⟨_, rfl, hb1, rfl⟩
theorem noneCopy {w : World} {p : Value} (h : ZeroC true w p) : Calls Tryz.prog 20 #[p] w (Ret w (Is (.pointer none))) := by
  have N := Lib.hid (h w (Below.refl _ _))
  clear h
  go_enter Tryz.func20, Tryz.ntmps20
  go_wp2_with fail
  refine N.out.mono ?_
  rintro _ w1 ⟨_, rfl, hb1, rfl⟩
  go_wp2
  go_ret
  exact ⟨_, rfl, hb1, rfl⟩
theorem noneNext {w : World} {p : Value} (h : ZeroC true w p) (n : Int) : Calls Tryz.prog 18 #[p, .int .i64 n] w (Ret w (Is (.int .i64 0))) := by
  have N := Lib.hid (h w (Below.refl _ _))
  clear h
  go_enter Tryz.func18, Tryz.ntmps18
  go_wp2_with fail
  refine N.out.mono ?_
  rintro _ w1 ⟨_, rfl, hb1, rfl⟩
  go_wp2
  go_ret
  exact ⟨_, rfl, hb1, rfl⟩
theorem noneRun {w : World} {p : Value} (h : ZeroC true w p) (s : Option Addr) (n : Int) : Calls Tryz.prog 10 #[p, .pointer s, .int .i64 n] w (Ret w (Is (.tuple #[.slice none 0 0, .int .i64 1]))) := by
  have N := Lib.hid (h w (Below.refl _ _))
  clear h
  go_enter Tryz.func10, Tryz.ntmps10
  go_wp2_with fail
  refine N.out.mono ?_
  rintro _ w1 ⟨_, rfl, hb1, rfl⟩
  go_wp2
  refine bodyPost_ret (v := .tuple #[.slice none 0 0, .int .i64 1]) (by simp [results, Tryz.results10, go_sem]) rfl ?_
  exact ⟨_, rfl, hb1, rfl⟩
structure CallP where
  op : Int
  key : ByteArray
  other : ByteArray
  item : ByteArray
  qty : Int
  A : Option Addr
  n : Nat
  c : Nat
def CallP.v (x : CallP) : Value := .agg #[.int .i64 x.op, .string x.key, .string x.other, .string x.item, .int .i64 x.qty, .slice x.A x.n x.c]
theorem noneStart {w : World} {p : Value} (h : ZeroC true w p) (x : CallP) : Calls Tryz.prog 35 #[p, x.v] w (Ret w (Is (.tuple #[.int .i64 0, .int .i64 1]))) := by
  have N := Lib.hid h
  obtain ⟨o, k, t, i, q, A, n, c⟩ := x
  unfold CallP.v
  clear h
  go_enter Tryz.func35, Tryz.ntmps35
  go_wp2_with fail
  refine (N.out _ (by go_grown)).mono ?_
  rintro _ w1 ⟨_, rfl, hb1, rfl⟩
  have hb : Below w.heap.size w w1 := (show Below w.heap.size w _ by go_grown).le hb1
  have HB := Lib.hid hb
  clear hb1 hb
  go_wp2
  refine bodyPost_ret (v := .tuple #[.int .i64 0, .int .i64 1]) (by simp [results, Tryz.results35, go_sem]) rfl ?_
  exact ⟨_, rfl, HB.out, rfl⟩
theorem lStarts {w : World} {p : Value} (h : ZeroC true w p) (x : CallP) : Calls Tryz.prog 11 #[p, x.v, .int .i64 0, .int .i64 1] w (Ret w (IsB true)) := by
  have N := Lib.hid h
  obtain ⟨o, k, t, i, q, A, n, c⟩ := x
  unfold CallP.v
  clear h
  go_enter Tryz.func11, Tryz.ntmps11
  go_wp2_with fail
  refine (noneStart (N.out.mono (by go_grown)) ⟨o, k, t, i, q, A, n, c⟩).mono ?_
  rintro _ w1 ⟨_, rfl, hb1, rfl⟩
  have hb : Below w.heap.size w w1 := (show Below w.heap.size w _ by go_grown).le hb1
  have HB := Lib.hid hb
  clear hb1 hb
  go_wp2
  go_ret
  exact retB' (by simp) HB.out
theorem sched_nil (w : World) : Calls Tryz.prog 33 #[.pointer none] w (Ret w (Is (.pointer none))) := by
  go_enter Tryz.func33, Tryz.ntmps33
  go_wp2
  go_ret
  exact ⟨_, rfl, Below.refl _ _, rfl⟩
theorem sched_zero {w : World} {b : Nat} (h : w.cell? ⟨b, 0, none⟩ = some (.int .i64 0)) : Calls Tryz.prog 33 #[.pointer (some ⟨b, 0, none⟩)] w (Ret w (Is (.pointer none))) := by
  go_enter Tryz.func33, Tryz.ntmps33
  go_wp2
  go_ret
  exact ⟨_, rfl, Below.refl _ _, rfl⟩
theorem someRun {w : World} {p : Value} {s : Option Addr} {n : Int} (h : ZeroC false w p) (hs : ∀ w', Below w.heap.size w w' -> Calls Tryz.prog 33 #[.pointer s] w' (Ret w' (Is (.pointer none)))) :
    Calls Tryz.prog 10 #[p, .pointer s, .int .i64 n] w (Ret w (Is (.tuple #[.slice none 0 0, .int .i64 1]))) := by
  have N := Lib.hid (h w (Below.refl _ _)); have S := Lib.hid hs
  clear h hs
  go_enter Tryz.func10, Tryz.ntmps10
  go_wp2_with fail
  refine N.out.mono ?_
  rintro _ w1 ⟨_, rfl, hb1, rfl⟩
  have HB := Lib.hid hb1
  clear hb1
  go_wp2_with fail
  refine (S.out _ HB.out).mono ?_
  rintro _ w2 ⟨_, rfl, hb2, rfl⟩
  have HB2 := Lib.hid (HB.out.le hb2)
  clear hb2
  go_wp2
  refine bodyPost_ret (v := .tuple #[.slice none 0 0, .int .i64 1]) (by simp [results, Tryz.results10, go_sem]) rfl ?_
  exact ⟨_, rfl, HB2.out, rfl⟩
end Go.Proofs.YtpjpdohdceabpaaGreatDoor

/-
  Boxes made and filled at once; a goal at which the walk stops.
-/
namespace Go.Proofs.YtpjpdohdceabpaaGreatDoor
open Go.RowKit
def Halt (p : Prop) : Prop := p
end Go.Proofs.YtpjpdohdceabpaaGreatDoor

/-
  Boxes of the call's own that are filled and read whole (the part of Gx that asks for nothing of the program's).
-/
namespace Go.Proofs.YtpjpdohdceabpaaGreatDoor
open Go.RowKit
theorem wp_store_to {P : Program} {Q : Exit -> Act -> World -> Prop} {o : Oper} {a : Act} {w w' : World} {K : Act -> World -> Prop} {ty : TypeId} {x y : Operand} {p v : Value} (ho : o.op = .store ty x y) (hd : o.dst = none) (hx : a.eval x = p) (hy : a.eval y = v) (e : (Instr.storeAt ty p v).run P w = .ok () w') (h : K a w') : o.wp P a w K Q := by
  unfold Oper.wp
  generalize a.eval = ρ at hx hy
  have : (execOp ρ o).run P w = .ok .skip w' := by simp [execOp, ho, hx, hy, e]
  rw [this]
  show K (a.put o.dst undef) w'
  rw [hd]; exact h
theorem wpList_store {P : Program} {Q : Exit -> Act -> World -> Prop} {ops : Array Oper} {rest : List Oper} {o : Oper} {a : Act} {w w' : World} {ty : TypeId} {x y : Operand} {p v : Value} (hg : o.guard = none) (ho : o.op = .store ty x y) (hd : o.dst = none) (hx : a.eval x = p) (hy : a.eval y = v) (e : (Instr.storeAt ty p v).run P w = .ok () w') (h : wpList P ops Q rest a w') : wpList P ops Q (o :: rest) a w :=
  wpList_plain hg fun _ hK => wp_store_to ho hd hx hy e (hK _ _ h)
theorem below_trans {B : Nat} {w w1 w2 : World} (h : Below B w w1) (k : Below B w1 w2) : Below B w w2 := ⟨k.os.trans h.os, k.tape.trans h.tape, k.output.trans h.output, Nat.le_trans h.size k.size, fun i hi => (k.block i hi).trans (h.block i hi)⟩
structure Bx (w : World) (J : Nat) (cs : List Value) : Prop where
  rng : w.rangeAt J 0 cs
  th : w.there J 0 cs.length
  lt : J < w.heap.size
section
variable {w w' : World} {J N B : Nat} {cs : List Value}
theorem Bx.same (h : Bx w J cs) (hb : w'.heap[J]? = w.heap[J]?) (hs : w.heap.size <= w'.heap.size) : Bx w' J cs :=
  ⟨fun j v hj => (World.cell?_of_block (a := ⟨J, 0 + j, none⟩) hb).trans (h.rng j v hj), fun j hj => by
    rw [World.cell?_of_block (a := ⟨J, 0 + j, none⟩) hb, World.frozen?_of_block (a := ⟨J, 0 + j, none⟩) hb]; exact h.th j hj, Nat.lt_of_lt_of_le h.lt hs⟩
theorem Bx.mono (h : Bx w J cs) (hb : Below w.heap.size w w') : Bx w' J cs := h.same (hb.block J h.lt) hb.size
theorem Bx.new (w : World) (cs : Array Value) (ty : TypeId) : Bx (w.alloc (.cells cs ty)) w.heap.size cs.toList := by
  refine ⟨fun j v hj => ?_, fun j hj => ⟨?_, frozen_of_row _ _ _ _ ty (heap_alloc_new w _)⟩, (Array.getElem?_eq_some_iff.1 (heap_alloc_new w _)).1⟩
  · rw [Nat.zero_add, cell_of_row _ _ _ _ ty (0, 0) (heap_alloc_new w _), <- Array.getElem?_toList]; exact hj
  · rw [Nat.zero_add, cell_of_row _ _ _ _ ty (0, 0) (heap_alloc_new w _)]; simpa using hj
theorem Bx.cell (h : Bx w J cs) (j : Nat) {v : Value} (hj : cs[j]? = some v) : w.cell? ⟨J, j, none⟩ = some v := by
  have := h.rng j v hj
  rwa [Nat.zero_add] at this
structure Upd (J : Nat) (w w' : World) : Prop where
  os : w'.os = w.os
  tape : w'.tape = w.tape
  output : w'.output = w.output
  size : w'.heap.size = w.heap.size
  block : ∀ k, k ≠ J -> w'.heap[k]? = w.heap[k]?
theorem Upd.below (h : Upd J w w') (hB : B <= J) : Below B w w' := ⟨h.os, h.tape, h.output, Nat.le_of_eq h.size.symm, fun k hk => h.block k (by omega)⟩
theorem upd_cells (J : Nat) : ∀ (cs : List Value) (o : Nat) (w : World), Upd J w (w.setCells J o cs)
  | [], _, _ => ⟨rfl, rfl, rfl, rfl, fun _ _ => rfl⟩
  | v :: r, o, w => by
    rw [World.setCells]
    have h := upd_cells J r (o + 1) (w.setCell ⟨J, o, none⟩ v)
    exact ⟨h.os.trans rfl, h.tape.trans rfl, h.output.trans rfl, h.size.trans (by simp), fun k hk => (h.block k hk).trans (by unfold World.setCell; simp [Array.getElem?_modify]; intro e; exact absurd e.symm hk)⟩
end
theorem halt_store {P : Program} {ops : Array Oper} {rest : List Oper} {a : Act} {w : World} {Q : Exit -> Act -> World -> Prop} {ty t2 : TypeId} {x y : Operand} {d : Option Tmp} {pos : String} {after : Array Edge} {g : Option (Nat × Bool)} (J : Nat) (hx : a.eval x = .pointer (some ⟨J, 0, none⟩)) (h : Halt (wpList P ops Q (⟨d, .store ty x y, t2, pos, after, g⟩ :: rest) a w)) : wpList P ops Q (⟨d, .store ty x y, t2, pos, after, g⟩ :: rest) a w := (fun _ => h) hx
theorem wpList_storeBx {P : Program} {ops : Array Oper} {rest : List Oper} {op : Oper} {a : Act} {w : World} {Q : Exit -> Act -> World -> Prop} {ty : TypeId} {x y : Operand} {J : Nat} {old : List Value} {cells : Array Value} (hgd : op.guard = none) (ho : op.op = .store ty x y) (hd : op.dst = none) (hx : a.eval x = .pointer (some ⟨J, 0, none⟩)) (hy : a.eval y = .agg cells)
    (hb : Bx w J old) (hi : (P.info? ty).map (·.size) = some cells.size) (hl : old.length = cells.size) (h1 : cells.all (·.oneCell') = true)
    (h : ∀ w', Bx w' J cells.toList -> Upd J w w' -> wpList P ops Q rest a w') : wpList P ops Q (op :: rest) a w := by
  have hth : w.there J 0 cells.size := by rw [<- hl]; exact hb.th
  have e := run_storeAt_mid (P := P) w J 0 ty cells hth hi h1
  have u := upd_cells J cells.toList 0 w
  refine wpList_store hgd ho hd hx hy e (h _ ⟨?_, ?_, ?_⟩ u)
  · exact World.rangeAt_setCells_same w J 0 cells.toList (by simpa using hth)
  · exact World.there_setCells (by simpa using hth) _ _ _
  · rw [u.size]; exact hb.lt
theorem results_bx2 {P : Program} {w : World} {J : Nat} {cs : List Value} {ty : TypeId} {d : TypeDesc} {fn : Func} {t s : Tmp} {tmps : Array Value} {v : Value} (h : fn.results = #[.cell t ty, .tmp s]) (hp : tmps.getD t undef = .pointer (some ⟨J, 0, none⟩)) (hs : tmps.getD s undef = v) (hb : Bx w J cs) (hu : P.underlying ty = some d) (hd : d.isRow = true) (hi : (P.info? ty).map (·.size) = some cs.length) : (results fn tmps).run P w = .ok (.tuple #[.agg cs.toArray, v]) w := by
  have L := run_loadVar_mid (P := P) w J 0 ty cs d hb.rng hu hd hi
  rw [Array.getD_eq_getD_getElem?] at hp hs
  simp [results, h, hp, hs, asAddr, L]
end Go.Proofs.YtpjpdohdceabpaaGreatDoor

/-
  Concurrent nodes that are none: what comes back through a variable, and comparing.
-/
namespace Go.Proofs.YtpjpdohdceabpaaGreatDoor
open Go.RowKit
abbrev did0 : Array Value := #[.int .i64 0, .int .i64 0, .int .i64 0, .bool false, .int .i64 0, .slice none 0 0, .bool false, .int .i64 0, .string ⟨⟨[]⟩⟩, .string ⟨⟨[]⟩⟩, .string ⟨⟨[]⟩⟩, .int .i64 0, .slice none 0 0, .int .i64 0, .int .i64 0, .int .i64 0, .slice none 0 0, .slice none 0 0]
theorem nonePick {w : World} {p : Value} (h : ZeroC true w p) (n : Int) : Calls Tryz.prog 9 #[p, .int .i64 n] w (Ret w (Is (.tuple #[.agg did0, .int .i64 1]))) := by
  have N := Lib.hid h
  clear h
  go_enter Tryz.func9, Tryz.ntmps9
  go_wp2_with fail
  refine (N.out _ (by go_grown)).mono ?_
  rintro _ w1 ⟨_, rfl, hb1, rfl⟩
  have hx : Bx w1 w.heap.size did0.toList := (Bx.new w did0 54).mono hb1
  have hb : Below w.heap.size w w1 := (show Below w.heap.size w _ by go_grown).le hb1
  have HB := Lib.hid hb; have HX := Lib.hid hx
  clear hb1 hb hx
  go_wp2_with ((with_reducible refine halt_store w.heap.size ?_ ?_); (next => rfl))
  unfold Halt
  refine wpList_storeBx (J := w.heap.size) rfl rfl rfl rfl rfl HX.out (show (Tryz.prog.info? 54).map (·.size) = some 18 by kernel_rfl) rfl (by simp [Value.oneCell']) ?_
  intro w9 hx9 hu9
  have X9 := Lib.hid hx9; have U9 := Lib.hid hu9
  clear hx9 hu9
  go_wp2
  refine bodyPost_ret (v := .tuple #[.agg did0, .int .i64 1]) ?_ rfl ?_
  · exact results_bx2 Tryz.results9 rfl rfl X9.out Tryz.underlying54 rfl (show (Tryz.prog.info? 54).map (·.size) = some 18 by kernel_rfl)
  exact ⟨_, rfl, below_trans HB.out (U9.out.below (Nat.le_refl _)), rfl⟩
abbrev ans0 : Array Value := #[.int .i64 0, .int .i64 0, .int .i64 0, .slice none 0 0, .slice none 0 0]
theorem noneAnswer {w : World} {p : Value} (h : ZeroC true w p) (n : Int) : Calls Tryz.prog 38 #[p, .int .i64 n] w (Ret w (Is (.tuple #[.agg ans0, .int .i64 1]))) := by
  have N := Lib.hid h
  clear h
  go_enter Tryz.func38, Tryz.ntmps38
  go_wp2_with fail
  refine (N.out _ (by go_grown)).mono ?_
  rintro _ w1 ⟨_, rfl, hb1, rfl⟩
  have hx : Bx w1 w.heap.size ans0.toList := (Bx.new w ans0 52).mono hb1
  have hb : Below w.heap.size w w1 := (show Below w.heap.size w _ by go_grown).le hb1
  have HB := Lib.hid hb; have HX := Lib.hid hx
  clear hb1 hb hx
  go_wp2_with ((with_reducible refine halt_store w.heap.size ?_ ?_); (next => rfl))
  unfold Halt
  refine wpList_storeBx (J := w.heap.size) rfl rfl rfl rfl rfl HX.out (show (Tryz.prog.info? 52).map (·.size) = some 5 by kernel_rfl) rfl (by simp [Value.oneCell']) ?_
  intro w9 hx9 hu9
  have X9 := Lib.hid hx9; have U9 := Lib.hid hu9
  clear hx9 hu9
  go_wp2
  refine bodyPost_ret (v := .tuple #[.agg ans0, .int .i64 1]) ?_ rfl ?_
  · exact results_bx2 Tryz.results38 rfl rfl X9.out Tryz.underlying52 rfl (show (Tryz.prog.info? 52).map (·.size) = some 5 by kernel_rfl)
  exact ⟨_, rfl, below_trans HB.out (U9.out.below (Nat.le_refl _)), rfl⟩
theorem lAnswers {w : World} {p : Value} (h : ZeroC true w p) (n : Int) : Calls Tryz.prog 13 #[p, .int .i64 n, .int .i64 0, .int .i64 1] w (Ret w (IsB true)) := by
  have N := Lib.hid h
  clear h
  go_enter Tryz.func13, Tryz.ntmps13
  go_wp2_with fail
  refine (noneAnswer N.out n).mono ?_
  rintro _ w1 ⟨_, rfl, hb1, rfl⟩
  have HB := Lib.hid hb1
  clear hb1
  go_wp2
  go_ret
  exact retB' (by simp) (HB.out.alloc HB.out.size _)
theorem sameNone {w : World} {p q : Value} (h : ZeroQ true w p) : Calls Tryz.prog 21 #[p, q] w (Ret w (IsB false)) := by
  have N := Lib.hid h
  clear h
  go_enter Tryz.func21, Tryz.ntmps21
  go_wp2
  go_quiet (first | (go_at_call 30; refine Calls.quiet_of_same (N.out _ ?_); exact (Below.refl _ _).drewN' _))
  go_wp2
  go_ret
  exact retB' rfl ((Below.refl _ _).drewN' _)
theorem noneSame {w : World} {p q : Value} (hp : ZeroQ false w p) (h : ZeroQ true w q) : Calls Tryz.prog 21 #[p, q] w (Ret w (IsB false)) := by
  have N := Lib.hid hp; have M := Lib.hid h
  clear hp h
  go_enter Tryz.func21, Tryz.ntmps21
  go_wp2
  go_quiet (first
    | (go_at_call_of 30 p; refine Calls.quiet_of_same (N.out _ ?_); exact (Below.refl _ _).drewN' _)
    | (go_at_call_of 30 q; refine Calls.quiet_of_same (M.out _ ?_); exact (Below.refl _ _).drewN' _))
  go_wp2
  go_ret
  exact retB' rfl ((Below.refl _ _).drewN' _)
end Go.Proofs.YtpjpdohdceabpaaGreatDoor

/-
  ConcNone: what its first calls yield, reckoned: a schedule, the given calls, a node that is some.
-/
namespace Go.Proofs.YtpjpdohdceabpaaGreatDoor
open Go.RowKit
abbrev SatG (w : World) : Prop := V.Sat 400 V.still (V.lk G0) w ∧ V.WF 400 (V.lk G0) 400
theorem sat_keep {w w' : World} (hs : SatG w) (hb : Below w.heap.size w w') : SatG w' := ⟨V.sat_below hs.1 hb, hs.2⟩
def ptrOK (x : V.R V.Res) : Bool := match x with
  | .ok ⟨.tuple ⟨[.pointer (some _), .int .i64 z]⟩, _, _, []⟩ => decide (z = 0)
  | _ => false
theorem ptrOK_ok {x : V.R V.Res} (h : ptrOK x = true) : ∃ a H n, x = .ok ⟨.tuple #[.pointer (some a), .int .i64 0], H, n, []⟩ := by
  unfold ptrOK at h
  split at h
  · have := of_decide_eq_true h
    subst this
    exact ⟨_, _, _, rfl⟩
  · cases h
def concOK (x : V.R V.Res) : Bool := match x with
  | .ok ⟨.tuple ⟨[.pointer (some ⟨k, 0, none⟩), .int .i64 z]⟩, H, _, []⟩ => decide (z = 0) && (match V.get H k with
    | .ok (.cells (.pointer (some _) :: _) _ _ _) => true
    | _ => false)
  | _ => false
theorem concOK_ok {x : V.R V.Res} (h : concOK x = true) : ∃ k H n a cs e es y, x = .ok ⟨.tuple #[.pointer (some ⟨k, 0, none⟩), .int .i64 0], H, n, []⟩ ∧ V.get H k = .ok (.cells (.pointer (some a) :: cs) e es y) := by
  unfold concOK at h
  split at h
  · rw [Bool.and_eq_true] at h
    have := of_decide_eq_true h.1
    subst this
    obtain ⟨_, h⟩ := h
    split at h
    · rename_i hg
      exact ⟨_, _, _, _, _, _, _, _, rfl, hg⟩
    · cases h
  · cases h
noncomputable def givOK (v : Value) (x : V.R V.Res) : Bool := match x with
  | .ok ⟨u, _, _, []⟩ => V.sameV 6 u v
  | _ => false
theorem givOK_ok {v : Value} {x : V.R V.Res} (h : givOK v x = true) : ∃ H n, x = .ok ⟨v, H, n, []⟩ := by
  unfold givOK at h
  split at h
  · rw [V.sameV_ok _ _ _ h]; exact ⟨_, _, rfl⟩
  · cases h
abbrev cfgC : Array Value := #[.int .i64 (.ofNat 1), .int .i64 (.ofNat 1), .int .i64 (.ofNat 3), .int .i64 (.ofNat 2)]
abbrev getC : Array Value := #[.int .i64 (.ofNat 4), .string ⟨⟨[97]⟩⟩, .string ⟨⟨[]⟩⟩, .string ⟨⟨[]⟩⟩, .int .i64 (.ofNat 0), .slice none 0 0]
abbrev addC : Array Value := #[.int .i64 (.ofNat 1), .string ⟨⟨[97]⟩⟩, .string ⟨⟨[]⟩⟩, .string ⟨⟨[120]⟩⟩, .int .i64 (.ofNat 2), .slice none 0 0]
def givenV : Value := .tuple #[.agg cfgC, .agg addC, .agg getC]
theorem given_run : givOK givenV (V.callR Tryz.prog 400 MM V.noPure PR V.noTab 2000 100 7 [] G0 400) = true := by kernel_rfl
theorem given_body : ((Tryz.prog.funcs[7]?).bind Func.body).isSome = true := by kernel_rfl
theorem sched_run : ptrOK (V.callR Tryz.prog 400 MM V.noPure PR V.noTab 2000 100 6 [.int .i64 (.ofNat 2), .slice none 0 0] G0 400) = true := by kernel_rfl
theorem sched_body : ((Tryz.prog.funcs[6]?).bind Func.body).isSome = true := by kernel_rfl
theorem conc_run : concOK (V.callR Tryz.prog 400 MM V.noPure PR V.noTab 2000 100 8 [.agg cfgC] G0 400) = true := by kernel_rfl
theorem conc_body : ((Tryz.prog.funcs[8]?).bind Func.body).isSome = true := by kernel_rfl
theorem did_run : V.isTrue (V.callR Tryz.prog 400 MM V.noPure PR V.noTab 2000 100 12 [.agg did0, .agg did0] G0 400) = true := by kernel_rfl
theorem did_body : ((Tryz.prog.funcs[12]?).bind Func.body).isSome = true := by kernel_rfl
theorem callR0_ok : V.CallOK Tryz.prog 400 (V.callR Tryz.prog 400 MM V.noPure PR V.noTab 2000 100) := V.callR_ok mixed_ok funcs_ok MMok V.noPure_ok PRok V.noTab_ok 2000 100
theorem cDid {w : World} (hs : SatG w) : Calls Tryz.prog 12 #[.agg did0, .agg did0] w (Ret w (IsB true)) :=
  V.trueH callR0_ok funcs_ok did_run (by kernel_rfl) did_body hs
theorem ext_below {ρ ρ' : V.Lies} {n n' : Nat} {h : V.Mem} {w w' : World} (k : V.Ext ρ n w ρ' h n' w' []) : Below w.heap.size w w' := ⟨k.os, k.tape, k.output, k.size, fun b hb => k.frame b hb (fun i hi => by cases hi)⟩
theorem cGiven {w : World} (hs : SatG w) : Calls Tryz.prog 7 #[] w (Ret w (Is givenV)) := by
  obtain ⟨H, n, h⟩ := givOK_ok given_run
  refine (V.reckonH callR0_ok funcs_ok h rfl given_body hs).mono fun e w' he => ?_
  obtain ⟨v, rfl, ρ', rfl, k1, k2, k3⟩ := he
  exact ⟨_, rfl, ext_below k2, V.ren_closed (d := V.deep) k1.fix (by kernel_rfl)⟩
theorem cSched {w : World} (hs : SatG w) : Calls Tryz.prog 6 #[.int .i64 2, .slice none 0 0] w (Ret w fun _ v => ∃ a, v = .tuple #[.pointer (some a), .int .i64 0]) := by
  obtain ⟨a, H, n, h⟩ := ptrOK_ok sched_run
  refine (V.reckonH callR0_ok funcs_ok h rfl sched_body hs).mono fun e w' he => ?_
  obtain ⟨v, rfl, ρ', rfl, k1, k2, k3⟩ := he
  exact ⟨_, rfl, ext_below k2, V.ra ρ' a, by simp only [V.ren_tuple]; simp⟩
theorem zero_at {w : World} {b o : Nat} {a : Addr} (h : w.cell? ⟨b, o, none⟩ = some (.pointer (some a))) : ZeroQ false w (.pointer (some ⟨b, o, none⟩)) := fun w' hb => by
  have c0 := cellKeep hb h
  go_enter Tryz.func30, Tryz.ntmps30
  go_wp2
  go_ret
  exact ⟨rfl, rfl⟩
theorem cConc {w : World} (hs : SatG w) : Calls Tryz.prog 8 #[.agg #[.int .i64 1, .int .i64 1, .int .i64 3, .int .i64 2]] w (Ret w fun w' v => ∃ a, v = .tuple #[.pointer (some a), .int .i64 0] ∧ ZeroQ false w' (.pointer (some a))) := by
  obtain ⟨k, H, n, a, cs, e, es, y, h, hg⟩ := concOK_ok conc_run
  refine (V.reckonH callR0_ok funcs_ok h (by kernel_rfl) conc_body hs).mono fun e w' he => ?_
  obtain ⟨v, rfl, ρ', rfl, k1, k2, k3⟩ := he
  obtain ⟨c, fr, h1, h2, _⟩ := k1.at_ k _ (V.lk_ok.2 hg)
  refine ⟨_, rfl, ext_below k2, ⟨(ρ' k).blk, 0 + (ρ' k).sh, none⟩, by simp only [V.ren_tuple]; simp [V.ra], zero_at (a := V.ra ρ' a) ?_⟩
  have h3 := h2 0 _ rfl
  rw [Nat.add_zero] at h3
  rw [V.ren_ptr] at h3
  rw [Nat.zero_add]
  simp [World.cell?, h1, h3]
end Go.Proofs.YtpjpdohdceabpaaGreatDoor

/-
  ConcNone: of any call and any number, over the package variables as the program's text lays them, the law returns true.
-/
namespace Go.Proofs.YtpjpdohdceabpaaGreatDoor
open Go.RowKit
def FewRel (w : World) (i : Value) (wr : World) : Prop := ∃ j : Nat, i = .int .i64 j ∧ j <= 1 ∧ Below w.heap.size w wr
theorem cFew {w : World} {b : Nat} {k t i : ByteArray} {A : Option Addr} {n c : Nat} (h1 : w.cell? ⟨b, 1, none⟩ = some (.string k)) (h2 : w.cell? ⟨b, 2, none⟩ = some (.string t)) (h3 : w.cell? ⟨b, 3, none⟩ = some (.string i)) (h5 : w.cell? ⟨b, 5, none⟩ = some (.slice A n c)) :
    Calls Tryz.prog 4 #[.slice (some ⟨b, 0, none⟩) 1 1, .int .i64 1] w (Ret w fun _ v => ∃ r, v = .bool r) := by
  have C1 := Lib.hid h1; have C2 := Lib.hid h2; have C3 := Lib.hid h3; have C5 := Lib.hid h5
  clear h1 h2 h3 h5
  go_enter Tryz.func4, Tryz.ntmps4
  go_wp2
  go_loopw [5] (fun i wr => FewRel w i wr) (fun i _ => 1 - (intOf i).toNat)
  case atStart => exact ⟨0, rfl, by decide, Below.refl _ _⟩
  case round =>
    obtain ⟨j, rfl, hj, hbr⟩ := hrel
    have HBR := Lib.hid hbr
    clear hbr
    have hj2 : j = 0 ∨ j = 1 := by omega
    rcases hj2 with rfl | rfl
    · have c1 := cellKeep HBR.out C1.out; have c2 := cellKeep HBR.out C2.out; have c3 := cellKeep HBR.out C3.out; have c5 := cellKeep HBR.out C5.out
      by_cases d1 : 300 < (k.size : Int)
      · have e1 := decide_eq_true d1
        clear d1
        go_wp2_with fail
        go_ret
        exact ⟨_, rfl, HBR.out, _, rfl⟩
      · have e1 := decide_eq_false d1
        clear d1
        by_cases d2 : 300 < (t.size : Int)
        · have e2 := decide_eq_true d2
          clear d2
          go_wp2_with fail
          go_ret
          exact ⟨_, rfl, HBR.out, _, rfl⟩
        · have e2 := decide_eq_false d2
          clear d2
          by_cases d3 : 300 < (i.size : Int)
          · have e3 := decide_eq_true d3
            clear d3
            go_wp2_with fail
            go_ret
            exact ⟨_, rfl, HBR.out, _, rfl⟩
          · have e3 := decide_eq_false d3
            clear d3
            by_cases d4 : 300 < (n : Int)
            · have e4 := decide_eq_true d4
              clear d4
              go_wp2_with fail
              go_ret
              exact ⟨_, rfl, HBR.out, _, rfl⟩
            · have e4 := decide_eq_false d4
              clear d4
              go_wp2
              go_roundw
              case rel => exact ⟨1, rfl, by decide, HBR.out⟩
              case measure => simp [intOf]
    · skip
      go_wp2_with fail
      go_ret
      exact ⟨_, rfl, HBR.out, _, rfl⟩
end Go.Proofs.YtpjpdohdceabpaaGreatDoor

/-
  ConcNone: of any call and any number, over the package variables as the program's text lays them, the law returns true.
-/
namespace Go.Proofs.YtpjpdohdceabpaaGreatDoor
open Go.RowKit
theorem upon_eq {P : Program} {o : Oper} {a : Act} {K : Act -> World -> Prop} {Q : Exit -> Act -> World -> Prop} {R R' : Result Next} (h : R' = R) (k : o.upon P a K Q R) : o.upon P a K Q R' := h ▸ k
def NRel (w : World) (i : Value) (wr : World) : Prop := ∃ j : Nat, i = .int .i64 j ∧ j <= 2 ∧ Below w.heap.size w wr
theorem lawNone (x : CallP) (n : Int) (w : World) (hs : SatG w) : Calls Tryz.prog 3 #[.int .i64 n, x.v] w (Ret w (IsB true)) := by
  have HS := Lib.hid hs
  obtain ⟨o, k, t, i, q, A, m, c⟩ := x
  unfold CallP.v at *
  clear hs
  go_enter Tryz.func3, Tryz.ntmps3
  go_wp2_with fail
  refine (cFew (k := k) (t := t) (i := i) (A := A) (n := m) (c := c) (by simp [go_sem]) (by simp [go_sem]) (by simp [go_sem]) (by simp [go_sem])).mono ?_
  rintro _ w1 ⟨_, rfl, hb1, b, rfl⟩
  have hb : Below w.heap.size w w1 := (show Below w.heap.size w _ by go_grown).le hb1
  have c0 := cellKeep hb1 (v := .int .i64 o) (a := ⟨w.heap.size, 0, none⟩) (by simp [go_sem])
  have c1 := cellKeep hb1 (v := .string k) (a := ⟨w.heap.size, 1, none⟩) (by simp [go_sem])
  have c2 := cellKeep hb1 (v := .string t) (a := ⟨w.heap.size, 2, none⟩) (by simp [go_sem])
  have c3 := cellKeep hb1 (v := .string i) (a := ⟨w.heap.size, 3, none⟩) (by simp [go_sem])
  have c4 := cellKeep hb1 (v := .int .i64 q) (a := ⟨w.heap.size, 4, none⟩) (by simp [go_sem])
  have c5 := cellKeep hb1 (v := .slice A m c) (a := ⟨w.heap.size, 5, none⟩) (by simp [go_sem])
  have E1 := Lib.hid (And.intro c0 (And.intro c1 (And.intro c2 (And.intro c3 (And.intro c4 c5)))))
  have HB := Lib.hid hb
  clear hb hb1 c0 c1 c2 c3 c4 c5
  cases b with
  | false =>
    go_wp2_with fail
    refine (known_true (sat_keep HS.out HB.out)).mono ?_
    rintro _ w9 ⟨_, rfl, hb9, rfl⟩
    have HB9 := Lib.hid (HB.out.le hb9)
    clear hb9
    go_wp2
    go_ret
    exact retB' rfl HB9.out
  | true =>
    go_wp2_with fail
    refine (cSched (sat_keep HS.out HB.out)).mono ?_
    rintro _ w2 ⟨_, rfl, hb2, s, rfl⟩
    obtain ⟨c0, c1, c2, c3, c4, c5⟩ := E1.out
    replace c0 := cellKeep hb2 c0; replace c1 := cellKeep hb2 c1; replace c2 := cellKeep hb2 c2; replace c3 := cellKeep hb2 c3; replace c4 := cellKeep hb2 c4; replace c5 := cellKeep hb2 c5
    have E2 := Lib.hid (And.intro c0 (And.intro c1 (And.intro c2 (And.intro c3 (And.intro c4 c5)))))
    replace HB := Lib.hid (HB.out.le hb2)
    clear hb2 c0 c1 c2 c3 c4 c5 E1
    go_wp2_with fail
    refine (cGiven (sat_keep HS.out HB.out)).mono ?_
    rintro _ w3 ⟨_, rfl, hb3, rfl⟩
    obtain ⟨c0, c1, c2, c3, c4, c5⟩ := E2.out
    replace c0 := cellKeep hb3 c0; replace c1 := cellKeep hb3 c1; replace c2 := cellKeep hb3 c2; replace c3 := cellKeep hb3 c3; replace c4 := cellKeep hb3 c4; replace c5 := cellKeep hb3 c5
    have E3 := Lib.hid (And.intro c0 (And.intro c1 (And.intro c2 (And.intro c3 (And.intro c4 c5)))))
    replace HB := Lib.hid (HB.out.le hb3)
    clear hb3 c0 c1 c2 c3 c4 c5 E2
    unfold givenV
    go_wp2_with fail
    refine (cConc (sat_keep HS.out (HB.out.le (by go_grown)))).mono ?_
    rintro _ w4 ⟨_, rfl, hb4, a, rfl, hz⟩
    replace hb4 := (show Below w3.heap.size w3 _ by go_grown).le hb4
    obtain ⟨c0, c1, c2, c3, c4, c5⟩ := E3.out
    replace c0 := cellKeep hb4 c0; replace c1 := cellKeep hb4 c1; replace c2 := cellKeep hb4 c2; replace c3 := cellKeep hb4 c3; replace c4 := cellKeep hb4 c4; replace c5 := cellKeep hb4 c5
    replace HB := Lib.hid (HB.out.le hb4)
    have Z := Lib.hid hz
    clear hb4 hz E3
    go_wp2
    have hww : Below w4.heap.size w4 ((w4.alloc (.cells #[.pointer none, .pointer none, .slice none 0 0] 45)).alloc (.cells #[.pointer none, .pointer (some ⟨w4.heap.size, 0, none⟩)] 38)) := by go_grown
    have a0 : ((w4.alloc (.cells #[.pointer none, .pointer none, .slice none 0 0] 45)).alloc (.cells #[.pointer none, .pointer (some ⟨w4.heap.size, 0, none⟩)] 38)).cell? ⟨w4.heap.size + 1, 0, none⟩ = some (.pointer none) := by simp [go_sem]
    have a1 : ((w4.alloc (.cells #[.pointer none, .pointer none, .slice none 0 0] 45)).alloc (.cells #[.pointer none, .pointer (some ⟨w4.heap.size, 0, none⟩)] 38)).cell? ⟨w4.heap.size + 1, 1, none⟩ = some (.pointer (some ⟨w4.heap.size, 0, none⟩)) := by simp [go_sem]
    have a2 : ((w4.alloc (.cells #[.pointer none, .pointer none, .slice none 0 0] 45)).alloc (.cells #[.pointer none, .pointer (some ⟨w4.heap.size, 0, none⟩)] 38)).cell? ⟨w4.heap.size, 0, none⟩ = some (.pointer none) := by simp [go_sem]
    generalize ((w4.alloc (.cells #[.pointer none, .pointer none, .slice none 0 0] 45)).alloc (.cells #[.pointer none, .pointer (some ⟨w4.heap.size, 0, none⟩)] 38)) = W1 at *
    have HWW := Lib.hid hww
    have PS := Lib.hid (show ∀ j, j < 2 -> ∃ p, W1.cell? ⟨w4.heap.size + 1, j, none⟩ = some p ∧ ZeroQ true W1 p from fun j hj => by
      have : j = 0 ∨ j = 1 := by omega
      rcases this with rfl | rfl
      · exact ⟨_, a0, zero_nil _⟩
      · exact ⟨_, a1, zero_nothing a2⟩)
    have HB1 := Lib.hid (HB.out.le hww)
    have E := Lib.hid (And.intro (cellKeep hww c0) (And.intro (cellKeep hww c1) (And.intro (cellKeep hww c2) (And.intro (cellKeep hww c3) (And.intro (cellKeep hww c4) (cellKeep hww c5))))))
    clear hww a0 a1 a2 c0 c1 c2 c3 c4 c5
    go_loopw [58] (fun j wr => NRel W1 j wr) (fun j _ => 2 - (intOf j).toNat)
    case atStart => exact ⟨0, rfl, by decide, Below.refl _ _⟩
    case round =>
      obtain ⟨j, rfl, hj, hbr⟩ := hrel
      have HBR := Lib.hid hbr
      clear hbr
      by_cases h2 : j < 2
      · obtain ⟨p, hp, hnp⟩ := PS.out j h2
        have P0 := cellKeep HBR.out hp
        have N := Lib.hid hnp
        have HJ := Lib.hid h2
        clear hp hnp
        go_wp2_with fail
        refine (nonePick (N.out.mono HBR.out).c n).mono ?_
        rintro _ v1 ⟨_, rfl, hb', rfl⟩
        have K1 := Lib.hid (HBR.out.le hb')
        clear hb'
        go_wp2_with ((with_reducible refine halt_store v1.heap.size ?_ ?_); (next => rfl))
        unfold Halt
        refine wpList_storeBx (J := v1.heap.size) rfl rfl rfl rfl rfl (Bx.new v1 did0 54) (show (Tryz.prog.info? 54).map (·.size) = some 18 by kernel_rfl) rfl (by simp [Value.oneCell']) ?_
        intro u1 hx1 hu1
        have X1 := Lib.hid hx1
        have KU := Lib.hid (below_trans (K1.out.alloc K1.out.size _) (hu1.below K1.out.size))
        clear hx1 hu1
        go_wp2_with fail
        refine (noneRun (N.out.mono KU.out).c _ n).mono ?_
        rintro _ v2 ⟨_, rfl, hb', rfl⟩
        have K2 := Lib.hid (KU.out.le hb')
        have X2 := Lib.hid (X1.out.mono hb')
        clear hb'
        obtain ⟨x0, x1, x2, x3, x4, x5⟩ := E.out
        replace x0 := cellKeep K2.out x0
        replace x1 := cellKeep K2.out x1
        replace x2 := cellKeep K2.out x2
        replace x3 := cellKeep K2.out x3
        replace x4 := cellKeep K2.out x4
        replace x5 := cellKeep K2.out x5
        go_wp2_with fail
        refine (lStarts (N.out.mono K2.out).c ⟨o, k, t, i, q, A, m, c⟩).mono ?_
        rintro _ v3 ⟨_, rfl, hb', rfl⟩
        have K3 := Lib.hid (K2.out.le hb')
        have X3 := Lib.hid (X2.out.mono hb')
        clear hb'
        clear x0 x1 x2 x3 x4 x5
        go_wp2_with fail
        rotate_left
        · exact absurd ((X3.out.cell 0 rfl).symm.trans ‹v3.cell? ⟨v1.heap.size, 0, none⟩ = none›) (by simp)
        · exact absurd ((X3.out.cell 0 rfl).symm.trans ‹v3.cell? ⟨v1.heap.size, 0, none⟩ = none›) (by simp)
        refine upon_eq (R := .ok (.value (.agg did0)) v3) ?_ ?_
        · skip
          have z0 := X3.out.cell 0 rfl
          have z1 := X3.out.cell 1 rfl
          have z2 := X3.out.cell 2 rfl
          have z3 := X3.out.cell 3 rfl
          have z4 := X3.out.cell 4 rfl
          have z5 := X3.out.cell 5 rfl
          have z6 := X3.out.cell 6 rfl
          have z7 := X3.out.cell 7 rfl
          have z8 := X3.out.cell 8 rfl
          have z9 := X3.out.cell 9 rfl
          have z10 := X3.out.cell 10 rfl
          have z11 := X3.out.cell 11 rfl
          have z12 := X3.out.cell 12 rfl
          have z13 := X3.out.cell 13 rfl
          have z14 := X3.out.cell 14 rfl
          have z15 := X3.out.cell 15 rfl
          have z16 := X3.out.cell 16 rfl
          have z17 := X3.out.cell 17 rfl
          rename_i h9
          rw [z0] at h9
          cases h9
          simp [Result.andThen, z0, z1, z2, z3, z4, z5, z6, z7, z8, z9, z10, z11, z12, z13, z14, z15, z16, z17]
        go_wp2_with fail
        refine (cDid (sat_keep HS.out (HB1.out.le K3.out))).mono ?_
        rintro _ v4 ⟨_, rfl, hb', rfl⟩
        have K4 := Lib.hid (K3.out.le hb')
        clear hb'
        go_wp2_with fail
        refine (lAnswers (N.out.mono K4.out).c n).mono ?_
        rintro _ v5 ⟨_, rfl, hb', rfl⟩
        have K5 := Lib.hid (K4.out.le hb')
        clear hb'
        go_wp2_with fail
        refine (noneEnabled (N.out.mono K5.out).c).mono ?_
        rintro _ v6 ⟨_, rfl, hb', rfl⟩
        have K6 := Lib.hid (K5.out.le hb')
        clear hb'
        go_wp2_with fail
        refine (noneOpen (N.out.mono K6.out).c).mono ?_
        rintro _ v7 ⟨_, rfl, hb', rfl⟩
        have K7 := Lib.hid (K6.out.le hb')
        clear hb'
        go_wp2_with fail
        refine (noneTasks (N.out.mono K7.out).c).mono ?_
        rintro _ v8 ⟨_, rfl, hb', rfl⟩
        have K8 := Lib.hid (K7.out.le hb')
        clear hb'
        go_wp2_with fail
        refine (noneWaits (N.out.mono K8.out).c).mono ?_
        rintro _ v9 ⟨_, rfl, hb', rfl⟩
        have K9 := Lib.hid (K8.out.le hb')
        clear hb'
        go_wp2_with fail
        refine (noneNext (N.out.mono K9.out).c n).mono ?_
        rintro _ v10 ⟨_, rfl, hb', rfl⟩
        have K10 := Lib.hid (K9.out.le hb')
        clear hb'
        go_wp2_with fail
        refine (noneNode (N.out.mono K10.out).c).mono ?_
        rintro _ v11 ⟨_, rfl, hb', rfl⟩
        have K11 := Lib.hid (K10.out.le hb')
        clear hb'
        go_wp2_with fail
        refine (noneCopy (N.out.mono K11.out).c).mono ?_
        rintro _ v12 ⟨_, rfl, hb', rfl⟩
        have K12 := Lib.hid (K11.out.le hb')
        clear hb'
        go_wp2_with fail
        refine (sameNone (N.out.mono K12.out)).mono ?_
        rintro _ v13 ⟨_, rfl, hb', rfl⟩
        have K13 := Lib.hid (K12.out.le hb')
        clear hb'
        go_wp2_with fail
        refine (sameNone (N.out.mono K13.out)).mono ?_
        rintro _ v14 ⟨_, rfl, hb', rfl⟩
        have K14 := Lib.hid (K13.out.le hb')
        clear hb'
        go_wp2_with fail
        refine (noneSame (Z.out.mono (HWW.out.le K14.out)) (N.out.mono K14.out)).mono ?_
        rintro _ v15 ⟨_, rfl, hb', rfl⟩
        have K15 := Lib.hid (K14.out.le hb')
        clear hb'
        go_wp2
        go_roundw
        case rel => exact ⟨j + 1, by simp, HJ.out, K15.out⟩
        case measure => simp [intOf]; omega
      · have hj2 : j = 2 := by omega
        subst hj2
        replace HB := Lib.hid (HB1.out.le HBR.out)
        have ZS := Lib.hid (Z.out.mono (HWW.out.le HBR.out))
        go_wp2_with fail
        refine (someRun ZS.out.c fun w' _ => sched_nil w').mono ?_
        rintro _ u1 ⟨_, rfl, hb1, rfl⟩
        replace HB := Lib.hid (HB.out.le hb1)
        replace ZS := Lib.hid (ZS.out.mono hb1)
        clear hb1
        go_wp2_with fail
        refine (someRun (ZS.out.mono (by go_grown)).c fun w' hb => sched_zero (cellKeep hb (by simp [go_sem]))).mono ?_
        rintro _ u2 ⟨_, rfl, hb2, rfl⟩
        replace HB := Lib.hid (HB.out.le ((show Below u1.heap.size u1 _ by go_grown).le hb2))
        clear hb2
        go_wp2_with fail
        refine (known_true (sat_keep HS.out HB.out)).mono ?_
        rintro _ w9 ⟨_, rfl, hb9, rfl⟩
        have HB9 := Lib.hid (HB.out.le hb9)
        clear hb9
        go_wp2
        go_ret
        exact retB' rfl HB9.out
end Go.Proofs.YtpjpdohdceabpaaGreatDoor

/-
  From a law's walk to its row: what was there stays.
-/
namespace Go.Proofs.YtpjpdohdceabpaaGreatDoor
open Go.ChangeShapes Go.WideShapes Go.ChangeAt Go.RowKit Go.Deep Go.Joins
section
variable {H : Type} {enc : TypeId × Value -> H} {P : Program}
theorem all_stay (hl : laidOutB P = true) {W W' : World} {sp' : Nat -> Bool} : ∀ {ts : List TypeId} {vs : List Value} {ds : List (DataW H)} {ps : List MemPlace}, (∀ t ∈ ts, P.readableRec t = true ∧ t < P.types.size) ->
    DataW.TrodAll enc P W 0 (fun _ => true) true ts vs ds ps -> (∀ p ∈ ps, W.sameAt W' p) -> (∀ p ∈ ps, sp' p.block = true) -> DataW.TrodAll enc P W' 0 sp' true ts vs ds ps
  | [], _, _, _, _, h, _, _ => by
    obtain ⟨rfl, rfl, rfl⟩ := trodAll_nil h
    rfl
  | t :: ts, _, _, _, hr, h, hs, hp => by
    obtain ⟨v, vs, d, ds, a, b, rfl, rfl, rfl, h1, h2⟩ := trodAll_cons h
    have ht := hr t List.mem_cons_self
    exact ⟨a, b, Go.WideElems.Trod_stays hl ht.1 ht.2 h1 (fun p h => hs p (List.mem_append_left _ h)) (fun p h => hp p (List.mem_append_left _ h)),
      all_stay hl (fun t h => hr t (List.mem_cons_of_mem _ h)) h2 (fun p h => hs p (List.mem_append_right _ h)) (fun p h => hp p (List.mem_append_right _ h)), rfl⟩
theorem law_post {f : Func} {s : ChangeSpec} {apart fresh handsOn again : Bool} {W W' : World} {args : Array Value} {ds : List (DataW H)} {before : List MemPlace} {tb : TypeId} (hl : laidOutB P = true)
    (hr0 : f.params.toList.all (fun t => P.readableRec t && decide (t < P.types.size)) = true) (hT : f.resultTypes = #[tb]) (hbt : P.underlying tb = some .bool) (hsv : s.vars = []) (hfn : s.fn H ds = { results := [.lit (.bool true)], args := ds })
    (hW : DataW.Whole enc P f.params.toList s.vars apart W args.toList ds [] before) (hb : Below W.heap.size W W') : s.post enc P f apart fresh handsOn again W args (.bool true) W' := by
  have hr : ∀ t ∈ f.params.toList, P.readableRec t = true ∧ t < P.types.size := fun t ht => by
    have := List.all_eq_true.1 hr0 t ht
    rw [Bool.and_eq_true] at this
    exact ⟨this.1, of_decide_eq_true this.2⟩
  obtain ⟨p, q, hA, hV, hps, hz, hn⟩ := id hW
  have hq : q = [] := by rw [hsv] at hV; exact hV
  subst hq
  rw [List.append_nil] at hps
  subst hps
  have hlt : ∀ x ∈ before, x.block < W.heap.size := fun x hx => hW.lt x hx
  have hsame : ∀ x ∈ before, W.sameAt W' x := fun x hx => hb.same (hlt x hx)
  have hres : ∀ (b : Nat) (sp : Nat -> Bool) (hd : Bool), DataW.TrodAll enc P W' b sp hd f.resultTypes.toList ((Value.bool true).resultList f.resultTypes.size) [.lit (.bool true)] [] := by
    intro b sp hd
    rw [hT]
    exact trodAll_mk1 (shut_bool hbt _)
  refine ⟨ds, [], before, [], before, [], hW, ?_, ?_, ?_, World.keptBut_mono (fun x hx => ⟨hx, .inr (.inl hx)⟩) (hb.frame (· ∈ before)), fun _ => ⟨?_, ?_⟩⟩
  · rw [List.append_nil, hfn]; exact hres _ _ _
  · rw [List.append_nil, hfn]; exact all_stay hl hr hA hsame fun x hx => by simpa using hlt x hx
  · rw [List.append_nil, hfn, hsv]; rfl
  · exact ok_one hT rfl (okWide_bool_mk hbt _)
  · refine ⟨_, [], before, ⟨before, [], trodAll_append (p := []) (all_stay hl hr hA hsame fun _ _ => rfl) (hres _ _ _), by rw [hsv]; rfl, by simp, fun b off hp => ?_, hn⟩, fun x hx _ => hx⟩
    rw [hb.frozen (hlt _ hp)]
    exact hz b off hp
end
theorem own_none : ownKnob Tryz.prog.godebug = none := by kernel_rfl
theorem laid_out : laidOutB Tryz.prog = true := by kernel_rfl
end Go.Proofs.YtpjpdohdceabpaaGreatDoor

/-
  Calls and configurations that came in: what they read as.
-/
namespace Go.Proofs.YtpjpdohdceabpaaGreatDoor
open Go.ChangeShapes Go.WideShapes Go.ChangeAt Go.RowKit Go.Deep Go.Joins
set_option maxRecDepth 100000
section
variable {H : Type} {enc : TypeId × Value -> H} {w : World} {base : Nat} {held : Bool}
theorem cells_int : Tryz.prog.cellsOf 3 = 1 := by kernel_rfl
theorem cells_str : Tryz.prog.cellsOf 9 = 1 := by kernel_rfl
theorem cells_bytes : Tryz.prog.cellsOf 23 = 1 := by kernel_rfl
theorem cells_opk : Tryz.prog.cellsOf 22 = 1 := by kernel_rfl
theorem cells_call : Tryz.prog.cellsOf 25 = 6 := by kernel_rfl
theorem list6 {α : Type} {cs : List α} (h : cs.length = 6) : ∃ a b c d e f, cs = [a, b, c, d, e, f] := by
  match cs, h with
  | [a, b, c, d, e, f], _ => exact ⟨a, b, c, d, e, f, rfl⟩
theorem read_callP {r : Reach} {b0 : Nat} {v : Value} {d : DataW H} {p : List MemPlace} (hv : Value.okWide Tryz.prog w r b0 25 v) (h : DataW.Trod enc Tryz.prog w base (fun _ => true) held 25 v d p) : ∃ x : CallP, v = x.v := by
  obtain ⟨⟨cs⟩, rfl, hsz⟩ := okWide_struct Tryz.underlying25 hv
  rw [cells_call] at hsz
  obtain ⟨v0, v1, v2, v3, v4, v5, rfl⟩ := list6 (show cs.length = 6 from hsz)
  obtain ⟨fuel, hf⟩ := h
  obtain ⟨xs, k, _, _, hl, hxl, hf⟩ := DataW.trod_struct Tryz.underlying25 hf
  match xs, hxl with
  | [y0, y1, y2, y3, y4, y5], _ =>
    have g0 := hf 0 _ rfl
    have g1 := hf 1 _ rfl
    have g2 := hf 2 _ rfl
    have g3 := hf 3 _ rfl
    have g4 := hf 4 _ rfl
    have g5 := hf 5 _ rfl
    simp [cells_int, cells_str, cells_bytes, cells_opk, Value.cells] at g0 g1 g2 g3 g4 g5
    obtain ⟨o, e0, _⟩ := DataW.trod_int Tryz.underlying22 g0
    obtain ⟨s1, e1, _⟩ := DataW.trod_string Tryz.underlying9 g1
    obtain ⟨s2, e2, _⟩ := DataW.trod_string Tryz.underlying9 g2
    obtain ⟨s3, e3, _⟩ := DataW.trod_string Tryz.underlying9 g3
    obtain ⟨q, e4, _⟩ := DataW.trod_int Tryz.underlying3 g4
    simp at e0 e1 e2 e3 e4
    subst e0; subst e1; subst e2; subst e3; subst e4
    rcases open_slice Tryz.underlying23 g5 with ⟨h1, _⟩ | ⟨a, len, cap, m, n, D, Pl, h1, _⟩
    · cases h1
      exact ⟨⟨o, s1, s2, s3, q, none, 0, 0⟩, rfl⟩
    · cases h1
      exact ⟨⟨o, s1, s2, s3, q, some a, len, cap⟩, rfl⟩
end
end Go.Proofs.YtpjpdohdceabpaaGreatDoor
