/-
  dot.Set.
-/
import Derived.Test.YtjbakmmmgejhlaaWG
import Derived.Test.YtjbakmmmgejhlaaWE
import Derived.Lib.AppendZerosOnto
namespace Go.Proofs.Ytjbakmmmgejhlaa
open Go.RowKit

set_option maxRecDepth 100000 in
set_option maxHeartbeats 1000000 in
theorem dset (A : Option Addr) (n c : Nat) (l : List Dot) (w : World) (h : Dots w A n c l) (hs : Small n) :
    Calls Try.prog 72 #[.slice A n c] w (Ret w (IsRow w.heap.size (unionD l []))) := by
  have f1 := cclone28 A n c l w h hs
  have hsl : Small l.length := by rw [← h.len]; exact hs
  have F1 := Lib.hid f1; have HS := Lib.hid hsl
  clear f1 h hs hsl
  go_enter Try.func72, Try.ntmps72
  go_wp2_with fail
  refine F1.out.mono ?_
  rintro e w1 ⟨v, rfl, hb1, hr1⟩
  have f2 := dsort w.heap.size v l w1 hr1 HS.out
  have F2 := Lib.hid f2; clear f2 hr1 F1
  go_wp2_with fail
  refine F2.out.mono ?_
  rintro e w2 ⟨rfl, hb2, l', hso, hr2⟩
  have f3 := dcompact w.heap.size v l' w2 hr2 (by have := hso.1.length_eq; unfold Small; have := HS.out.out; omega)
  rw [comp_sorted hso] at f3
  have F3 := Lib.hid f3; clear f3 hr2 hso F2
  go_wp2_with fail
  refine F3.out.mono ?_
  rintro e w3 ⟨v', rfl, hb3, hr3⟩
  have R3 := Lib.hid hr3; clear hr3 F3
  go_wp2_with fail
  go_ret
  exact ⟨_, rfl, (hb1.trans hb2).trans hb3, R3.out⟩
end Go.Proofs.Ytjbakmmmgejhlaa

/-
  dot.Union: its closure.
-/
namespace Go.Proofs.Ytjbakmmmgejhlaa
open Go.RowKit

/-- All but block N and the row v is as it was. -/
structure Frame (N : Nat) (v : Value) (w w' : World) : Prop where
  os : w'.os = w.os
  tape : w'.tape = w.tape
  output : w'.output = w.output
  size : w.heap.size ≤ w'.heap.size
  block : ∀ k, k < w.heap.size → k ≠ N → v.ownBlock ≠ some k → w'.heap[k]? = w.heap[k]?
def OutPost (N B : Nat) (v : Value) (l : List Dot) (w : World) (e : Ending) (w' : World) : Prop :=
  e = .returned (.tuple #[]) ∧ Frame N v w w' ∧ ∃ v', w'.cell? ⟨N, 0, none⟩ = some v' ∧ w'.frozen? ⟨N, 0, none⟩ = false ∧ Row w' B v' l ∧ ∀ g, v'.ownBlock = some g → v.ownBlock = some g ∨ w.heap.size ≤ g

set_option maxRecDepth 100000 in
set_option maxHeartbeats 1000000 in
theorem dkeep (N B : Nat) (x y : Int) (v : Value) (l : List Dot) (w : World) (hN : N < B) (hc : w.cell? ⟨N, 0, none⟩ = some v) (hf : w.frozen? ⟨N, 0, none⟩ = false) (h : Row w B v l) (hs : Small l.length) (hB : B ≤ w.heap.size) :
    Calls Try.prog 58 #[.agg #[.int .i64 x, .int .i64 y], .pointer (some ⟨N, 0, none⟩)] w (OutPost N B v (l ++ [(x, y)]) w) := by
  have hb : Below w.heap.size w ((w.alloc (.cells #[.int .i64 x, .int .i64 y] 27)).alloc (.cells #[.int .i64 x, .int .i64 y] 27)) := by go_grown
  have hNw : N < w.heap.size := by omega
  have c0 : (w.alloc (.cells #[.int .i64 x, .int .i64 y] 27)).cell? ⟨N, 0, none⟩ = some v := cellKeep (by go_grown) hc
  have hown : ∀ k, v.ownBlock = some k → k ≠ N := fun k hk e => by have := Row.own w h k hk; omega
  have hd1 : Dots ((w.alloc (.cells #[.int .i64 x, .int .i64 y] 27)).alloc (.cells #[.int .i64 x, .int .i64 y] 27)) (some ⟨w.heap.size + 1, 0, none⟩) 1 1 [(x, y)] := by have := Dots.one (w.alloc (.cells #[.int .i64 x, .int .i64 y] 27)) x y; simpa using this
  have D1 := Lib.hid hd1; clear hd1
  have H := Lib.hid h; have HB := Lib.hid hb; have HC := Lib.hid hc; have HF := Lib.hid hf; have HO := Lib.hid hown
  clear h hb hc hf hown
  go_enter Try.func58, Try.ntmps58
  go_wp2_with (at_builtin; (refine wpList_appO (B := B) (l := l) (k := [(x, y)]) rfl rfl Try.underlying28 rfl rfl (Row.mono H.out HB.out) D1.out (by have := hs.out; simp; omega) (by simp; omega) ?_; intro v' w' hr' hg' hw'; simp only [Act.put, List.setIfInBounds_toArray, List.set_cons_zero, List.set_cons_succ]; obtain ⟨A', c', ev, hd'⟩ := Row.dots hr'; subst ev; have cN : w'.cell? ⟨N, 0, none⟩ = some v := hg'.cell (cellKeep HB.out HC.out) (fun e => HO.out N e.symm rfl); have fN : w'.frozen? ⟨N, 0, none⟩ = false := (World.frozen?_of_block (hg'.block N (by simp; omega) (fun e => HO.out N e.symm rfl))).trans ((HB.out.frozen (p := ⟨N, 0, none⟩) hNw).trans HF.out)))
  refine bodyPost_ret (results_none rfl _ _ _) rfl ?_
  have hne : ∀ k, (Value.slice A' (l ++ [(x, y)]).length c').ownBlock = some k → k ≠ N := fun k hk e => by have := Row.own w' hr' k hk; omega
  have elen : (l ++ [(x, y)]).length = l.length + 1 := by simp
  rw [elen] at hr' hne hw'
  refine ⟨rfl, ⟨hg'.os.trans HB.out.os, hg'.tape.trans HB.out.tape, hg'.output.trans HB.out.output, ?_, fun k hk h1 h2 => ?_⟩, _, cell_set cN, ?_, Row.set_ hr' (p := ⟨N, 0, none⟩) hne _, fun g hg => ?_⟩
  · have h1 := HB.out.size; have h2 := hg'.size
    simp [World.setCell]; omega
  · rw [Below.heap_setCell _ _ _ _ h1, hg'.block k (by have := HB.out.size; omega) (fun e => h2 e.symm)]
    exact HB.out.block k hk
  · exact (World.frozen?_setCell _ _ _ _).trans fN
  · rcases hw' g hg with h | h
    · exact .inl h
    · exact .inr (by have := HB.out.size; omega)
end Go.Proofs.Ytjbakmmmgejhlaa

/-
  dot.parts with one closure that keeps all; dot.Union.
-/
namespace Go.Proofs.Ytjbakmmmgejhlaa
open Go.RowKit

def mergeD : List Dot → List Dot → List Dot
  | [], b => b
  | a :: s, [] => a :: s
  | a :: s, b :: t => if lessD a b then a :: mergeD s (b :: t) else if lessD b a then b :: mergeD (a :: s) t else a :: mergeD s t
  termination_by a b => a.length + b.length
theorem mem_merge : ∀ (a b : List Dot) (x : Dot), x ∈ mergeD a b ↔ x ∈ a ∨ x ∈ b
  | [], b, x => by simp [mergeD]
  | a :: s, [], x => by simp [mergeD]
  | a :: s, b :: t, x => by
    rw [mergeD]
    split
    · rw [List.mem_cons, mem_merge s (b :: t) x, List.mem_cons (a := x) (b := a), or_assoc]
    · split
      · rw [List.mem_cons, mem_merge (a :: s) t x, List.mem_cons (a := x) (b := b)]
        constructor
        · rintro (h | h | h)
          · exact .inr (.inl h)
          · exact .inl h
          · exact .inr (.inr h)
        · rintro (h | h | h)
          · exact .inr (.inl h)
          · exact .inl h
          · exact .inr (.inr h)
      · rename_i h1 h2
        have e : a = b := less_total (by simpa using h1) (by simpa using h2)
        subst e
        rw [List.mem_cons, mem_merge s t x, List.mem_cons, List.mem_cons]
        constructor
        · rintro (h | h | h)
          · exact .inl (.inl h)
          · exact .inl (.inr h)
          · exact .inr (.inr h)
        · rintro ((h | h) | (h | h))
          · exact .inl h
          · exact .inr (.inl h)
          · exact .inl h
          · exact .inr (.inr h)
  termination_by a b => a.length + b.length
theorem ord_merge : ∀ (a b : List Dot), Ord a → Ord b → Ord (mergeD a b)
  | [], b, _, h => by simpa [mergeD] using h
  | a :: s, [], h, _ => by simpa [mergeD] using h
  | a :: s, b :: t, ha, hb => by
    obtain ⟨a1, a2⟩ := List.pairwise_cons.1 ha
    obtain ⟨b1, b2⟩ := List.pairwise_cons.1 hb
    rw [mergeD]
    split
    · rename_i h1
      refine List.pairwise_cons.2 ⟨fun x hx => ?_, ord_merge s (b :: t) a2 hb⟩
      rcases (mem_merge _ _ _).1 hx with h | h
      · exact a1 x h
      · rcases List.mem_cons.1 h with rfl | h
        · exact h1
        · exact less_trans h1 (b1 x h)
    · split
      · rename_i _ h2
        refine List.pairwise_cons.2 ⟨fun x hx => ?_, ord_merge (a :: s) t ha b2⟩
        rcases (mem_merge _ _ _).1 hx with h | h
        · rcases List.mem_cons.1 h with rfl | h
          · exact h2
          · exact less_trans h2 (a1 x h)
        · exact b1 x h
      · rename_i h1 h2
        have e : a = b := less_total (by simpa using h1) (by simpa using h2)
        subst e
        refine List.pairwise_cons.2 ⟨fun x hx => ?_, ord_merge s t a2 b2⟩
        rcases (mem_merge _ _ _).1 hx with h | h
        · exact a1 x h
        · exact b1 x h
  termination_by a b => a.length + b.length
theorem merge_union (a b : List Dot) : mergeD (unionD a []) (unionD b []) = unionD a b :=
  ord_ext (ord_merge _ _ (ord_union _ _) (ord_union _ _)) (ord_union _ _) fun d => by
    rw [mem_merge, mem_union, mem_union, mem_union]; simp
end Go.Proofs.Ytjbakmmmgejhlaa

/-
  dot.parts with one closure that keeps all; dot.Union.
-/
namespace Go.Proofs.Ytjbakmmmgejhlaa
open Go.RowKit

/-- A block that the closure does not write. -/
def KeepP (N : Nat) (v : Value) (b : Nat) : Prop := b ≠ N ∧ v.ownBlock ≠ some b
theorem Frame.cell {N : Nat} {v : Value} {w w' : World} (h : Frame N v w w') {b o : Nat} (hb : b < w.heap.size) (hk : KeepP N v b) : w'.cell? ⟨b, o, none⟩ = w.cell? ⟨b, o, none⟩ := World.cell?_of_block (a := ⟨b, o, none⟩) (h.block b hb hk.1 hk.2)
theorem Frame.dots {N : Nat} {v : Value} {w w' : World} (h : Frame N v w w') {A : Option Addr} {n c : Nat} {l : List Dot} (hd : Dots w A n c l) (ho : Off (KeepP N v) A l) : Dots w' A n c l := by
  refine ⟨hd.len, hd.cap, hd.max, hd.nil, fun i d hi => ?_⟩
  obtain ⟨b, o, rfl, hb, h1, h2⟩ := hd.cell i d hi
  have hl : l ≠ [] := fun e => by subst e; simp at hi
  have hk : KeepP N v b := ho hl _ rfl
  exact ⟨b, o, rfl, Nat.lt_of_lt_of_le hb h.size, (h.cell hb hk).trans h1, (h.cell hb hk).trans h2⟩
theorem Frame.off {N : Nat} {v v' : Value} {w : World} {A : Option Addr} {n c : Nat} {l : List Dot} (hd : Dots w A n c l) (ho : Off (KeepP N v) A l) (hv : ∀ g, v'.ownBlock = some g → v.ownBlock = some g ∨ w.heap.size ≤ g) : Off (KeepP N v') A l := fun hl a ha =>
  ⟨(ho hl a ha).1, fun e => by
    rcases hv _ e with h | h
    · exact (ho hl a ha).2 h
    · have := hd.lt hl a ha; omega⟩
theorem Frame.below {N : Nat} {v : Value} {w w' : World} (h : Frame N v w w') (hv : ∀ k, v.ownBlock = some k → N < k) (hN : N ≤ w.heap.size) : Below N w w' :=
  ⟨h.os, h.tape, h.output, h.size, fun k hk => h.block k (by omega) (by omega) (fun e => by have := hv k e; omega)⟩
theorem Off.drop {p : Nat → Prop} {A : Option Addr} {c k : Nat} {l : List Dot} (h : Off p A l) : Off p (cutA A c k) (l.drop k) := fun hl => cutA_block (h fun e => hl (by rw [e]; simp))

structure PartsAt (N B : Nat) (w : World) (a0 b0 : List Dot) (A : Option Addr) (n c : Nat) (a : List Dot) (A' : Option Addr) (m d : Nat) (b acc : List Dot) (v : Value) (wr : World) : Prop where
  d1 : Dots wr A n c a
  d2 : Dots wr A' m d b
  o1 : Off (KeepP N v) A a
  o2 : Off (KeepP N v) A' b
  cell : wr.cell? ⟨N, 0, none⟩ = some v
  free : wr.frozen? ⟨N, 0, none⟩ = false
  row : Row wr B v acc
  below : Below N w wr
  base : B ≤ wr.heap.size
  box : N < B
  merge : acc ++ mergeD a b = mergeD a0 b0
  len : acc.length + (a.length + b.length) ≤ a0.length + b0.length
section
variable {N B : Nat} {w wr w' : World} {a0 b0 a b acc s t : List Dot} {A A' : Option Addr} {n c m d : Nat} {v : Value} {p q : Dot}
theorem PartsAt.mono (h : PartsAt N B w a0 b0 A n c a A' m d b acc v wr) (hE : Below wr.heap.size wr w') : PartsAt N B w a0 b0 A n c a A' m d b acc v w' :=
  ⟨h.d1.mono hE, h.d2.mono hE, h.o1, h.o2, cellKeep hE h.cell, (hE.frozen (p := ⟨N, 0, none⟩) (Nat.lt_of_lt_of_le h.box h.base)).trans h.free, Row.mono h.row hE, h.below.trans (hE.mono (by have := h.box; have := h.base; omega)), Nat.le_trans h.base hE.size, h.box, h.merge, h.len⟩
/-- What the closure leaves. -/
structure Kept (N B : Nat) (v : Value) (l : List Dot) (w : World) (v' : Value) (w' : World) : Prop where
  frame : Frame N v w w'
  cell : w'.cell? ⟨N, 0, none⟩ = some v'
  free : w'.frozen? ⟨N, 0, none⟩ = false
  row : Row w' B v' l
  own : ∀ g, v'.ownBlock = some g → v.ownBlock = some g ∨ w.heap.size ≤ g
theorem PartsAt.low (h : PartsAt N B w a0 b0 A n c a A' m d b acc v wr) : ∀ k, v.ownBlock = some k → N < k := fun k hk => by have := Row.own wr h.row k hk; have := h.box; omega
theorem PartsAt.first {v' : Value} (h : PartsAt N B w a0 b0 A n c (p :: s) A' m d b acc v wr) (hm : mergeD (p :: s) b = p :: mergeD s b) (k : Kept N B v (acc ++ [p]) wr v' w') :
    PartsAt N B w a0 b0 (cutA A c 1) (n - 1) (c - 1) s A' m d b (acc ++ [p]) v' w' :=
  ⟨(k.frame.dots h.d1 h.o1).drop (k := 1) (by have := h.d1.len; simp at this; omega), k.frame.dots h.d2 h.o2, (Frame.off h.d1 h.o1 k.own).drop (k := 1), Frame.off h.d2 h.o2 k.own, k.cell, k.free, k.row,
    h.below.trans (k.frame.below h.low (by have := h.box; have := h.base; omega)), Nat.le_trans h.base k.frame.size, h.box, by rw [← h.merge, hm]; simp, by have := h.len; simp at this ⊢; omega⟩
theorem PartsAt.second {v' : Value} (h : PartsAt N B w a0 b0 A n c a A' m d (q :: t) acc v wr) (hm : mergeD a (q :: t) = q :: mergeD a t) (k : Kept N B v (acc ++ [q]) wr v' w') :
    PartsAt N B w a0 b0 A n c a (cutA A' d 1) (m - 1) (d - 1) t (acc ++ [q]) v' w' :=
  ⟨k.frame.dots h.d1 h.o1, (k.frame.dots h.d2 h.o2).drop (k := 1) (by have := h.d2.len; simp at this; omega), Frame.off h.d1 h.o1 k.own, (Frame.off h.d2 h.o2 k.own).drop (k := 1), k.cell, k.free, k.row,
    h.below.trans (k.frame.below h.low (by have := h.box; have := h.base; omega)), Nat.le_trans h.base k.frame.size, h.box, by rw [← h.merge, hm]; simp, by have := h.len; simp at this ⊢; omega⟩
theorem PartsAt.both {v' : Value} (h : PartsAt N B w a0 b0 A n c (p :: s) A' m d (q :: t) acc v wr) (hm : mergeD (p :: s) (q :: t) = p :: mergeD s t) (k : Kept N B v (acc ++ [p]) wr v' w') :
    PartsAt N B w a0 b0 (cutA A c 1) (n - 1) (c - 1) s (cutA A' d 1) (m - 1) (d - 1) t (acc ++ [p]) v' w' :=
  ⟨(k.frame.dots h.d1 h.o1).drop (k := 1) (by have := h.d1.len; simp at this; omega), (k.frame.dots h.d2 h.o2).drop (k := 1) (by have := h.d2.len; simp at this; omega), (Frame.off h.d1 h.o1 k.own).drop (k := 1), (Frame.off h.d2 h.o2 k.own).drop (k := 1), k.cell, k.free, k.row,
    h.below.trans (k.frame.below h.low (by have := h.box; have := h.base; omega)), Nat.le_trans h.base k.frame.size, h.box, by rw [← h.merge, hm]; simp, by have := h.len; simp at this ⊢; omega⟩
theorem dkeepK {x y : Int} (h : PartsAt N B w a0 b0 A n c a A' m d b acc v wr) (hs : a0.length + b0.length ≤ 1000000) :
    Calls Try.prog 58 #[.agg #[.int .i64 x, .int .i64 y], .pointer (some ⟨N, 0, none⟩)] wr fun e w' => e = .returned (.tuple #[]) ∧ ∃ v', Kept N B v (acc ++ [(x, y)]) wr v' w' :=
  (dkeep N B x y v acc wr h.box h.cell h.free h.row (by have := h.len; unfold Small; omega) h.base).mono fun _ _ ⟨e, f, v', h1, h2, h3, h4⟩ => ⟨e, v', f, h1, h2, h3, h4⟩
end
def PartsRel (N B : Nat) (w : World) (a0 b0 : List Dot) (x y : Value) (wr : World) : Prop :=
  ∃ (A : Option Addr) (n c : Nat) (a : List Dot) (A' : Option Addr) (m d : Nat) (b acc : List Dot) (v : Value), x = .slice A n c ∧ y = .slice A' m d ∧ PartsAt N B w a0 b0 A n c a A' m d b acc v wr
def lenOf (v : Value) : Nat := match v with | .slice _ n _ => n | _ => 0
theorem merge_first {x y : Dot} {s t : List Dot} (h : lessD x y = true) : mergeD (x :: s) (y :: t) = x :: mergeD s (y :: t) := by rw [mergeD, if_pos h]
theorem merge_second {x y : Dot} {s t : List Dot} (h : lessD x y = false) (h2 : lessD y x = true) : mergeD (x :: s) (y :: t) = y :: mergeD (x :: s) t := by rw [mergeD, if_neg (by rw [h]; simp), if_pos h2]
theorem merge_both {x y : Dot} {s t : List Dot} (h : lessD x y = false) (h2 : lessD y x = false) : mergeD (x :: s) (y :: t) = x :: mergeD s t := by rw [mergeD, if_neg (by rw [h]; simp), if_neg (by rw [h2]; simp)]
theorem merge_nil (a : List Dot) : mergeD a [] = a := by cases a <;> simp [mergeD]

theorem Dots.head {w : World} {A : Option Addr} {n c : Nat} {p : Dot} {s : List Dot} (h : Dots w A n c (p :: s)) : ∃ b o, A = some ⟨b, o, none⟩ ∧ b < w.heap.size ∧ w.cell? ⟨b, o, none⟩ = some (.int .i64 p.1) ∧ w.cell? ⟨b, o + 1, none⟩ = some (.int .i64 p.2) ∧ 1 ≤ n := by
  obtain ⟨b, o, e, hb, h1, h2⟩ := h.cell 0 p rfl
  exact ⟨b, o, e, hb, by simpa using h1, by simpa using h2, by have := h.len; simp at this; omega⟩
theorem index_head {w : World} {b o n c : Nat} (hn : 1 ≤ n) : (Instr.indexAt 28 (.slice (some ⟨b, o, none⟩) n c) (.int .i64 0)).run Try.prog w = .ok (.pointer (some ⟨b, o, none⟩)) w := by
  have := index_dots (w := w) (b := b) (o := o) (n := n) (c := c) (k := 0) (by omega)
  simpa using this
theorem slice_tail {w : World} {A : Option Addr} {n c : Nat} (h : 1 ≤ n) (hc : n ≤ c) : (Instr.sliceAt 28 (.slice A n c) (some (.int .i64 1)) none none).run Try.prog w = .ok (.slice (cutA A c 1) (n - 1) (c - 1)) w := slice_from_dots (k := 1) h hc
theorem cmpD_gt {a b : Dot} : 0 < cmpD a b ↔ lessD b a = true := by
  rw [lessD_iff]; unfold cmpD cmpI
  split <;> split <;> (try split) <;> omega
theorem enterKeep : Enters Try.prog 58 := enters_of Try.func58 (by kernel_rfl) rfl
abbrev keepF (N : Nat) : Value := .func (.func 58) #[] #[.pointer (some ⟨N, 0, none⟩)]

set_option maxRecDepth 100000 in
set_option maxHeartbeats 4000000 in
theorem dparts (N B : Nat) (A A' : Option Addr) (n c m d : Nat) (a b : List Dot) (w : World) (ha : Dots w A n c a) (hb : Dots w A' m d b) (hs : Small (n + m)) (hN : N < B) (hB : B ≤ w.heap.size) (hc : w.cell? ⟨N, 0, none⟩ = some (.slice none 0 0)) (hf : w.frozen? ⟨N, 0, none⟩ = false) :
    Calls Try.prog 59 #[.slice A n c, .slice A' m d, keepF N, keepF N, keepF N] w
      fun e w' => e = .returned (.tuple #[]) ∧ Below N w w' ∧ w'.frozen? ⟨N, 0, none⟩ = false ∧ ∃ v, w'.cell? ⟨N, 0, none⟩ = some v ∧ Row w' B v (unionD a b) := by
  have hsn : Small n := by have := hs.out; unfold Small; omega
  have hsm : Small m := by have := hs.out; unfold Small; omega
  have F1 := Lib.hid (dset A n c a w ha hsn)
  have HA := Lib.hid ha; have HB := Lib.hid hb; have HC := Lib.hid hc; have HF := Lib.hid hf
  clear ha hb hc hf
  go_enter Try.func59, Try.ntmps59
  go_wp2_with fail
  refine F1.out.mono ?_
  rintro e w1 ⟨v1, rfl, hb1, hr1⟩
  have F2 := Lib.hid (dset A' m d b w1 (HB.out.mono hb1) hsm)
  have HR1 := Lib.hid hr1
  clear hr1
  go_wp2_with fail
  refine F2.out.mono ?_
  rintro e w2 ⟨v2, rfl, hb2, hr2⟩
  have hb12 := hb1.le hb2
  obtain ⟨A1, c1, rfl, hd1⟩ := Row.dots (Row.mono HR1.out hb2)
  have ho1 : Off (KeepP N (.slice none 0 0)) A1 (unionD a []) := fun _ x hx => ⟨by have := Row.from_ HR1.out x hx; omega, by simp [Value.ownBlock]⟩
  obtain ⟨A2, c2, rfl, hd2⟩ := Row.dots hr2
  have ho2 : Off (KeepP N (.slice none 0 0)) A2 (unionD b []) := fun _ x hx => ⟨by have := Row.from_ hr2 x hx; have := hb1.size; omega, by simp [Value.ownBlock]⟩
  have start : PartsRel N B w (unionD a []) (unionD b []) (.slice A1 (unionD a []).length c1) (.slice A2 (unionD b []).length c2) w2 :=
    ⟨A1, _, c1, _, A2, _, c2, _, [], .slice none 0 0, rfl, rfl, hd1, hd2, ho1, ho2, cellKeep hb12 HC.out, (hb12.frozen (p := ⟨N, 0, none⟩) (by show N < _; omega)).trans HF.out, Row.nil_ _ _, hb12.mono (by omega), (by have := hb12.size; omega), hN, (by simp), (by simp)⟩
  have hlen : (unionD a []).length + (unionD b []).length ≤ 1000000 := by
    have h1 := unionD_length a []; have h2 := unionD_length b []; have := HA.out.len; have := HB.out.len; have := hs.out; simp at h1 h2; omega
  have hun := merge_union a b
  have START := Lib.hid start; have HLEN := Lib.hid hlen; have HUN := Lib.hid hun
  clear start hlen hun hb12 hd1 ho1 hd2 ho2 hr2 F1 F2 HR1 HA HB HC HF hb1 hb2
  generalize unionD a [] = a0 at *
  generalize unionD b [] = b0 at *
  go_wp2
  go_loopw [0, 1] (fun x y wr => PartsRel N B w a0 b0 x y wr) (fun x y _ => lenOf x + lenOf y)
  case atStart => exact START.out
  case round =>
    clear START
    obtain ⟨A1, n1, c1, a1, A2, n2, c2, b1, acc, v, rfl, rfl, hp⟩ := hrel
    cases a1 with
    | nil =>
      have hn1 : n1 = 0 := hp.d1.len
      subst hn1
      cases b1 with
      | nil =>
        have hn2 : n2 = 0 := hp.d2.len
        subst hn2
        have H := Lib.hid hp; clear hp
        go_wp2
        refine bodyPost_end (results_none rfl _ _ _) rfl ?_
        refine ⟨rfl, H.out.below, H.out.free, v, H.out.cell, ?_⟩
        have e : acc = unionD a b := by have := H.out.merge; rw [HUN.out] at this; simpa [mergeD] using this
        rw [← e]; exact H.out.row
      | cons q t =>
        obtain ⟨x, y⟩ := q
        obtain ⟨b', o', rfl, hb', k1, k2, hn2⟩ := hp.d2.head
        have hc2 := hp.d2.cap
        have hz2 : ((n2 : Int) == 0) = false := by rw [beq_eq_false_iff_ne]; omega
        have H := Lib.hid hp; have K1 := Lib.hid k1; have K2 := Lib.hid k2; have Z2 := Lib.hid hz2
        clear hp k1 k2 hz2
        have n1 : decide ((n2 : Int) > 0) = true := by rw [decide_eq_true_iff]; omega
        go_wp2_with fail
        refine wp_region_M mixed (by kernel_rfl) ?_
        refine MDerR.step (Ob.move Wanted.free Has.oldIs) ?_
        refine MDerR.step (Ob.lenV Wanted.free (Has.new 0 0) (fun w1 => len_dots)) ?_
        refine MDerR.step (Ob.binV Wanted.free (Has.new 1 0) (Has.cst _) (fun w1 => int_eql false Z2.out)) ?_
        refine MDerR.step (Ob.move Wanted.free (Has.new 2 0)) ?_
        refine MDerR.step (Ob.move (Wanted.on 3 0) Has.oldIs) ?_
        refine MDerR.step (Ob.lenV (Wanted.on 3 1) (Has.new 4 0) (fun w1 => len_dots)) ?_
        refine MDerR.step (Ob.binV (Wanted.on 3 2) (Has.new 5 0) (Has.cst _) (fun w1 => int_gtr false (by simp))) ?_
        refine MDerR.step (Ob.move (Wanted.on 3 3) (Has.new 6 0)) ?_
        refine MDerR.step (Ob.off 7 0) ?_
        refine MDerR.step (Ob.off 7 1) ?_
        refine MDerR.step (Ob.off 7 2) ?_
        refine MDerR.step (Ob.off 7 3) ?_
        refine MDerR.step (Ob.off 7 4) ?_
        refine MDerR.step (Ob.off 7 5) ?_
        refine MDerR.step (Ob.off 7 6) ?_
        refine MDerR.step (Ob.off 7 7) ?_
        refine MDerR.step (Ob.pickF (Wanted.on 3 12) (Has.new 7 8) (Has.cst _)) ?_
        refine MDerR.step (Ob.pickF Wanted.free (Has.new 3 13) (Has.new 16 0)) ?_
        refine MDerR.step (Ob.assign Wanted.free (Has.new 17 0)) ?_
        simp only [MDerR, dstsOf, List.map, EndM, List.reverse_cons, List.reverse_nil, List.nil_append, List.cons_append]
        intro wE hE
        iterate 19 (rintro _ rfl)
        simp only [Act.put, List.setIfInBounds_toArray, List.set_cons_zero, List.set_cons_succ]
        have H2 := Lib.hid (H.out.mono hE); have K3 := Lib.hid (cellKeep hE K1.out); have K4 := Lib.hid (cellKeep hE K2.out)
        clear H K1 K2 hE
        go_wp2_with fail
        refine wp_region_M mixed (by kernel_rfl) ?_
        refine MDerR.step (Ob.move Wanted.free Has.oldIs) ?_
        refine MDerR.step (Ob.lenV Wanted.free (Has.new 0 0) (fun w1 => len_dots)) ?_
        refine MDerR.step (Ob.binV Wanted.free (Has.new 1 0) (Has.cst _) (fun w1 => int_eql true rfl)) ?_
        refine MDerR.step (Ob.move Wanted.free (Has.new 2 0)) ?_
        refine MDerR.step (Ob.off 3 0) ?_
        refine MDerR.step (Ob.off 3 1) ?_
        refine MDerR.step (Ob.off 3 2) ?_
        refine MDerR.step (Ob.off 3 3) ?_
        refine MDerR.step (Ob.off 3 4) ?_
        refine MDerR.step (Ob.off 3 5) ?_
        refine MDerR.step (Ob.off 3 6) ?_
        refine MDerR.step (Ob.off 3 7) ?_
        refine MDerR.step (Ob.pickT Wanted.free (Has.new 3 8) (Has.cst _)) ?_
        refine MDerR.step (Ob.assign Wanted.free (Has.new 12 0)) ?_
        simp only [MDerR, dstsOf, List.map, EndM, List.reverse_cons, List.reverse_nil, List.nil_append, List.cons_append]
        intro wE hE
        iterate 14 (rintro _ rfl)
        simp only [Act.put, List.setIfInBounds_toArray, List.set_cons_zero, List.set_cons_succ]
        have H3 := Lib.hid (H2.out.mono hE); have K5 := cellKeep hE K3.out; have K6 := cellKeep hE K4.out
        clear H2 K3 K4 hE
        have ix := fun (w : World) => index_head (w := w) (b := b') (o := o') (c := c2) hn2
        have F := Lib.hid (dkeepK (x := x) (y := y) H3.out HLEN.out)
        have sl := fun (w : World) => slice_tail (w := w) (A := some ⟨b', o', none⟩) hn2 hc2
        go_wp2_with (go_at_call 58; ((with_reducible refine F.out.mono ?_); rintro e w3 ⟨rfl, v3, hk3⟩; have H4 := Lib.hid (H3.out.second (by simp [mergeD]) hk3); clear hk3 H3 F K5 K6 ix))
        go_roundw
        case rel => exact ⟨_, _, _, _, _, _, _, _, _, _, rfl, rfl, H4.out⟩
        case measure => simp [lenOf]; omega
    | cons p s =>
      obtain ⟨x, y⟩ := p
      obtain ⟨b1', o1', rfl, hb1', k1, k2, hn1⟩ := hp.d1.head
      have hc1 := hp.d1.cap
      have hg1 : decide ((n1 : Int) > 0) = true := by rw [decide_eq_true_iff]; omega
      have hz1 : ((n1 : Int) == 0) = false := by rw [beq_eq_false_iff_ne]; omega
      have K1 := Lib.hid k1; have K2 := Lib.hid k2; have Z1 := Lib.hid hz1; have G1 := Lib.hid hg1
      have ix := fun (w : World) => index_head (w := w) (b := b1') (o := o1') (c := c1) hn1
      have sl := fun (w : World) => slice_tail (w := w) (A := some ⟨b1', o1', none⟩) hn1 hc1
      have IX := Lib.hid ix; have SL := Lib.hid sl
      clear k1 k2 hz1 hg1 ix sl
      cases b1 with
      | nil =>
        have hn2 : n2 = 0 := hp.d2.len
        subst hn2
        have H := Lib.hid hp
        clear hp
        go_wp2_with fail
        refine wp_region_M mixed (by kernel_rfl) ?_
        refine MDerR.step (Ob.move Wanted.free Has.oldIs) ?_
        refine MDerR.step (Ob.lenV Wanted.free (Has.new 0 0) (fun w1 => len_dots)) ?_
        refine MDerR.step (Ob.binV Wanted.free (Has.new 1 0) (Has.cst _) (fun w1 => int_eql true rfl)) ?_
        refine MDerR.step (Ob.move Wanted.free (Has.new 2 0)) ?_
        refine MDerR.step (Ob.off 3 0) ?_
        refine MDerR.step (Ob.off 3 1) ?_
        refine MDerR.step (Ob.off 3 2) ?_
        refine MDerR.step (Ob.off 3 3) ?_
        refine MDerR.step (Ob.offU 7 0) ?_
        refine MDerR.step (Ob.offU 7 1) ?_
        refine MDerR.step (Ob.offU 7 2) ?_
        refine MDerR.step (Ob.offU 7 3) ?_
        refine MDerR.step (Ob.offU 7 4) ?_
        refine MDerR.step (Ob.offU 7 5) ?_
        refine MDerR.step (Ob.offU 7 6) ?_
        refine MDerR.step (Ob.offU 7 7) ?_
        refine MDerR.step (Ob.off 3 12) ?_
        refine MDerR.step (Ob.pickT Wanted.free (Has.new 3 13) (Has.cst _)) ?_
        refine MDerR.step (Ob.assign Wanted.free (Has.new 17 0)) ?_
        simp only [MDerR, dstsOf, List.map, EndM, List.reverse_cons, List.reverse_nil, List.nil_append, List.cons_append]
        intro wE hE
        iterate 19 (rintro _ rfl)
        simp only [Act.put, List.setIfInBounds_toArray, List.set_cons_zero, List.set_cons_succ]
        have H3 := Lib.hid (H.out.mono hE); have K5 := cellKeep hE K1.out; have K6 := cellKeep hE K2.out
        clear H K1 K2 hE
        have F := Lib.hid (dkeepK (x := x) (y := y) H3.out HLEN.out)
        have ix := IX.out; have sl := SL.out
        go_wp2_with (go_at_call 58; ((with_reducible refine F.out.mono ?_); rintro e w3 ⟨rfl, v3, hk3⟩; have H4 := Lib.hid (H3.out.first (by simp [merge_nil]) hk3); clear hk3 H3 F K5 K6 ix))
        go_roundw
        case rel => exact ⟨_, _, _, _, _, _, _, _, _, _, rfl, rfl, H4.out⟩
        case measure => simp [lenOf]; omega
      | cons q t =>
        obtain ⟨x2, y2⟩ := q
        obtain ⟨b2', o2', rfl, hb2', l1, l2, hn2⟩ := hp.d2.head
        have hc2 := hp.d2.cap
        have hz2 : ((n2 : Int) == 0) = false := by rw [beq_eq_false_iff_ne]; omega
        have L1 := Lib.hid l1; have L2 := Lib.hid l2; have Z2 := Lib.hid hz2
        have ix2 := fun (w : World) => index_head (w := w) (b := b2') (o := o2') (c := c2) hn2
        have sl2 := fun (w : World) => slice_tail (w := w) (A := some ⟨b2', o2', none⟩) hn2 hc2
        have IX2 := Lib.hid ix2; have SL2 := Lib.hid sl2
        have f := fun w1 (_ : Below wr.heap.size wr w1) => dcompare x y x2 y2 w1
        have H := Lib.hid hp
        clear hp l1 l2 hz2 ix2 sl2
        cases hl : lessD (x, y) (x2, y2) with
        | true =>
          have hcmp := cmpD_lt.2 hl
          generalize cmpD (x, y) (x2, y2) = r at *
          have HL := Lib.hid hl; have F := Lib.hid f; clear hl f
          go_wp2_with fail
          refine wp_region_M mixed (by kernel_rfl) ?_
          refine MDerR.step (Ob.move Wanted.free Has.oldIs) ?_
          refine MDerR.step (Ob.lenV Wanted.free (Has.new 0 0) (fun w1 => len_dots)) ?_
          refine MDerR.step (Ob.binV Wanted.free (Has.new 1 0) (Has.cst _) (fun w1 => int_eql false Z2.out)) ?_
          refine MDerR.step (Ob.move Wanted.free (Has.new 2 0)) ?_
          refine MDerR.step (Ob.move (Wanted.on 3 0) Has.oldIs) ?_
          refine MDerR.step (Ob.lenV (Wanted.on 3 1) (Has.new 4 0) (fun w1 => len_dots)) ?_
          refine MDerR.step (Ob.binV (Wanted.on 3 2) (Has.new 5 0) (Has.cst _) (fun w1 => int_gtr true G1.out)) ?_
          refine MDerR.step (Ob.move (Wanted.on 3 3) (Has.new 6 0)) ?_
          refine MDerR.step (Ob.move (Wanted.on 7 0) Has.oldIs) ?_
          refine MDerR.step (Ob.indexV (Wanted.on 7 1) (Has.new 8 0) (Has.cst _) (fun w1 => IX.out w1)) ?_
          refine MDerR.step (Ob.loadV (Wanted.on 7 2) (Has.new 9 0) (fun w1 hb1 => load_dot hb1 K1.out K2.out)) ?_
          refine MDerR.step (Ob.move (Wanted.on 7 3) Has.oldIs) ?_
          refine MDerR.step (Ob.indexV (Wanted.on 7 4) (Has.new 11 0) (Has.cst _) (fun w1 => IX2.out w1)) ?_
          refine MDerR.step (Ob.loadV (Wanted.on 7 5) (Has.new 12 0) (fun w1 hb1 => load_dot hb1 L1.out L2.out)) ?_
          refine MDerR.step (Ob.call2V (Wanted.on 7 6) enters50 (Has.new 10 3) (Has.new 13 0) (F.out)) ?_
          refine MDerR.step (Ob.binV (Wanted.on 7 7) (Has.new 14 0) (Has.cst _) (fun w1 => int_lss true (by rw [decide_eq_true_iff]; omega))) ?_
          refine MDerR.step (Ob.pickT (Wanted.on 3 12) (Has.new 7 8) (Has.new 15 0)) ?_
          refine MDerR.step (Ob.pickF Wanted.free (Has.new 3 13) (Has.new 16 0)) ?_
          refine MDerR.step (Ob.assign Wanted.free (Has.new 17 0)) ?_
          simp only [MDerR, dstsOf, List.map, EndM, List.reverse_cons, List.reverse_nil, List.nil_append, List.cons_append]
          intro wE hE
          iterate 19 (rintro _ rfl)
          simp only [Act.put, List.setIfInBounds_toArray, List.set_cons_zero, List.set_cons_succ]
          have H3 := Lib.hid (H.out.mono hE); have K5 := cellKeep hE K1.out; have K6 := cellKeep hE K2.out
          clear H K1 K2 L1 L2 F hE
          have F := Lib.hid (dkeepK (x := x) (y := y) H3.out HLEN.out)
          have ix := IX.out; have sl := SL.out
          go_wp2_with (go_at_call 58; ((with_reducible refine F.out.mono ?_); rintro e w3 ⟨rfl, v3, hk3⟩; have H4 := Lib.hid (H3.out.first (merge_first HL.out) hk3); clear hk3 H3 F K5 K6 ix))
          go_roundw
          case rel => exact ⟨_, _, _, _, _, _, _, _, _, _, rfl, rfl, H4.out⟩
          case measure => simp [lenOf]; omega
        | false =>
          have hnl : ¬ cmpD (x, y) (x2, y2) < 0 := by rw [cmpD_lt, hl]; simp
          have hgt := cmpD_gt (a := (x, y)) (b := (x2, y2))
          cases hl2 : lessD (x2, y2) (x, y) with
          | true =>
            have hcmp := hgt.2 hl2
            clear hgt
            generalize cmpD (x, y) (x2, y2) = r at *
            have HL := Lib.hid hl; have HL2 := Lib.hid hl2; have F := Lib.hid f; clear hl hl2 f
            go_wp2_with fail
            refine wp_region_M mixed (by kernel_rfl) ?_
            refine MDerR.step (Ob.move Wanted.free Has.oldIs) ?_
            refine MDerR.step (Ob.lenV Wanted.free (Has.new 0 0) (fun w1 => len_dots)) ?_
            refine MDerR.step (Ob.binV Wanted.free (Has.new 1 0) (Has.cst _) (fun w1 => int_eql false Z2.out)) ?_
            refine MDerR.step (Ob.move Wanted.free (Has.new 2 0)) ?_
            refine MDerR.step (Ob.move (Wanted.on 3 0) Has.oldIs) ?_
            refine MDerR.step (Ob.lenV (Wanted.on 3 1) (Has.new 4 0) (fun w1 => len_dots)) ?_
            refine MDerR.step (Ob.binV (Wanted.on 3 2) (Has.new 5 0) (Has.cst _) (fun w1 => int_gtr true G1.out)) ?_
            refine MDerR.step (Ob.move (Wanted.on 3 3) (Has.new 6 0)) ?_
            refine MDerR.step (Ob.move (Wanted.on 7 0) Has.oldIs) ?_
            refine MDerR.step (Ob.indexV (Wanted.on 7 1) (Has.new 8 0) (Has.cst _) (fun w1 => IX.out w1)) ?_
            refine MDerR.step (Ob.loadV (Wanted.on 7 2) (Has.new 9 0) (fun w1 hb1 => load_dot hb1 K1.out K2.out)) ?_
            refine MDerR.step (Ob.move (Wanted.on 7 3) Has.oldIs) ?_
            refine MDerR.step (Ob.indexV (Wanted.on 7 4) (Has.new 11 0) (Has.cst _) (fun w1 => IX2.out w1)) ?_
            refine MDerR.step (Ob.loadV (Wanted.on 7 5) (Has.new 12 0) (fun w1 hb1 => load_dot hb1 L1.out L2.out)) ?_
            refine MDerR.step (Ob.call2V (Wanted.on 7 6) enters50 (Has.new 10 3) (Has.new 13 0) (F.out)) ?_
            refine MDerR.step (Ob.binV (Wanted.on 7 7) (Has.new 14 0) (Has.cst _) (fun w1 => int_lss false (by rw [decide_eq_false_iff_not]; omega))) ?_
            refine MDerR.step (Ob.pickT (Wanted.on 3 12) (Has.new 7 8) (Has.new 15 0)) ?_
            refine MDerR.step (Ob.pickF Wanted.free (Has.new 3 13) (Has.new 16 0)) ?_
            refine MDerR.step (Ob.assign Wanted.free (Has.new 17 0)) ?_
            simp only [MDerR, dstsOf, List.map, EndM, List.reverse_cons, List.reverse_nil, List.nil_append, List.cons_append]
            intro wE hE
            iterate 19 (rintro _ rfl)
            simp only [Act.put, List.setIfInBounds_toArray, List.set_cons_zero, List.set_cons_succ]
            have H2 := Lib.hid (H.out.mono hE); have K3 := Lib.hid (cellKeep hE K1.out); have K4 := Lib.hid (cellKeep hE K2.out); have L3 := Lib.hid (cellKeep hE L1.out); have L4 := Lib.hid (cellKeep hE L2.out)
            have F1 := Lib.hid (fun w1 (h : Below wE.heap.size wE w1) => F.out w1 (hE.le h))
            clear H K1 K2 L1 L2 F hE
            go_wp2_with fail
            refine wp_region_M mixed (by kernel_rfl) ?_
            refine MDerR.step (Ob.move Wanted.free Has.oldIs) ?_
            refine MDerR.step (Ob.lenV Wanted.free (Has.new 0 0) (fun w1 => len_dots)) ?_
            refine MDerR.step (Ob.binV Wanted.free (Has.new 1 0) (Has.cst _) (fun w1 => int_eql false Z1.out)) ?_
            refine MDerR.step (Ob.move Wanted.free (Has.new 2 0)) ?_
            refine MDerR.step (Ob.move (Wanted.on 3 0) Has.oldIs) ?_
            refine MDerR.step (Ob.indexV (Wanted.on 3 1) (Has.new 4 0) (Has.cst _) (fun w1 => IX.out w1)) ?_
            refine MDerR.step (Ob.loadV (Wanted.on 3 2) (Has.new 5 0) (fun w1 hb1 => load_dot hb1 K3.out K4.out)) ?_
            refine MDerR.step (Ob.move (Wanted.on 3 3) Has.oldIs) ?_
            refine MDerR.step (Ob.indexV (Wanted.on 3 4) (Has.new 7 0) (Has.cst _) (fun w1 => IX2.out w1)) ?_
            refine MDerR.step (Ob.loadV (Wanted.on 3 5) (Has.new 8 0) (fun w1 hb1 => load_dot hb1 L3.out L4.out)) ?_
            refine MDerR.step (Ob.call2V (Wanted.on 3 6) enters50 (Has.new 6 3) (Has.new 9 0) (F1.out)) ?_
            refine MDerR.step (Ob.binV (Wanted.on 3 7) (Has.new 10 0) (Has.cst _) (fun w1 => int_gtr true (by rw [decide_eq_true_iff]; omega))) ?_
            refine MDerR.step (Ob.pickF Wanted.free (Has.new 3 8) (Has.new 11 0)) ?_
            refine MDerR.step (Ob.assign Wanted.free (Has.new 12 0)) ?_
            simp only [MDerR, dstsOf, List.map, EndM, List.reverse_cons, List.reverse_nil, List.nil_append, List.cons_append]
            intro wE hE
            iterate 14 (rintro _ rfl)
            simp only [Act.put, List.setIfInBounds_toArray, List.set_cons_zero, List.set_cons_succ]
            have H3 := Lib.hid (H2.out.mono hE); have K5 := cellKeep hE L3.out; have K6 := cellKeep hE L4.out
            clear H2 K3 K4 L3 L4 F1 hE
            have F := Lib.hid (dkeepK (x := x2) (y := y2) H3.out HLEN.out)
            have ix := IX2.out; have sl := SL2.out
            go_wp2_with (go_at_call 58; ((with_reducible refine F.out.mono ?_); rintro e w3 ⟨rfl, v3, hk3⟩; have H4 := Lib.hid (H3.out.second (merge_second HL.out HL2.out) hk3); clear hk3 H3 F K5 K6 ix))
            go_roundw
            case rel => exact ⟨_, _, _, _, _, _, _, _, _, _, rfl, rfl, H4.out⟩
            case measure => simp [lenOf]; omega
          | false =>
            have hcmp : ¬ 0 < cmpD (x, y) (x2, y2) := by rw [hgt, hl2]; simp
            clear hgt
            generalize cmpD (x, y) (x2, y2) = r at *
            have HL := Lib.hid hl; have HL2 := Lib.hid hl2; have F := Lib.hid f; clear hl hl2 f
            go_wp2_with fail
            refine wp_region_M mixed (by kernel_rfl) ?_
            refine MDerR.step (Ob.move Wanted.free Has.oldIs) ?_
            refine MDerR.step (Ob.lenV Wanted.free (Has.new 0 0) (fun w1 => len_dots)) ?_
            refine MDerR.step (Ob.binV Wanted.free (Has.new 1 0) (Has.cst _) (fun w1 => int_eql false Z2.out)) ?_
            refine MDerR.step (Ob.move Wanted.free (Has.new 2 0)) ?_
            refine MDerR.step (Ob.move (Wanted.on 3 0) Has.oldIs) ?_
            refine MDerR.step (Ob.lenV (Wanted.on 3 1) (Has.new 4 0) (fun w1 => len_dots)) ?_
            refine MDerR.step (Ob.binV (Wanted.on 3 2) (Has.new 5 0) (Has.cst _) (fun w1 => int_gtr true G1.out)) ?_
            refine MDerR.step (Ob.move (Wanted.on 3 3) (Has.new 6 0)) ?_
            refine MDerR.step (Ob.move (Wanted.on 7 0) Has.oldIs) ?_
            refine MDerR.step (Ob.indexV (Wanted.on 7 1) (Has.new 8 0) (Has.cst _) (fun w1 => IX.out w1)) ?_
            refine MDerR.step (Ob.loadV (Wanted.on 7 2) (Has.new 9 0) (fun w1 hb1 => load_dot hb1 K1.out K2.out)) ?_
            refine MDerR.step (Ob.move (Wanted.on 7 3) Has.oldIs) ?_
            refine MDerR.step (Ob.indexV (Wanted.on 7 4) (Has.new 11 0) (Has.cst _) (fun w1 => IX2.out w1)) ?_
            refine MDerR.step (Ob.loadV (Wanted.on 7 5) (Has.new 12 0) (fun w1 hb1 => load_dot hb1 L1.out L2.out)) ?_
            refine MDerR.step (Ob.call2V (Wanted.on 7 6) enters50 (Has.new 10 3) (Has.new 13 0) (F.out)) ?_
            refine MDerR.step (Ob.binV (Wanted.on 7 7) (Has.new 14 0) (Has.cst _) (fun w1 => int_lss false (by rw [decide_eq_false_iff_not]; omega))) ?_
            refine MDerR.step (Ob.pickT (Wanted.on 3 12) (Has.new 7 8) (Has.new 15 0)) ?_
            refine MDerR.step (Ob.pickF Wanted.free (Has.new 3 13) (Has.new 16 0)) ?_
            refine MDerR.step (Ob.assign Wanted.free (Has.new 17 0)) ?_
            simp only [MDerR, dstsOf, List.map, EndM, List.reverse_cons, List.reverse_nil, List.nil_append, List.cons_append]
            intro wE hE
            iterate 19 (rintro _ rfl)
            simp only [Act.put, List.setIfInBounds_toArray, List.set_cons_zero, List.set_cons_succ]
            have H2 := Lib.hid (H.out.mono hE); have K3 := Lib.hid (cellKeep hE K1.out); have K4 := Lib.hid (cellKeep hE K2.out); have L3 := Lib.hid (cellKeep hE L1.out); have L4 := Lib.hid (cellKeep hE L2.out)
            have F1 := Lib.hid (fun w1 (h : Below wE.heap.size wE w1) => F.out w1 (hE.le h))
            clear H K1 K2 L1 L2 F hE
            go_wp2_with fail
            refine wp_region_M mixed (by kernel_rfl) ?_
            refine MDerR.step (Ob.move Wanted.free Has.oldIs) ?_
            refine MDerR.step (Ob.lenV Wanted.free (Has.new 0 0) (fun w1 => len_dots)) ?_
            refine MDerR.step (Ob.binV Wanted.free (Has.new 1 0) (Has.cst _) (fun w1 => int_eql false Z1.out)) ?_
            refine MDerR.step (Ob.move Wanted.free (Has.new 2 0)) ?_
            refine MDerR.step (Ob.move (Wanted.on 3 0) Has.oldIs) ?_
            refine MDerR.step (Ob.indexV (Wanted.on 3 1) (Has.new 4 0) (Has.cst _) (fun w1 => IX.out w1)) ?_
            refine MDerR.step (Ob.loadV (Wanted.on 3 2) (Has.new 5 0) (fun w1 hb1 => load_dot hb1 K3.out K4.out)) ?_
            refine MDerR.step (Ob.move (Wanted.on 3 3) Has.oldIs) ?_
            refine MDerR.step (Ob.indexV (Wanted.on 3 4) (Has.new 7 0) (Has.cst _) (fun w1 => IX2.out w1)) ?_
            refine MDerR.step (Ob.loadV (Wanted.on 3 5) (Has.new 8 0) (fun w1 hb1 => load_dot hb1 L3.out L4.out)) ?_
            refine MDerR.step (Ob.call2V (Wanted.on 3 6) enters50 (Has.new 6 3) (Has.new 9 0) (F1.out)) ?_
            refine MDerR.step (Ob.binV (Wanted.on 3 7) (Has.new 10 0) (Has.cst _) (fun w1 => int_gtr false (by rw [decide_eq_false_iff_not]; omega))) ?_
            refine MDerR.step (Ob.pickF Wanted.free (Has.new 3 8) (Has.new 11 0)) ?_
            refine MDerR.step (Ob.assign Wanted.free (Has.new 12 0)) ?_
            simp only [MDerR, dstsOf, List.map, EndM, List.reverse_cons, List.reverse_nil, List.nil_append, List.cons_append]
            intro wE hE
            iterate 14 (rintro _ rfl)
            simp only [Act.put, List.setIfInBounds_toArray, List.set_cons_zero, List.set_cons_succ]
            have H3 := Lib.hid (H2.out.mono hE); have K5 := cellKeep hE K3.out; have K6 := cellKeep hE K4.out
            clear H2 K3 K4 L3 L4 F1 hE
            have F := Lib.hid (dkeepK (x := x) (y := y) H3.out HLEN.out)
            have ix := IX.out
            go_wp2_with (go_at_call 58; ((with_reducible refine F.out.mono ?_); rintro e w3 ⟨rfl, v3, hk3⟩; have H4 := Lib.hid (H3.out.both (merge_both HL.out HL2.out) hk3); clear hk3 H3 F K5 K6 ix))
            refine wp_region_M mixed (by kernel_rfl) ?_
            refine MDerR.step (Ob.move Wanted.free (Has.late 4)) ?_
            refine MDerR.step (Ob.sliceFrom_dots Wanted.free (Has.new 0 0) (Has.cst _) hn1 hc1 (k := 1)) ?_
            refine MDerR.step (Ob.move Wanted.free (Has.late 5)) ?_
            refine MDerR.step (Ob.sliceFrom_dots Wanted.free (Has.new 2 0) (Has.cst _) hn2 hc2 (k := 1)) ?_
            refine MDerR.step (Ob.assign Wanted.free (Has.new 1 2)) ?_
            refine MDerR.step (Ob.assign Wanted.free (Has.new 3 1)) ?_
            simp only [MDerR, dstsOf, List.map, EndM, List.reverse_cons, List.reverse_nil, List.nil_append, List.cons_append]
            intro wE hE
            iterate 6 (rintro _ rfl)
            simp only [Act.put, List.setIfInBounds_toArray, List.set_cons_zero, List.set_cons_succ]
            go_wp2
            go_roundw
            case rel => exact ⟨_, _, _, _, _, _, _, _, _, _, rfl, rfl, H4.out.mono hE⟩
            case measure => simp [lenOf]; omega
end Go.Proofs.Ytjbakmmmgejhlaa

/-
  dot.Union.
-/
namespace Go.Proofs.Ytjbakmmmgejhlaa
open Go.RowKit

set_option maxRecDepth 100000 in
set_option maxHeartbeats 1000000 in
theorem dunion (A A' : Option Addr) (n c m d : Nat) (a b : List Dot) (w : World) (ha : Dots w A n c a) (hb : Dots w A' m d b) (hs : Small (n + m)) :
    Calls Try.prog 38 #[.slice A n c, .slice A' m d] w (Ret w (IsRow w.heap.size (unionD a b))) := by
  have hb0 : Below w.heap.size w (w.alloc (.cells #[.slice none 0 0] 28)) := (Below.refl _ _).alloc (Nat.le_refl _) _
  have F := Lib.hid (dparts w.heap.size (w.heap.size + 1) A A' n c m d a b (w.alloc (.cells #[.slice none 0 0] 28)) (ha.mono hb0) (hb.mono hb0) hs (by omega) (by simp) (by simp [go_sem]) (by simp [go_sem]))
  have HB0 := Lib.hid hb0
  clear ha hb hb0
  go_enter Try.func38, Try.ntmps38
  go_wp2_with (go_at_call 59; ((with_reducible refine F.out.mono ?_); rintro e w1 ⟨rfl, hb1, hf1, v, hc1, hr1⟩; obtain ⟨A1, c1, rfl, hd1⟩ := Row.dots hr1; have HB1 := Lib.hid hb1; have HR := Lib.hid hr1; clear hb1 hr1 hd1))
  have hcs := cell_set (v := .slice A1 (unionD a b).length c1) hc1
  refine bodyPost_ret (v := .slice A1 (unionD a b).length c1) (by simp [results, Try.results38, go_sem, hcs]) rfl ?_
  refine ⟨_, rfl, (HB0.out.trans HB1.out).setCell (p := ⟨w.heap.size, 0, none⟩) (by simp) _, ?_⟩
  exact Row.low (Row.set_ HR.out (p := ⟨w.heap.size, 0, none⟩) (fun k hk => by have := Row.own w1 HR.out k hk; show k ≠ w.heap.size; omega) _) (by omega)
theorem entersDUnion : Enters Try.prog 38 := enters_of Try.func38 (by kernel_rfl) rfl
end Go.Proofs.Ytjbakmmmgejhlaa

/-
  slices.Grow of nil, slices.Concat of two vectors.
-/
namespace Go.Proofs.Ytjbakmmmgejhlaa
open Go.RowKit

theorem wpList_appRun {ops : Array Oper} {rest : List Oper} {o : Oper} {a : Act} {Q : Exit → Act → World → Prop} {s x : Operand} {t u : TypeId} {w w' : World} {v y v' : Value}
    (hgd : o.guard = none) (ho : o.op = .call { callee := .builtin .append, args := #[s, x], argTypes := #[t, u] }) (hsv : a.eval s = v) (hxv : a.eval x = y)
    (hr : ∀ ty, (Builtin.append_ #[t, u] ty #[v, y]).run Try.prog w = .ok v' w') (K : wpList Try.prog ops Q rest (a.put o.dst v') w') : wpList Try.prog ops Q (o :: rest) a w := by
  refine wpList_plain hgd fun K' hK => ?_
  unfold Oper.wp
  simp [execOp, ho, resolve, invoke, builtin, hsv, hxv, hr, Result.andThen]
  exact hK _ _ K

set_option maxRecDepth 100000 in
set_option maxHeartbeats 1000000 in
theorem vgrow (n : Nat) (w : World) (hs : Small n) :
    Calls Try.prog 70 #[.slice none 0 0, .int .i64 (n : Int)] w (Ret w (IsRow w.heap.size [])) := by
  have hn := hs.out
  have h1 : ¬ ((n : Int) < 0) := by omega
  by_cases h0 : n = 0
  · subst h0
    go_enter Try.func70, Try.ntmps70
    go_wp2
    go_ret
    exact ⟨_, rfl, Below.refl _ _, Row.nil_ _ _⟩
  · have h4 : decide ((n : Int) > 0) = true := by rw [decide_eq_true_iff]; omega
    obtain ⟨i, hi, hz, hsz, hby⟩ := info_dot
    have hrz : ∀ ty, (Builtin.append_ #[29, 3] ty #[.slice none 0 0, .int .i64 (n : Int)]).run Try.prog w =
        .ok (.slice (some ⟨w.heap.size, 0, none⟩) n (grownCap w n 0 27)) (w.drew.alloc (.cells (#[] ++ Builtin.zeroCells (Value.agg #[.int .i64 0, .int .i64 0]).cells n ++ Builtin.zeroCells (Value.agg #[.int .i64 0, .int .i64 0]).cells (grownCap w n 0 27 - n)) 27)) := fun ty => by
      have h := Lib.run_append_grow_zeros w 29 3 ty 27 i (.agg #[.int .i64 0, .int .i64 0]) .i64 .i64 Try.underlying29 Try.underlying3 hi hz none 0 0 [] (run_firstCells_none w.drew i.size 0 0 0) n (by omega) (by omega) (by omega) (by omega) (by rw [hby]; omega) (by rw [hby]; exact growslice_fits (by omega) (by omega))
      rw [Nat.zero_add] at h
      exact h
    have hge : n ≤ grownCap w n 0 27 := grownCap_ge w _ _ _
    have hmx : grownCap w n 0 27 ≤ maxLen := grownCap_le_maxLen w n 0 27 (by unfold maxLen; omega)
    have hsize : ((#[] : Array Value) ++ Builtin.zeroCells (Value.agg #[.int .i64 0, .int .i64 0]).cells n ++ Builtin.zeroCells (Value.agg #[.int .i64 0, .int .i64 0]).cells (grownCap w n 0 27 - n)).size = grownCap w n 0 27 * 2 := by
      simp [Builtin.zeroCells, Value.cells]; omega
    generalize grownCap w n 0 27 = G at *
    generalize (#[] : Array Value) ++ Builtin.zeroCells (Value.agg #[.int .i64 0, .int .i64 0]).cells n ++ Builtin.zeroCells (Value.agg #[.int .i64 0, .int .i64 0]).cells (G - n) = Z at *
    have HS := Lib.hid hsize; have HM := Lib.hid hmx; have HG := Lib.hid hge
    have hG : G ≤ 9223372036854775807 := by unfold maxLen at hmx; omega
    have HRZ := Lib.hid hrz
    clear hsize hmx hi hz hsz hby hrz
    go_enter Try.func70, Try.ntmps70
    go_wp2_with (at_builtin; refine wpList_appRun (v := .slice none 0 0) (y := .int .i64 (n : Int)) rfl rfl rfl rfl HRZ.out ?_; simp only [Act.put, List.setIfInBounds_toArray, List.set_cons_zero, List.set_cons_succ])
    go_ret
    refine ⟨_, rfl, (Below.refl _ w).drew.trans ((Below.refl _ _).alloc (by simp) _), ?_⟩
    exact ⟨rfl, .inr ⟨w.heap.size, G, Z, rfl, Nat.le_refl _, heap_alloc_new _ _, Nat.zero_le _, HM.out, HS.out, by simp [dcells]⟩⟩

def ConcatRel (B : Nat) (w : World) (a b : List Dot) (v i : Value) (wr : World) : Prop :=
  ∃ (k : Nat) (acc : List Dot), i = .int .i64 k ∧ k ≤ 2 ∧ Row wr B v acc ∧ Below B w wr ∧ B ≤ wr.heap.size ∧ (k = 0 ∧ acc = [] ∨ k = 1 ∧ acc = a ∨ k = 2 ∧ acc = a ++ b)

set_option maxRecDepth 100000 in
set_option maxHeartbeats 4000000 in
theorem vconcat (A A' : Option Addr) (n c m d g : Nat) (a b : List Dot) (w : World) (ha : Dots w A n c a) (hb : Dots w A' m d b) (hs : Small (n + m)) (h0 : w.cell? ⟨g, 0, none⟩ = some (.slice A n c)) (h1 : w.cell? ⟨g, 1, none⟩ = some (.slice A' m d)) :
    Calls Try.prog 54 #[.slice (some ⟨g, 0, none⟩) 2 2] w (Ret w (IsRow w.heap.size (a ++ b))) := by
  have hsn := hs.out
  have HA := Lib.hid ha; have HD := Lib.hid hb; have H0 := Lib.hid h0; have H1 := Lib.hid h1
  have e0 : ((n : Int) + (m : Int)) = ((n + m : Nat) : Int) := by simp
  have F := Lib.hid (fun w => by have h := vgrow (n + m) w hs; rw [← e0] at h; exact h : ∀ w, Calls Try.prog 70 #[.slice none 0 0, .int .i64 ((n : Int) + (m : Int))] w (Ret w (IsRow w.heap.size [])))
  clear ha hb e0
  go_enter Try.func54, Try.ntmps54
  go_wp2
  refine wp_loop_rounds 3 ?_
  rw [rounds_succ]; go_wp2
  rw [rounds_succ]; go_wp2
  rw [rounds_succ]; go_wp2_with fail
  refine (F.out _).mono ?_
  rintro e w1 ⟨v1, rfl, hb1, hr1⟩
  have HB1 := Lib.hid hb1; have HR1 := Lib.hid hr1
  have hsz := hb1.size
  clear hb1 hr1 F
  go_wp2
  go_loopw [6, 27] (fun v i wr => ConcatRel w.heap.size w a b v i wr) (fun _ i _ => 2 - (intOf i).toNat)
  case atStart => exact ⟨0, [], rfl, by omega, HR1.out, HB1.out, hsz, .inl ⟨rfl, rfl⟩⟩
  case round =>
    clear HR1
    obtain ⟨k, acc, rfl, hk, hr, hb, hB, hcase⟩ := hrel
    have HR := Lib.hid hr; have HB := Lib.hid hb
    clear hr hb
    rcases hcase with ⟨rfl, rfl⟩ | ⟨rfl, rfl⟩ | ⟨rfl, rfl⟩
    · have k0 := cellKeep HB.out H0.out
      have hd := Lib.hid (HA.out.mono HB.out)
      go_wp2_with (at_builtin; refine wpList_app (B := w.heap.size) (l := []) rfl rfl Try.underlying29 rfl rfl HR.out hd.out (by have := hd.out.len; simp; omega) hB ?_; intro v' w' hr' hg'; have HG := Lib.hid (HB.out.grown hg' hB (fun q hq => Row.own _ HR.out q hq)); have HR' := Lib.hid hr'; have hB' := Nat.le_trans hB hg'.size; clear hr' hg'; simp only [Act.put, List.setIfInBounds_toArray, List.set_cons_zero, List.set_cons_succ])
      go_roundw
      case rel => exact ⟨1, a, rfl, by omega, HR'.out, HG.out, hB', .inr (.inl ⟨rfl, rfl⟩)⟩
      case measure => simp [intOf]
    · have k0 := cellKeep HB.out H1.out
      have hd := Lib.hid (HD.out.mono HB.out)
      go_wp2_with (at_builtin; refine wpList_app (B := w.heap.size) (l := acc) rfl rfl Try.underlying29 rfl rfl HR.out hd.out (by have := hd.out.len; have := HA.out.len; omega) hB ?_; intro v' w' hr' hg'; have HG := Lib.hid (HB.out.grown hg' hB (fun q hq => Row.own _ HR.out q hq)); have HR' := Lib.hid hr'; have hB' := Nat.le_trans hB hg'.size; clear hr' hg'; simp only [Act.put, List.setIfInBounds_toArray, List.set_cons_zero, List.set_cons_succ])
      go_roundw
      case rel => exact ⟨2, acc ++ b, rfl, by omega, HR'.out, HG.out, hB', .inr (.inr ⟨rfl, rfl⟩)⟩
      case measure => simp [intOf]
    · go_wp2
      go_ret
      exact ⟨_, rfl, HB.out, HR.out⟩
end Go.Proofs.Ytjbakmmmgejhlaa
