/-
  ContextLooks: what its two loops want, that write into what was returned.
-/
import Derived.Test.YtdngechnelemlaaWQ
import Derived.Test.YtdngechnelemlaaWM
namespace Go.Proofs.Ytdngechnelemlaa
open Go.RowKit

theorem isNil2 (w : World) : IsCon ([], []) w (.agg #[.slice none 0 0, .slice none 0 0]) := ⟨none, 0, 0, none, 0, 0, rfl, ⟨Dots.nil_, Dots.nil_⟩⟩
theorem compR_no {c : Ctx} (h : validC c = false) : (eqC (compR c).1 ([], []) && ((compR c).2 == 2)) = true := by
  unfold compR
  rw [if_neg (by rw [h]; simp)]
  rfl
theorem dcells_put : ∀ (l : List Dot) (i : Nat) (z : Int), i < l.length → ∃ l' : List Dot, l'.length = l.length ∧ (dcells l).set (i * 2 + 1) (.int .i64 z) = dcells l'
  | [], i, z, h => by simp at h
  | d :: l, 0, z, _ => ⟨(d.1, z) :: l, rfl, rfl⟩
  | d :: l, i + 1, z, h => by
    obtain ⟨l', h1, h2⟩ := dcells_put l i z (by simpa using h)
    refine ⟨d :: l', by simp [h1], ?_⟩
    rw [dcells_cons, dcells_cons, show (i + 1) * 2 + 1 = i * 2 + 1 + 1 + 1 by omega, List.set_cons_succ, List.set_cons_succ, h2]
/-- A count of a row of the call's own: where it lies, and the row behind a store. -/
theorem Row.count {w : World} {B : Nat} {A : Option Addr} {n c i : Nat} {l : List Dot} (h : Row w B (.slice A n c) l) (hi : i < n) :
    ∃ g y, A = some ⟨g, 0, none⟩ ∧ B ≤ g ∧ g < w.heap.size ∧ w.cell? ⟨g, i * 2 + 1, none⟩ = some (.int .i64 y) ∧ w.frozen? ⟨g, i * 2 + 1, none⟩ = false ∧ ∀ z, ∃ l', Row (w.setCell ⟨g, i * 2 + 1, none⟩ (.int .i64 z)) B (.slice A n c) l' := by
  obtain ⟨A', c', e, hd⟩ := Row.dots h
  cases e
  obtain ⟨g, e, hB, hg⟩ : ∃ g, A = some ⟨g, 0, none⟩ ∧ B ≤ g ∧ g < w.heap.size := by
    rcases h.2 with ⟨_, h0⟩ | ⟨g, cap, cur, e, hB, hh, _⟩
    · omega
    · cases e
      exact ⟨g, rfl, hB, (Array.getElem?_eq_some_iff.1 hh).1⟩
  subst e
  obtain ⟨b, o, x, y, e, _, _, _, _, k2⟩ := hd.at_ hi
  cases e
  rw [Nat.zero_add] at k2
  refine ⟨g, y, rfl, hB, hg, k2, World.ownsRow.frozenAt h _, fun z => ?_⟩
  obtain ⟨l', h1, h2⟩ := dcells_put l i z hi
  refine ⟨l', ?_⟩
  have h3 := (World.ownsRow.stored h (i * 2 + 1) (.int .i64 z)).1
  rw [h2, ← h1] at h3
  rw [← h1]
  exact h3
/-- What holds at the heads of both loops. -/
structure LookAt (b N : Nat) (W : World) (A B : Option Addr) (n ca m cb : Nat) (wr : World) : Prop where
  c0 : wr.cell? ⟨N, 0, none⟩ = some (.slice A n ca)
  c1 : wr.cell? ⟨N, 1, none⟩ = some (.slice B m cb)
  below : Below b W wr
  r1 : ∃ l, Row wr b (.slice A n ca) l
  r2 : ∃ l, Row wr b (.slice B m cb) l
  o1 : ∀ k, (Value.slice A n ca).ownBlock = some k → k ≠ N
  o2 : ∀ k, (Value.slice B m cb).ownBlock = some k → k ≠ N
  apart : ∀ k, (Value.slice A n ca).ownBlock = some k → (Value.slice B m cb).ownBlock ≠ some k
section
variable {b N : Nat} {W wr : World} {A B : Option Addr} {n ca m cb i : Nat}
theorem LookAt.first (h : LookAt b N W A B n ca m cb wr) (hi : i < n) : ∃ g y, A = some ⟨g, 0, none⟩ ∧ g < wr.heap.size ∧ wr.cell? ⟨g, i * 2 + 1, none⟩ = some (.int .i64 y) ∧ wr.frozen? ⟨g, i * 2 + 1, none⟩ = false ∧
    ∀ z, LookAt b N W A B n ca m cb (wr.setCell ⟨g, i * 2 + 1, none⟩ (.int .i64 z)) := by
  obtain ⟨l, r⟩ := h.r1
  obtain ⟨g, y, e, hb, hg, h1, h2, h3⟩ := r.count hi
  have hN : g ≠ N := h.o1 g (by rw [e]; rfl)
  have hne : ∀ o v, (⟨g, i * 2 + 1, none⟩ : Addr) ≠ ⟨N, o, v⟩ := fun o v e => hN (by cases e; rfl)
  refine ⟨g, y, e, hg, h1, h2, fun z => ⟨cell_far (hne _ _) h.c0, cell_far (hne _ _) h.c1, h.below.setCell (p := ⟨g, i * 2 + 1, none⟩) hb _, h3 z, ?_, h.o1, h.o2, h.apart⟩⟩
  obtain ⟨l2, r2⟩ := h.r2
  exact ⟨l2, Row.set_ r2 (fun k hk e2 => h.apart g (by rw [e]; rfl) (by rw [hk, e2])) _⟩
theorem LookAt.second (h : LookAt b N W A B n ca m cb wr) (hi : i < m) : ∃ g y, B = some ⟨g, 0, none⟩ ∧ g < wr.heap.size ∧ wr.cell? ⟨g, i * 2 + 1, none⟩ = some (.int .i64 y) ∧ wr.frozen? ⟨g, i * 2 + 1, none⟩ = false ∧
    ∀ z, LookAt b N W A B n ca m cb (wr.setCell ⟨g, i * 2 + 1, none⟩ (.int .i64 z)) := by
  obtain ⟨l, r⟩ := h.r2
  obtain ⟨g, y, e, hb, hg, h1, h2, h3⟩ := r.count hi
  have hN : g ≠ N := h.o2 g (by rw [e]; rfl)
  have hne : ∀ o v, (⟨g, i * 2 + 1, none⟩ : Addr) ≠ ⟨N, o, v⟩ := fun o v e => hN (by cases e; rfl)
  refine ⟨g, y, e, hg, h1, h2, fun z => ⟨cell_far (hne _ _) h.c0, cell_far (hne _ _) h.c1, h.below.setCell (p := ⟨g, i * 2 + 1, none⟩) hb _, ?_, h3 z, h.o1, h.o2, h.apart⟩⟩
  obtain ⟨l2, r2⟩ := h.r1
  exact ⟨l2, Row.set_ r2 (fun k hk e2 => h.apart k hk (by rw [e]; exact congrArg some e2.symm)) _⟩
def LookRel (b N : Nat) (W : World) (A B : Option Addr) (n ca m cb lim : Nat) (i : Value) (wr : World) : Prop := ∃ k : Nat, i = .int .i64 k ∧ k ≤ lim ∧ LookAt b N W A B n ca m cb wr
theorem LookAt.len1 (h : LookAt b N W A B n ca m cb wr) : n ≤ 9223372036854775807 := h.r1.elim fun _ r => r.asDots.big
theorem LookAt.len2 (h : LookAt b N W A B n ca m cb wr) : m ≤ 9223372036854775807 := h.r2.elim fun _ r => r.asDots.big
end
end Go.Proofs.Ytdngechnelemlaa

/-
  ContextLooks: for any two contexts, with no further condition, the law returns true, and its arguments read afterwards as they read before.
-/
namespace Go.Proofs.Ytdngechnelemlaa
open Go.RowKit

set_option maxRecDepth 100000 in
set_option maxHeartbeats 8000000 in
theorem lawLooks (A B A2 B2 : Option Addr) (n ca m cb n2 ca2 m2 cb2 : Nat) (c d : Ctx) (w : World) (h : Con w A n ca B m cb c) (h2 : Con w A2 n2 ca2 B2 m2 cb2 d) :
    Calls Try.prog 3 #[.agg #[.slice A n ca, .slice B m cb], .agg #[.slice A2 n2 ca2, .slice B2 m2 cb2]] w (Ret w (IsB true)) := by
  obtain ⟨W, hWdef⟩ : ∃ W, W = (w.alloc (conBox A n ca B m cb)).alloc (conBox A2 n2 ca2 B2 m2 cb2) := ⟨_, rfl⟩
  have hb0 : Below w.heap.size w W := by rw [hWdef]; go_grown
  have ba : Boxed w.heap.size A B n ca m cb c W := ⟨by rw [hWdef]; simp [go_sem], by rw [hWdef]; simp [go_sem], h.mono hb0⟩
  have bb : Boxed (w.heap.size + 1) A2 B2 n2 ca2 m2 cb2 d W := ⟨by rw [hWdef]; simp [go_sem], by rw [hWdef]; simp [go_sem], h2.mono hb0⟩
  have LN := Lib.hid h.v.len; have LM := Lib.hid h.k.len
  have DEF := Lib.hid hWdef; have HB := Lib.hid hb0; have BA := Lib.hid ba; have BB := Lib.hid bb
  clear hWdef hb0 ba bb h h2
  go_enter Try.func3, Try.ntmps3
  go_wp2_with fail
  rw [← DEF.out]
  refine (lightI BA.out.is (lightB c) rfl).mono ?_
  rintro _ w1 ⟨_, rfl, hb1, rfl⟩
  have BA1 := Lib.hid (BA.out.mono hb1); have BB1 := Lib.hid (BB.out.mono hb1); have HB1 := Lib.hid (HB.out.le hb1)
  clear hb1
  cases hg : lightB c
  case false =>
    have HBK := HB1
    go_wp2_with fail
    refine (known_ _).mono ?_
    rintro _ w9 ⟨_, rfl, hb9, rfl⟩
    have HB9 := Lib.hid (HBK.out.le hb9)
    clear hb9
    go_wp2
    go_ret
    exact retB rfl HB9.out
  have HG := Lib.hid (lightB_len hg); clear hg
  have x0 := BB1.out.c0; have x1 := BB1.out.c1
  go_wp2_with fail
  refine (lightI BB1.out.is (lightB d) rfl).mono ?_
  rintro _ w2 ⟨_, rfl, hb2, rfl⟩
  have BA2 := Lib.hid (BA1.out.mono hb2); have BB2 := Lib.hid (BB1.out.mono hb2); have HB2 := Lib.hid (HB1.out.le hb2)
  clear hb2 x0 x1 BA1 BB1 HB1
  cases hg2 : lightB d
  case false =>
    have HBK := HB2
    go_wp2_with fail
    refine (known_ _).mono ?_
    rintro _ w9 ⟨_, rfl, hb9, rfl⟩
    have HB9 := Lib.hid (HBK.out.le hb9)
    clear hb9
    go_wp2
    go_ret
    exact retB rfl HB9.out
  clear hg2
  have hcc : c.1.length + c.2.length ≤ 1000 := by have := HG.out; omega
  have HCC := Lib.hid hcc; clear hcc
  go_wp2_with fail
  refine wp_region_M mixed (by kernel_rfl) ?_
  refine MDerR.step (Ob.load (F := IsCon c) Wanted.free Has.oldIs (fun w1 v hb1 hv => BA2.out.loadI hb1 hv)) ?_
  refine MDerR.step (Ob.call1 Wanted.free entValid (Has.new 0 0) (fun w1 u hb1 (hu : IsCon c w1 u) => cvalidI hu (validC c) rfl)) ?_
  refine MDerR.step (Ob.load (F := IsCon c) Wanted.free Has.oldIs (fun w1 v hb1 hv => BA2.out.loadI hb1 hv)) ?_
  refine MDerR.step (Ob.call1 Wanted.free entRValid (Has.new 2 0) (fun w1 u hb1 (hu : IsCon c w1 u) => rvalidI hu (validC c) rfl)) ?_
  refine MDerR.step (Ob.binV Wanted.free (Has.new 1 2) (Has.new 3 0) (fun w1 => bool_neq false (by simp))) ?_
  refine MDerR.step (Ob.move Wanted.free (Has.new 4 0)) ?_
  refine MDerR.step (Ob.load (F := IsCon c) (Wanted.on 5 0) Has.oldIs (fun w1 v hb1 hv => BA2.out.loadI hb1 hv)) ?_
  refine MDerR.step (Ob.call1 (Wanted.on 5 1) entComp (Has.new 6 0) (fun w1 u hb1 (hu : IsCon c w1 u) => ccompI hu (compC c) rfl)) ?_
  refine MDerR.step (Ob.load (F := IsCon c) (Wanted.on 5 2) Has.oldIs (fun w1 v hb1 hv => BA2.out.loadI hb1 hv)) ?_
  refine MDerR.step (Ob.call1 (Wanted.on 5 3) entRComp (Has.new 8 0) (fun w1 u hb1 (hu : IsCon c w1 u) => rcompI hu (compC c) rfl)) ?_
  refine MDerR.step (Ob.binV (Wanted.on 5 4) (Has.new 7 2) (Has.new 9 0) (fun w1 => bool_neq false (by simp))) ?_
  refine MDerR.step (Ob.pickF Wanted.free (Has.new 5 5) (Has.new 10 0)) ?_
  refine MDerR.step (Ob.move Wanted.free (Has.new 11 0)) ?_
  refine MDerR.step (Ob.load (F := IsCon c) (Wanted.on 12 0) Has.oldIs (fun w1 v hb1 hv => BA2.out.loadI hb1 hv)) ?_
  refine MDerR.step (Ob.load (F := IsCon d) (Wanted.on 12 1) Has.oldIs (fun w1 v hb1 hv => BB2.out.loadI hb1 hv)) ?_
  refine MDerR.step (Ob.call2 (Wanted.on 12 2) entCeq (Has.new 13 1) (Has.new 14 0) (fun w1 u v hb1 (hu : IsCon c w1 u) (hv : IsCon d w1 v) => ceqI hu hv (eqC c d) rfl)) ?_
  refine MDerR.step (Ob.load (F := IsCon c) (Wanted.on 12 3) Has.oldIs (fun w1 v hb1 hv => BA2.out.loadI hb1 hv)) ?_
  refine MDerR.step (Ob.load (F := IsCon d) (Wanted.on 12 4) Has.oldIs (fun w1 v hb1 hv => BB2.out.loadI hb1 hv)) ?_
  refine MDerR.step (Ob.call2 (Wanted.on 12 5) entRceq (Has.new 16 1) (Has.new 17 0) (fun w1 u v hb1 (hu : IsCon c w1 u) (hv : IsCon d w1 v) => rceqI hu hv (eqC c d) rfl)) ?_
  refine MDerR.step (Ob.binV (Wanted.on 12 6) (Has.new 15 3) (Has.new 18 0) (fun w1 => bool_neq false (by simp))) ?_
  refine MDerR.step (Ob.pickF Wanted.free (Has.new 12 7) (Has.new 19 0)) ?_
  refine MDerR.step (Ob.move Wanted.free (Has.new 20 0)) ?_
  refine MDerR.step (Ob.load (F := IsCon c) (Wanted.on 21 0) Has.oldIs (fun w1 v hb1 hv => BA2.out.loadI hb1 hv)) ?_
  refine MDerR.step (Ob.load (F := IsCon c) (Wanted.on 21 1) Has.oldIs (fun w1 v hb1 hv => BA2.out.loadI hb1 hv)) ?_
  refine MDerR.step (Ob.call2 (Wanted.on 21 2) entCeq (Has.new 22 1) (Has.new 23 0) (fun w1 u v hb1 (hu : IsCon c w1 u) (hv : IsCon c w1 v) => ceqI hu hv true (eqC_self c))) ?_
  refine MDerR.step (Ob.not (Wanted.on 21 3) (Has.new 24 0)) ?_
  refine MDerR.step (Ob.pickF Wanted.free (Has.new 21 4) (Has.new 25 0)) ?_
  simp only [MDerR, dstsOf, List.map, EndM, List.reverse_cons, List.reverse_nil, List.nil_append, List.cons_append]
  intro wE hE
  rintro _ _h0
  iterate 1 (rintro _ rfl)
  rintro _ _h2
  iterate 3 (rintro _ rfl)
  rintro _ _h6
  iterate 1 (rintro _ rfl)
  rintro _ _h8
  iterate 4 (rintro _ rfl)
  rintro _ _h13
  rintro _ _h14
  iterate 1 (rintro _ rfl)
  rintro _ _h16
  rintro _ _h17
  iterate 4 (rintro _ rfl)
  rintro _ _h22
  rintro _ _h23
  iterate 3 (rintro _ rfl)
  simp only [Act.put, List.setIfInBounds_toArray, List.set_cons_zero, List.set_cons_succ]
  have BA3 := Lib.hid (BA2.out.mono hE); have HB3 := Lib.hid (HB2.out.le hE)
  clear hE BA2 BB2 HB2
  generalize wE = w3 at *
  have x0 := BA3.out.c0; have x1 := BA3.out.c1
  go_wp2_with fail
  refine (rvalidI BA3.out.is (validC c) rfl).mono ?_
  rintro _ w4 ⟨_, rfl, hb4, rfl⟩
  have BA4 := Lib.hid (BA3.out.mono hb4); have HB4 := Lib.hid (HB3.out.le hb4)
  clear hb4 x0 x1 BA3 HB3
  have x0 := BA4.out.c0; have x1 := BA4.out.c1
  cases hv : validC c
  case false =>
    have HV := Lib.hid hv; clear hv
    go_wp2_with fail
    refine (lcompactsI BA4.out.is (isNil2 w4) rfl HCC.out true (compR_no HV.out)).mono ?_
    rintro _ w5 ⟨_, rfl, hb5, rfl⟩
    have BA5 := Lib.hid (BA4.out.mono hb5); have HB5 := Lib.hid (HB4.out.le hb5)
    clear hb5 x0 x1 BA4 HB4
    have x0 := BA5.out.c0; have x1 := BA5.out.c1
    go_wp2_with fail
    refine (isizeI BA5.out.is HCC.out 0 (by rw [HV.out]; rfl)).mono ?_
    rintro _ w6 ⟨_, rfl, hb6, rfl⟩
    have HBK := Lib.hid (HB5.out.le hb6)
    clear hb6 x0 x1 BA5 HB5
    go_wp2_with fail
    refine (known_ _).mono ?_
    rintro _ w9 ⟨_, rfl, hb9, rfl⟩
    have HB9 := Lib.hid (HBK.out.le hb9)
    clear hb9
    go_wp2
    go_ret
    exact retB rfl HB9.out
  have HV := Lib.hid hv; clear hv
  go_wp2_with fail
  refine (lown A B n ca m cb c w4 BA4.out.con (by have := HG.out; have := LN.out; unfold Small; omega) (by have := HG.out; have := LM.out; unfold Small; omega)).mono ?_
  rintro _ w6 ⟨_, rfl, hb6, A6, n6, ca6, B6, m6, cb6, rfl, hc6, _, _⟩
  have BA6 := Lib.hid (BA4.out.mono hb6); have HB6 := Lib.hid (HB4.out.le hb6); have BM := Lib.hid (Boxed.new hc6)
  have hal : Below w6.heap.size w6 (w6.alloc (conBox A6 n6 ca6 B6 m6 cb6)) := (Below.refl _ _).alloc (Nat.le_refl _) _
  have BA7 := Lib.hid (BA6.out.mono hal); have HB7 := Lib.hid (HB6.out.le hal)
  clear hb6 hal hc6 x0 x1 BA4 HB4 BA6 HB6
  go_wp2_with fail
  refine (icompactI BM.out.is HCC.out HV.out).mono ?_
  rintro _ w7 ⟨_, rfl, hb7, _, rfl, A7, n7, ca7, B7, m7, cb7, rfl, r1, r2, hap⟩
  have hal : Below w7.heap.size w7 (w7.alloc (conBox A7 n7 ca7 B7 m7 cb7)) := (Below.refl _ _).alloc (Nat.le_refl _) _
  have hb8 := hb7.le hal
  have BX := Lib.hid (Boxed.new (c := passC c) ⟨r1.asDots, r2.asDots⟩ : Boxed w7.heap.size A7 B7 n7 ca7 m7 cb7 (passC c) (w7.alloc (conBox A7 n7 ca7 B7 m7 cb7)))
  have BA8 := Lib.hid (BA7.out.mono hb8)
  have R1 := Lib.hid (Row.mono r1 hal); have R2 := Lib.hid (Row.mono r2 hal); have HAP := Lib.hid hap; have HB8 := Lib.hid hb8
  have O1 := Lib.hid (fun k hk => Nat.ne_of_lt (Row.upto r1 k hk)); have O2 := Lib.hid (fun k hk => Nat.ne_of_lt (Row.upto r2 k hk))
  clear hb7 r1 r2 hap hal hb8
  go_wp2_with fail
  refine wp_region_M mixed (by kernel_rfl) ?_
  refine MDerR.step (Ob.load (F := IsCon (passC c)) Wanted.free Has.oldIs (fun w1 v hb1 hv => BX.out.loadI hb1 hv)) ?_
  refine MDerR.step (Ob.move Wanted.free Has.oldIs) ?_
  refine MDerR.step (Ob.load (F := IsCon c) Wanted.free Has.oldIs (fun w1 v hb1 hv => BA8.out.loadI hb1 hv)) ?_
  refine MDerR.step (Ob.call1 Wanted.free entRCompact (Has.new 2 0) (fun w1 u hb1 (hu : IsCon c w1 u) => rcompactI hu HCC.out HV.out)) ?_
  refine MDerR.step (Ob.call4 Wanted.free entGives (Has.new 0 3) (Has.new 1 2) (Has.new 3 0) (Has.cst _) (fun w1 q u v s hb1 (hq : IsCon (passC c) w1 q) (hu : Is (.int .i64 0) w1 u) (hv : IsCon (passC c) w1 v) (hs : Is (.int .i64 0) w1 s) => lgivesI hq hu hv hs true (by rw [eqC_self]; rfl))) ?_
  refine MDerR.step (Ob.not Wanted.free (Has.new 4 0)) ?_
  refine MDerR.step (Ob.move Wanted.free (Has.new 5 0)) ?_
  refine MDerR.step (Ob.load (F := IsCon c) (Wanted.on 6 0) Has.oldIs (fun w1 v hb1 hv => BA8.out.loadI hb1 hv)) ?_
  refine MDerR.step (Ob.call1 (Wanted.on 6 1) entSize (Has.new 7 0) (fun w1 u hb1 (hu : IsCon c w1 u) => isizeI hu HCC.out (sizeR c) (by rw [HV.out]; rfl))) ?_
  refine MDerR.step (Ob.load (F := IsCon c) (Wanted.on 6 2) Has.oldIs (fun w1 v hb1 hv => BA8.out.loadI hb1 hv)) ?_
  refine MDerR.step (Ob.call1 (Wanted.on 6 3) entRSize (Has.new 9 0) (fun w1 u hb1 (hu : IsCon c w1 u) => rsizeI hu (sizeR c) rfl)) ?_
  refine MDerR.step (Ob.binV (Wanted.on 6 4) (Has.new 8 2) (Has.new 10 0) (fun w1 => int_neq false (by simp))) ?_
  refine MDerR.step (Ob.pickF Wanted.free (Has.new 6 5) (Has.new 11 0)) ?_
  simp only [MDerR, dstsOf, List.map, EndM, List.reverse_cons, List.reverse_nil, List.nil_append, List.cons_append]
  intro wE hE
  rintro _ _h0
  iterate 1 (rintro _ rfl)
  rintro _ _h2
  rintro _ _h3
  iterate 3 (rintro _ rfl)
  rintro _ _h7
  iterate 1 (rintro _ rfl)
  rintro _ _h9
  iterate 3 (rintro _ rfl)
  simp only [Act.put, List.setIfInBounds_toArray, List.set_cons_zero, List.set_cons_succ]
  have hat : LookAt (w6.alloc (conBox A6 n6 ca6 B6 m6 cb6)).heap.size w7.heap.size (w6.alloc (conBox A6 n6 ca6 B6 m6 cb6)) A7 B7 n7 ca7 m7 cb7 wE := ⟨(BX.out.mono hE).c0, (BX.out.mono hE).c1, HB8.out.le hE, ⟨_, Row.mono R1.out hE⟩, ⟨_, Row.mono R2.out hE⟩, O1.out, O2.out, HAP.out⟩
  have AT := Lib.hid hat
  have x0 := hat.c0; have x1 := hat.c1; have hl1 := hat.len1; have hl2 := hat.len2
  clear hE BX BA8 R1 R2 HB8 O1 O2 HAP hat
  generalize wE = w8 at *
  go_wp2
  have start1 : LookRel (w6.alloc (conBox A6 n6 ca6 B6 m6 cb6)).heap.size w7.heap.size (w6.alloc (conBox A6 n6 ca6 B6 m6 cb6)) A7 B7 n7 ca7 m7 cb7 n7 (.int .i64 ((0 : Nat) : Int)) w8 := ⟨0, rfl, Nat.zero_le _, AT.out⟩
  have START := Lib.hid start1
  clear start1 x0 x1
  go_loopw [83] (fun i wr => LookRel (w6.alloc (conBox A6 n6 ca6 B6 m6 cb6)).heap.size w7.heap.size (w6.alloc (conBox A6 n6 ca6 B6 m6 cb6)) A7 B7 n7 ca7 m7 cb7 n7 i wr) (fun i _ => n7 - (intOf i).toNat)
  case atStart => exact START.out
  case round =>
    clear START AT
    obtain ⟨k, rfl, hk, hat⟩ := hrel
    have x0 := hat.c0; have x1 := hat.c1
    by_cases hlt : k < n7
    · obtain ⟨g, y, rfl, hgw, hy, hfz, hset⟩ := hat.first hlt
      have HS := Lib.hid hset
      clear hset hat
      go_wp2
      go_roundw
      case rel => exact ⟨k + 1, by simp, hlt, HS.out _⟩
      case measure => simp [intOf]; omega
    · have AT := Lib.hid hat
      clear hat
      go_wp2
      have start1 : LookRel (w6.alloc (conBox A6 n6 ca6 B6 m6 cb6)).heap.size w7.heap.size (w6.alloc (conBox A6 n6 ca6 B6 m6 cb6)) A7 B7 n7 ca7 m7 cb7 m7 (.int .i64 ((0 : Nat) : Int)) wr := ⟨0, rfl, Nat.zero_le _, AT.out⟩
      have START := Lib.hid start1
      clear start1 x0 x1 hlt hk AT
      go_loopw [99] (fun i wr => LookRel (w6.alloc (conBox A6 n6 ca6 B6 m6 cb6)).heap.size w7.heap.size (w6.alloc (conBox A6 n6 ca6 B6 m6 cb6)) A7 B7 n7 ca7 m7 cb7 m7 i wr) (fun i _ => m7 - (intOf i).toNat)
      case atStart => exact START.out
      case round =>
        clear START
        obtain ⟨k, rfl, hk, hat⟩ := hrel
        have x0 := hat.c0; have x1 := hat.c1
        by_cases hlt : k < m7
        · obtain ⟨g, y, rfl, hgw, hy, hfz, hset⟩ := hat.second hlt
          have HS := Lib.hid hset
          clear hset hat
          go_wp2
          go_roundw
          case rel => exact ⟨k + 1, by simp, hlt, HS.out _⟩
          case measure => simp [intOf]; omega
        · have BM9 := Lib.hid (BM.out.mono hat.below); have BA9 := Lib.hid (BA7.out.mono hat.below); have HB9 := Lib.hid (HB7.out.le hat.below)
          clear hat x0 x1 BM BA7 HB7
          have x0 := BM9.out.c0; have x1 := BM9.out.c1; have x2 := BA9.out.c0; have x3 := BA9.out.c1
          go_wp2_with fail
          refine (rceqI BM9.out.is BA9.out.is true (eqC_self c)).mono ?_
          rintro _ w10 ⟨_, rfl, hb10, rfl⟩
          have HBK := Lib.hid (HB9.out.le hb10)
          clear hb10 x0 x1 x2 x3 BM9 BA9 HB9
          go_wp2_with fail
          refine (known_ _).mono ?_
          rintro _ w9 ⟨_, rfl, hb9, rfl⟩
          have HB9 := Lib.hid (HBK.out.le hb9)
          clear hb9
          go_wp2
          go_ret
          exact retB rfl HB9.out
end Go.Proofs.Ytdngechnelemlaa

/-
  ContextLooks: of any two contexts, with no condition, the law returns true, and its arguments read afterwards as before.
-/
namespace Go.Proofs.Ytdngechnelemlaa
open Go.ChangeShapes Go.WideShapes Go.ChangeAt Go.RowKit Go.Deep Go.Joins

set_option maxRecDepth 100000 in
theorem contextLooks_lifted (os : Os) (started : os.Started) (H : Type) (enc : TypeId × Value → H) :
    ReturnsInHanded {} Try.checked os 3 .any (Rows.contextLooksSpec.pre6 enc Try.prog Try.f3 Rows.contextLooksRow.domain false) (Rows.contextLooksSpec.post enc Try.prog Try.f3 false true false false) := by
  refine returnsInHanded_of_change (C := Try.checked) own_none started (by kernel_rfl) Try.func3
    (ChangeSpec.witness6 (enc := enc) (C := Try.checked) false ⟨#[], #[.agg #[.slice none 0 0, .slice none 0 0], .agg #[.slice none 0 0, .slice none 0 0]], []⟩ 8 (by kernel_rfl) (by kernel_rfl) (by kernel_rfl) (by kernel_rfl)) ?_
  intro W base args ds gs before hval0 hW hcnd _
  have hval : ∀ (j : Nat) t v, Try.f3.params[j]? = some t → args[j]? = some v → Value.okWide Try.prog W .any base t v := hval0
  have hW' := hW
  obtain ⟨p, q, hA0, hV, rfl, hfz, hnd⟩ := hW
  have hA : DataW.TrodAll enc Try.prog W 0 (fun _ => true) true Try.f3.params.toList args.toList ds p := hA0
  rw [Try.params3] at hA hval
  obtain ⟨v0, v1, d0, d1, p0, p1, rfl, rfl, rfl, h0, h1⟩ := trodAll_two hA
  obtain ⟨rfl, rfl⟩ := trodVars_none hV
  obtain ⟨A, n, ca, B, m, cb, c, rfl, hc⟩ := read_con (hval 0 25 v0 rfl rfl) h0
  obtain ⟨A2, n2, ca2, B2, m2, cb2, c2, rfl, hc2⟩ := read_con (hval 1 25 v1 rfl rfl) h1
  clear hA0 hval0
  refine (lawLooks A B A2 B2 n ca m cb n2 ca2 m2 cb2 c c2 W hc hc2).mono fun e W' ⟨_, he, hb, rfl⟩ => ?_
  subst he
  exact ⟨_, rfl, law_post laid_out (by kernel_rfl) (by kernel_rfl) Try.underlying4 rfl rfl hW' hb⟩

theorem contextLooks_holds : Rows.ContextLooksSaid :=
  OpenClaim.holds_of_wide 3 Try.f3 rfl rfl rfl rfl rfl rfl rfl ⟨rfl, rfl, rfl, rfl, rfl⟩ rfl rfl rfl rfl rfl (by kernel_rfl) Try.func3 (by kernel_rfl)
    (of_decide_eq_true (by kernel_rfl)) (by unfold Func.isWrapper; first | (rw [if_pos (by decide +kernel)]; kernel_rfl) | (rw [if_neg (by decide +kernel)]; exact ⟨rfl, rfl⟩))
    (fun os started H enc _ => contextLooks_lifted os started H enc)
end Go.Proofs.Ytdngechnelemlaa
