/-
  session.copied, session.without.
-/
import Derived.Test.YtjbakmmmgejhlaaWM
import Derived.Test.YtjbakmmmgejhlaaWO
namespace Go.Proofs.Ytjbakmmmgejhlaa
open Go.RowKit

theorem cloneV (A : Option Addr) (n c : Nat) (l : List Dot) (w : World) (h : Dots w A n c l) (hs : Small n) (b : Nat) (hb : b ≤ w.heap.size) : Calls Try.prog 55 #[.slice A n c] w (Ret w (IsRow b l)) :=
  (cclone29 A n c l w h hs).mono fun _ _ ⟨v, e1, hb', hr⟩ => ⟨v, e1, hb', Row.low hr hb⟩
theorem cloneD (A : Option Addr) (n c : Nat) (l : List Dot) (w : World) (h : Dots w A n c l) (hs : Small n) (b : Nat) (hb : b ≤ w.heap.size) : Calls Try.prog 62 #[.slice A n c] w (Ret w (IsRow b l)) :=
  (cclone28 A n c l w h hs).mono fun _ _ ⟨v, e1, hb', hr⟩ => ⟨v, e1, hb', Row.low hr hb⟩
theorem entersCV : Enters Try.prog 55 := enters_of Try.func55 (by kernel_rfl) rfl
theorem entersCD : Enters Try.prog 62 := enters_of Try.func62 (by kernel_rfl) rfl

set_option maxRecDepth 100000 in
set_option maxHeartbeats 1000000 in
theorem lcopied (A B : Option Addr) (n ca m cb : Nat) (c : Ctx) (w : World) (h : Con w A n ca B m cb c) (hn : Small n) (hm : Small m) :
    Calls Try.prog 42 #[.agg #[.slice A n ca, .slice B m cb]] w (Ret w (IsConO w.heap.size c)) := by
  have hb0 : Below w.heap.size w ((w.alloc (conBox A n ca B m cb)).alloc (conBox none 0 0 none 0 0)) := by go_grown
  have hzz : ((w.alloc (conBox A n ca B m cb)).alloc (conBox none 0 0 none 0 0)).heap.size = w.heap.size + 2 := by simp
  have x0 : ((w.alloc (conBox A n ca B m cb)).alloc (conBox none 0 0 none 0 0)).cell? ⟨w.heap.size, 0, none⟩ = some (.slice A n ca) := by simp [go_sem]
  have x1 : ((w.alloc (conBox A n ca B m cb)).alloc (conBox none 0 0 none 0 0)).cell? ⟨w.heap.size, 1, none⟩ = some (.slice B m cb) := by simp [go_sem]
  have z0 : ((w.alloc (conBox A n ca B m cb)).alloc (conBox none 0 0 none 0 0)).cell? ⟨w.heap.size + 1, 0, none⟩ = some (.slice none 0 0) := by simp [go_sem]
  have z1 : ((w.alloc (conBox A n ca B m cb)).alloc (conBox none 0 0 none 0 0)).cell? ⟨w.heap.size + 1, 1, none⟩ = some (.slice none 0 0) := by simp [go_sem]
  have zf : ∀ o, ((w.alloc (conBox A n ca B m cb)).alloc (conBox none 0 0 none 0 0)).frozen? ⟨w.heap.size + 1, o, none⟩ = false := fun o => by simp [go_sem]
  have h0 := h.mono hb0
  have H0 := Lib.hid h0; have HB := Lib.hid hb0; have HZ := Lib.hid hzz; have X0 := Lib.hid x0; have X1 := Lib.hid x1; have Z0 := Lib.hid z0; have Z1 := Lib.hid z1; have ZF := Lib.hid zf
  clear h h0 hb0 hzz x0 x1 z0 z1 zf
  go_enter Try.func42, Try.ntmps42
  go_wp2_with fail
  refine wp_region_MT 7 mixed (by kernel_rfl) (by kernel_rfl) ?_
  refine MDerT.step (Ob.fieldV Wanted.free Has.oldIs (fun w1 => field_con0)) ?_
  refine MDerT.step (Ob.loadV Wanted.free (Has.new 0 0) (fun w1 hb1 => load_vec hb1 X0.out)) ?_
  refine MDerT.step (Ob.call1V Wanted.free entersCV (Has.new 1 0) (fun w1 hb1 => (cloneV A n ca c.1 w1 (H0.out.v.mono hb1) hn _ hb1.size))) ?_
  refine MDerT.step (Ob.fieldV Wanted.free Has.oldIs (fun w1 => field_con1)) ?_
  refine MDerT.step (Ob.loadV Wanted.free (Has.new 3 0) (fun w1 hb1 => load_dots hb1 X1.out)) ?_
  refine MDerT.step (Ob.call1V Wanted.free entersCD (Has.new 4 0) (fun w1 hb1 => (cloneD B m cb c.2 w1 (H0.out.k.mono hb1) hm _ hb1.size))) ?_
  refine MDerT.step (Ob.mkConO Wanted.free (Has.new 2 3) (Has.new 5 0)) ?_
  simp only [MDerT, dstsOf, List.map, EndM, List.reverse_cons, List.reverse_nil, List.nil_append, List.cons_append, List.take_succ_cons, List.take_zero, List.drop_succ_cons, List.drop_zero]
  intro wE hE
  iterate 2 (rintro _ rfl)
  rintro _ _h2
  iterate 2 (rintro _ rfl)
  rintro _ _h5
  rintro _ ⟨A1, n1, c1, B1, m1, d1, rfl, hcc, r1, r2⟩
  simp only [Act.put, List.setIfInBounds_toArray, List.set_cons_zero, List.set_cons_succ]
  have y0 := cellKeep hE Z0.out
  have y1 := cellKeep hE Z1.out
  have yf0 : wE.frozen? ⟨w.heap.size + 1, 0, none⟩ = false := (hE.frozen (p := ⟨w.heap.size + 1, 0, none⟩) (by simp)).trans (ZF.out 0)
  have yf1 : wE.frozen? ⟨w.heap.size + 1, 1, none⟩ = false := (hE.frozen (p := ⟨w.heap.size + 1, 1, none⟩) (by simp)).trans (ZF.out 1)
  have hz : w.heap.size + 1 < wE.heap.size := World.block_lt_of_cell? wE _ y0
  have hA1 : ∀ a, A1 = some a → a.block ≠ w.heap.size + 1 := fun a ha => by have := Row.from_ r1 a ha; rw [HZ.out] at this; omega
  have hB1 : ∀ a, B1 = some a → a.block ≠ w.heap.size + 1 := fun a ha => by have := Row.from_ r2 a ha; rw [HZ.out] at this; omega
  obtain ⟨s0, s1, hc2⟩ := box_store y0 y1 hcc hA1 hB1
  have HE2 := Lib.hid hE; have HC2 := Lib.hid hc2; have R1 := Lib.hid r1; have R2 := Lib.hid r2; have HA1 := Lib.hid hA1; have HB1 := Lib.hid hB1
  clear hE hcc hc2 r1 r2 hA1 hB1
  go_wp2
  refine bodyPost_ret (v := .agg #[.slice A1 n1 c1, .slice B1 m1 d1]) (by simp [results, Try.results42, go_sem, s0, s1]) rfl ?_
  refine ⟨_, rfl, ((HB.out.le HE2.out).setCell (p := ⟨w.heap.size + 1, 0, none⟩) (by simp) _).setCell (p := ⟨w.heap.size + 1, 1, none⟩) (by simp) _, _, _, _, _, _, _, rfl, HC2.out, ?_, ?_⟩
  · exact Row.low ((R1.out.set_ (p := ⟨w.heap.size + 1, 0, none⟩) (own_ne HA1.out) _).set_ (p := ⟨w.heap.size + 1, 1, none⟩) (own_ne HA1.out) _) (by rw [HZ.out]; omega)
  · exact Row.low ((R2.out.set_ (p := ⟨w.heap.size + 1, 0, none⟩) (own_ne HB1.out) _).set_ (p := ⟨w.heap.size + 1, 1, none⟩) (own_ne HB1.out) _) (by rw [HZ.out]; omega)

def winS (a c : Ctx) (g : Int) : Int := if inC a c then 0 else g
set_option maxRecDepth 100000 in
set_option maxHeartbeats 1000000 in
theorem swithout (g : Int) (A B A2 B2 : Option Addr) (n ca m cb n2 ca2 m2 cb2 : Nat) (a c : Ctx) (w : World) (h : Con w A n ca B m cb a) (h2 : Con w A2 n2 ca2 B2 m2 cb2 c) (hl : a.1.length + a.2.length ≤ 1000) (hl2 : c.1.length + c.2.length ≤ 1000) (va : validC a = true) (vb : validC c = true) :
    Calls Try.prog 39 #[.int .i64 g, .agg #[.slice A n ca, .slice B m cb], .agg #[.slice A2 n2 ca2, .slice B2 m2 cb2]] w (Ret w (IsI (winS a c g))) := by
  obtain ⟨W, hWdef⟩ : ∃ W, W = (w.alloc (conBox A n ca B m cb)).alloc (conBox A2 n2 ca2 B2 m2 cb2) := ⟨_, rfl⟩
  have hb0 : Below w.heap.size w W := by rw [hWdef]; go_grown
  have ba : Boxed w.heap.size A B n ca m cb a W := ⟨by rw [hWdef]; simp [go_sem], by rw [hWdef]; simp [go_sem], h.mono hb0⟩
  have bb : Boxed (w.heap.size + 1) A2 B2 n2 ca2 m2 cb2 c W := ⟨by rw [hWdef]; simp [go_sem], by rw [hWdef]; simp [go_sem], h2.mono hb0⟩
  have F := Lib.hid (iwithinI ba.is bb.is hl hl2 va vb)
  have DEF := Lib.hid hWdef; have HB := Lib.hid hb0
  clear hWdef hb0 ba bb h h2
  cases hin : inC a c with
  | true =>
    have E := Lib.hid (show winS a c g = 0 by unfold winS; rw [hin]; rfl)
    rw [hin] at F
    clear hin
    go_enter Try.func39, Try.ntmps39
    go_wp2_with fail
    rw [← DEF.out]
    refine F.out.mono ?_
    rintro _ w1 ⟨_, rfl, hb1, _, rfl, rfl⟩
    have HB1 := Lib.hid (HB.out.le hb1)
    clear hb1 F DEF
    go_wp2
    go_ret
    exact ⟨_, rfl, HB1.out, by rw [E.out]; rfl⟩
  | false =>
    have E := Lib.hid (show winS a c g = g by unfold winS; rw [hin]; rfl)
    rw [hin] at F
    clear hin
    go_enter Try.func39, Try.ntmps39
    go_wp2_with fail
    rw [← DEF.out]
    refine F.out.mono ?_
    rintro _ w1 ⟨_, rfl, hb1, _, rfl, rfl⟩
    have HB1 := Lib.hid (HB.out.le hb1)
    clear hb1 F DEF
    go_wp2
    go_ret
    exact ⟨_, rfl, HB1.out, by rw [E.out]; rfl⟩
theorem withoutI {a c : Ctx} {g : Int} {w : World} {q u v : Value} (hq : Is (.int .i64 g) w q) (hu : IsCon a w u) (hv : IsCon c w v) (hl : a.1.length + a.2.length ≤ 1000) (hl2 : c.1.length + c.2.length ≤ 1000) (va : validC a = true) (vb : validC c = true) (r : Int) (hr : winS a c g = r) :
    Calls Try.prog 39 #[q, u, v] w (Ret w (IsI r)) := by
  cases hq; subst hr
  obtain ⟨A, n, ca, B, m, cb, rfl, hc⟩ := hu
  obtain ⟨A2, n2, ca2, B2, m2, cb2, rfl, hd⟩ := hv
  exact swithout g A B A2 B2 n ca m cb n2 ca2 m2 cb2 a c w hc hd hl hl2 va vb
theorem entWithout : Enters Try.prog 39 := enters_of Try.func39 (by kernel_rfl) rfl
theorem entCopied : Enters Try.prog 42 := enters_of Try.func42 (by kernel_rfl) rfl
end Go.Proofs.Ytjbakmmmgejhlaa

/-
  A session in the heap; session.Read.
-/
namespace Go.Proofs.Ytjbakmmmgejhlaa
open Go.RowKit

/-- The world but for one block is as it was. -/
structure Hole (N : Nat) (w w' : World) : Prop where
  os : w'.os = w.os
  tape : w'.tape = w.tape
  output : w'.output = w.output
  size : w.heap.size ≤ w'.heap.size
  block : ∀ k, k < w.heap.size → k ≠ N → w'.heap[k]? = w.heap[k]?
section
variable {N : Nat} {w w1 w2 : World}
theorem Hole.of (h : Below w.heap.size w w1) : Hole N w w1 := ⟨h.os, h.tape, h.output, h.size, fun k hk _ => h.block k hk⟩
theorem Hole.trans (h : Hole N w w1) (k : Hole N w1 w2) : Hole N w w2 := ⟨k.os.trans h.os, k.tape.trans h.tape, k.output.trans h.output, Nat.le_trans h.size k.size, fun i hi hn => (k.block i (Nat.lt_of_lt_of_le hi h.size) hn).trans (h.block i hi hn)⟩
theorem Hole.le (h : Hole N w w1) (k : Below w1.heap.size w1 w2) : Hole N w w2 := h.trans (Hole.of k)
theorem Hole.set_ (h : Hole N w w1) (o : Nat) (u : Value) : Hole N w (w1.setCell ⟨N, o, none⟩ u) := h.trans ⟨rfl, rfl, rfl, by simp [World.setCell], fun k _ hn => Below.heap_setCell _ _ _ _ hn⟩
theorem Hole.below {B : Nat} (h : Hole N w w1) (hB : B ≤ N) (hs : B ≤ w.heap.size) : Below B w w1 := ⟨h.os, h.tape, h.output, h.size, fun k hk => h.block k (by omega) (by omega)⟩
end
/-- A session: a block with two contexts. -/
def SessAt (N : Nat) (h r : Ctx) (w : World) : Prop := ∃ A n ca B m cb A2 n2 ca2 B2 m2 cb2, w.cell? ⟨N, 0, none⟩ = some (.slice A n ca) ∧ w.cell? ⟨N, 1, none⟩ = some (.slice B m cb) ∧ w.cell? ⟨N, 2, none⟩ = some (.slice A2 n2 ca2) ∧ w.cell? ⟨N, 3, none⟩ = some (.slice B2 m2 cb2) ∧
  Con w A n ca B m cb h ∧ Con w A2 n2 ca2 B2 m2 cb2 r ∧ (∀ o, w.frozen? ⟨N, o, none⟩ = false) ∧ NoInt w N
section
variable {N : Nat} {h r : Ctx} {w w1 : World} {v : Value}
theorem SessAt.size (s : SessAt N h r w) : N < w.heap.size := let ⟨_, _, _, _, _, _, _, _, _, _, _, _, c, _⟩ := s; World.block_lt_of_cell? w _ c
theorem SessAt.mono (s : SessAt N h r w) (hb : Below w.heap.size w w1) : SessAt N h r w1 := by
  have hz := s.size
  obtain ⟨A, n, ca, B, m, cb, A2, n2, ca2, B2, m2, cb2, c0, c1, c2, c3, k1, k2, f, ni⟩ := s
  exact ⟨A, n, ca, B, m, cb, A2, n2, ca2, B2, m2, cb2, cellKeep hb c0, cellKeep hb c1, cellKeep hb c2, cellKeep hb c3, k1.mono hb, k2.mono hb, fun o => (hb.frozen (p := ⟨N, o, none⟩) hz).trans (f o), ni.mono hb hz⟩
theorem SessAt.load0 (s : SessAt N h r w) (hb : Below w.heap.size w w1) (hv : Is (.pointer (some ⟨N, 0, none⟩)) w1 v) : ∃ u, (Instr.loadAt 31 v).run Try.prog w1 = .ok u w1 ∧ IsCon h w1 u := by
  cases hv
  obtain ⟨A, n, ca, B, m, cb, A2, n2, ca2, B2, m2, cb2, c0, c1, _, _, k1, _⟩ := s
  exact ⟨_, load_con hb c0 c1, A, n, ca, B, m, cb, rfl, k1.mono hb⟩
theorem SessAt.load1 (s : SessAt N h r w) (hb : Below w.heap.size w w1) (hv : Is (.pointer (some ⟨N, 2, none⟩)) w1 v) : ∃ u, (Instr.loadAt 31 v).run Try.prog w1 = .ok u w1 ∧ IsCon r w1 u := by
  cases hv
  obtain ⟨A, n, ca, B, m, cb, A2, n2, ca2, B2, m2, cb2, _, _, c2, c3, _, k2, _⟩ := s
  exact ⟨_, load_con hb c2 c3, A2, n2, ca2, B2, m2, cb2, rfl, k2.mono hb⟩
end
theorem field_sess0 {b o : Nat} {w : World} : (Instr.fieldAt 46 (.pointer (some ⟨b, o, none⟩)) 0).run Try.prog w = .ok (.pointer (some ⟨b, o, none⟩)) w := by simp [go_sem]
theorem field_sess1 {b o : Nat} {w : World} : (Instr.fieldAt 46 (.pointer (some ⟨b, o, none⟩)) 1).run Try.prog w = .ok (.pointer (some ⟨b, o + 2, none⟩)) w := by simp [go_sem]
theorem bit_or0 {x y : Operand} {w : World} : (eqGuard .or 23 x y (.int .i64 0) (.int .i64 0)).run Try.prog w = .ok () w ∧ (Go.binOp .or 23 (.int .i64 0) (.int .i64 0)).run Try.prog w = .ok (.int .i64 0) w := by
  have e : Go.bits .or .i64 0 0 = 0 := by kernel_rfl
  exact ⟨by simp [go_sem], by simp [go_sem, e]⟩
theorem bit_or1 {x y : Operand} {w : World} : (eqGuard .or 23 x y (.int .i64 1) (.int .i64 0)).run Try.prog w = .ok () w ∧ (Go.binOp .or 23 (.int .i64 1) (.int .i64 0)).run Try.prog w = .ok (.int .i64 1) w := by
  have e : Go.bits .or .i64 1 0 = 1 := by kernel_rfl
  exact ⟨by simp [go_sem], by simp [go_sem, e]⟩
theorem bit_or2 {x y : Operand} {w : World} : (eqGuard .or 23 x y (.int .i64 0) (.int .i64 2)).run Try.prog w = .ok () w ∧ (Go.binOp .or 23 (.int .i64 0) (.int .i64 2)).run Try.prog w = .ok (.int .i64 2) w := by
  have e : Go.bits .or .i64 0 2 = 2 := by kernel_rfl
  exact ⟨by simp [go_sem], by simp [go_sem, e]⟩
theorem bit_or3 {x y : Operand} {w : World} : (eqGuard .or 23 x y (.int .i64 1) (.int .i64 2)).run Try.prog w = .ok () w ∧ (Go.binOp .or 23 (.int .i64 1) (.int .i64 2)).run Try.prog w = .ok (.int .i64 3) w := by
  have e : Go.bits .or .i64 1 2 = 3 := by kernel_rfl
  exact ⟨by simp [go_sem], by simp [go_sem, e]⟩
theorem bit_or4 {x y : Operand} {w : World} : (eqGuard .or 23 x y (.int .i64 4) (.int .i64 0)).run Try.prog w = .ok () w ∧ (Go.binOp .or 23 (.int .i64 4) (.int .i64 0)).run Try.prog w = .ok (.int .i64 4) w := by
  have e : Go.bits .or .i64 4 0 = 4 := by kernel_rfl
  exact ⟨by simp [go_sem], by simp [go_sem, e]⟩
theorem bit_or8 {x y : Operand} {w : World} : (eqGuard .or 23 x y (.int .i64 0) (.int .i64 8)).run Try.prog w = .ok () w ∧ (Go.binOp .or 23 (.int .i64 0) (.int .i64 8)).run Try.prog w = .ok (.int .i64 8) w := by
  have e : Go.bits .or .i64 0 8 = 8 := by kernel_rfl
  exact ⟨by simp [go_sem], by simp [go_sem, e]⟩
theorem bit_or12 {x y : Operand} {w : World} : (eqGuard .or 23 x y (.int .i64 4) (.int .i64 8)).run Try.prog w = .ok () w ∧ (Go.binOp .or 23 (.int .i64 4) (.int .i64 8)).run Try.prog w = .ok (.int .i64 12) w := by
  have e : Go.bits .or .i64 4 8 = 12 := by kernel_rfl
  exact ⟨by simp [go_sem], by simp [go_sem, e]⟩
theorem bit_or9 {x y : Operand} {w : World} : (eqGuard .or 23 x y (.int .i64 9) (.int .i64 0)).run Try.prog w = .ok () w ∧ (Go.binOp .or 23 (.int .i64 9) (.int .i64 0)).run Try.prog w = .ok (.int .i64 9) w := by
  have e : Go.bits .or .i64 9 0 = 9 := by kernel_rfl
  exact ⟨by simp [go_sem], by simp [go_sem, e]⟩
theorem bit_or6 {x y : Operand} {w : World} : (eqGuard .or 23 x y (.int .i64 0) (.int .i64 6)).run Try.prog w = .ok () w ∧ (Go.binOp .or 23 (.int .i64 0) (.int .i64 6)).run Try.prog w = .ok (.int .i64 6) w := by
  have e : Go.bits .or .i64 0 6 = 6 := by kernel_rfl
  exact ⟨by simp [go_sem], by simp [go_sem, e]⟩
theorem bit_or15 {x y : Operand} {w : World} : (eqGuard .or 23 x y (.int .i64 9) (.int .i64 6)).run Try.prog w = .ok () w ∧ (Go.binOp .or 23 (.int .i64 9) (.int .i64 6)).run Try.prog w = .ok (.int .i64 15) w := by
  have e : Go.bits .or .i64 9 6 = 15 := by kernel_rfl
  exact ⟨by simp [go_sem], by simp [go_sem, e]⟩
theorem bit_not0 {x y : Operand} {w : World} : (eqGuard .andNot 23 x y (.int .i64 15) (.int .i64 0)).run Try.prog w = .ok () w ∧ (Go.binOp .andNot 23 (.int .i64 15) (.int .i64 0)).run Try.prog w = .ok (.int .i64 15) w := by
  have e : Go.bits .andNot .i64 15 0 = 15 := by kernel_rfl
  exact ⟨by simp [go_sem], by simp [go_sem, e]⟩
theorem bit_not9 {x y : Operand} {w : World} : (eqGuard .andNot 23 x y (.int .i64 15) (.int .i64 9)).run Try.prog w = .ok () w ∧ (Go.binOp .andNot 23 (.int .i64 15) (.int .i64 9)).run Try.prog w = .ok (.int .i64 6) w := by
  have e : Go.bits .andNot .i64 15 9 = 6 := by kernel_rfl
  exact ⟨by simp [go_sem], by simp [go_sem, e]⟩
theorem bit_not6 {x y : Operand} {w : World} : (eqGuard .andNot 23 x y (.int .i64 15) (.int .i64 6)).run Try.prog w = .ok () w ∧ (Go.binOp .andNot 23 (.int .i64 15) (.int .i64 6)).run Try.prog w = .ok (.int .i64 9) w := by
  have e : Go.bits .andNot .i64 15 6 = 9 := by kernel_rfl
  exact ⟨by simp [go_sem], by simp [go_sem, e]⟩
theorem bit_not15 {x y : Operand} {w : World} : (eqGuard .andNot 23 x y (.int .i64 15) (.int .i64 15)).run Try.prog w = .ok () w ∧ (Go.binOp .andNot 23 (.int .i64 15) (.int .i64 15)).run Try.prog w = .ok (.int .i64 0) w := by
  have e : Go.bits .andNot .i64 15 15 = 0 := by kernel_rfl
  exact ⟨by simp [go_sem], by simp [go_sem, e]⟩
theorem unionB {a b : Ctx} {B : Nat} {w : World} {u v : Value} (hu : IsCon a w u) (hv : IsCon b w v) (hB : B ≤ w.heap.size) (hl : a.1.length + a.2.length ≤ 1000) (hl2 : b.1.length + b.2.length ≤ 1000) (va : validC a = true) (vb : validC b = true) : Calls Try.prog 15 #[u, v] w (Ret w (IsPair (IsConA B (unionC a b)) 0)) :=
  (iunionI hu hv hl hl2 va vb).mono fun _ _ ⟨v, e, hb, x, e2, hx⟩ => ⟨v, e, hb, x, e2, hx.low hB⟩
end Go.Proofs.Ytjbakmmmgejhlaa

/-
  session.Read.
-/
namespace Go.Proofs.Ytjbakmmmgejhlaa
open Go.RowKit

theorem bit_read {a b c : Ctx} {x y : Operand} {w : World} : (eqGuard .or 23 x y (.int .i64 (winS a c 1)) (.int .i64 (winS b c 2))).run Try.prog w = .ok () w ∧ (Go.binOp .or 23 (.int .i64 (winS a c 1)) (.int .i64 (winS b c 2))).run Try.prog w = .ok (.int .i64 (winS a c 1 + winS b c 2)) w := by
  unfold winS
  cases inC a c <;> cases inC b c
  · exact bit_or3
  · exact bit_or1
  · exact bit_or2
  · exact bit_or0
theorem entSUnion : Enters Try.prog 15 := enters_of Try.func15 (by kernel_rfl) rfl
def SPost (N : Nat) (h r : Ctx) (w : World) (g e : Int) (en : Ending) (w' : World) : Prop := en = .returned (.tuple #[.int .i64 g, .int .i64 e]) ∧ Hole N w w' ∧ SessAt N h r w'
set_option maxRecDepth 100000 in
set_option maxHeartbeats 4000000 in
theorem sread (N : Nat) (A B : Option Addr) (n ca m cb : Nat) (h r c : Ctx) (w : World) (hs : SessAt N h r w) (hc : Con w A n ca B m cb c) (lh : h.1.length + h.2.length ≤ 1000) (lr : r.1.length + r.2.length ≤ 1000) (lc : c.1.length + c.2.length ≤ 1000) (vh : validC h = true) (vr : validC r = true) (vc : validC c = true) :
    Calls Try.prog 16 #[.pointer (some ⟨N, 0, none⟩), .agg #[.slice A n ca, .slice B m cb]] w (SPost N (unionC h c) r w (winS r c 1 + winS h c 2) 0) := by
  obtain ⟨W, hWdef⟩ : ∃ W, W = w.alloc (conBox A n ca B m cb) := ⟨_, rfl⟩
  have hb0 : Below w.heap.size w W := by rw [hWdef]; go_grown
  have bc : Boxed w.heap.size A B n ca m cb c W := by rw [hWdef]; exact Boxed.new hc
  have DEF := Lib.hid hWdef; have HB := Lib.hid hb0; have BC := Lib.hid bc; have SS := Lib.hid (hs.mono hb0)
  have LH := Lib.hid lh; have LR := Lib.hid lr; have LC := Lib.hid lc; have VH := Lib.hid vh; have VR := Lib.hid vr; have VC := Lib.hid vc
  clear hWdef hb0 bc hs hc lh lr lc vh vr vc
  go_enter Try.func16, Try.ntmps16
  go_wp2_with fail
  rw [← DEF.out]
  refine (cvalidI BC.out.is true VC.out).mono ?_
  rintro _ w1 ⟨_, rfl, hb1, rfl⟩
  have HB1 := Lib.hid (HB.out.le hb1); have BC1 := Lib.hid (BC.out.mono hb1); have SS1 := Lib.hid (SS.out.mono hb1)
  clear hb1 HB BC SS DEF
  go_wp2_with fail
  refine wp_region_M mixed (by kernel_rfl) ?_
  refine MDerR.step (Ob.move Wanted.free Has.oldIs) ?_
  refine MDerR.step (Ob.nilV Wanted.free (Has.new 0 0)) ?_
  refine MDerR.step (Ob.fieldV Wanted.free (Has.new 1 0) (fun w1 => field_sess1)) ?_
  refine MDerR.step (Ob.load (F := IsCon r) Wanted.free (Has.new 2 0) (fun w1 v hb1 hv => SS1.out.load1 hb1 hv)) ?_
  refine MDerR.step (Ob.load (F := IsCon c) Wanted.free Has.oldIs (fun w1 v hb1 hv => BC1.out.loadI hb1 hv)) ?_
  refine MDerR.step (Ob.call3 Wanted.free entWithout (Has.cst _) (Has.new 3 1) (Has.new 4 0) (fun w1 q u v hb1 (hq : Is (.int .i64 1) w1 q) (hu : IsCon r w1 u) (hv : IsCon c w1 v) => withoutI hq hu hv LR.out LC.out VR.out VC.out (winS r c 1) rfl)) ?_
  refine MDerR.step (Ob.move Wanted.free Has.oldIs) ?_
  refine MDerR.step (Ob.nilV Wanted.free (Has.new 6 0)) ?_
  refine MDerR.step (Ob.fieldV Wanted.free (Has.new 7 0) (fun w1 => field_sess0)) ?_
  refine MDerR.step (Ob.load (F := IsCon h) Wanted.free (Has.new 8 0) (fun w1 v hb1 hv => SS1.out.load0 hb1 hv)) ?_
  refine MDerR.step (Ob.load (F := IsCon c) Wanted.free Has.oldIs (fun w1 v hb1 hv => BC1.out.loadI hb1 hv)) ?_
  refine MDerR.step (Ob.call3 Wanted.free entWithout (Has.cst _) (Has.new 9 1) (Has.new 10 0) (fun w1 q u v hb1 (hq : Is (.int .i64 2) w1 q) (hu : IsCon h w1 u) (hv : IsCon c w1 v) => withoutI hq hu hv LH.out LC.out VH.out VC.out (winS h c 2) rfl)) ?_
  refine MDerR.step (Ob.binV Wanted.free (Has.new 5 6) (Has.new 11 0) (fun w1 => bit_read)) ?_
  refine MDerR.step (Ob.assign Wanted.free (Has.new 12 0)) ?_
  simp only [MDerR, dstsOf, List.map, EndM, List.reverse_cons, List.reverse_nil, List.nil_append, List.cons_append]
  intro wE hE
  iterate 3 (rintro _ rfl)
  rintro _ _h3
  rintro _ _h4
  iterate 4 (rintro _ rfl)
  rintro _ _h9
  rintro _ _h10
  iterate 3 (rintro _ rfl)
  simp only [Act.put, List.setIfInBounds_toArray, List.set_cons_zero, List.set_cons_succ]
  have HB2 := Lib.hid (HB1.out.le hE); have BC2 := Lib.hid (BC1.out.mono hE); have SS2 := Lib.hid (SS1.out.mono hE)
  clear hE HB1 BC1 SS1
  generalize wE = w2 at *
  generalize winS r c 1 + winS h c 2 = gg at *
  go_wp2_with fail
  refine wp_region_MU [0, 1, 2, 3, 4, 5, 6, 7, 8, 9, 10, 11] 10 8 rfl (by kernel_rfl) mixed (by kernel_rfl) (by kernel_rfl) (by kernel_rfl) (by decide) (by kernel_rfl) (by kernel_rfl) (fun _ d _ _ _ h => by cases d <;> exact h) ?_
  refine MDerL.step (Ob.move Wanted.free Has.oldIs) ?_
  refine MDerL.step (Ob.nilV Wanted.free (Has.new 0 0)) ?_
  refine MDerL.step (Ob.fieldV Wanted.free (Has.new 1 0) (fun w1 => field_sess0)) ?_
  refine MDerL.step (Ob.load (F := IsCon h) Wanted.free (Has.new 2 0) (fun w1 v hb1 hv => SS2.out.load0 hb1 hv)) ?_
  refine MDerL.step (Ob.load (F := IsCon c) Wanted.free Has.oldIs (fun w1 v hb1 hv => BC2.out.loadI hb1 hv)) ?_
  refine MDerL.step (Ob.call2 Wanted.free entSUnion (Has.new 3 1) (Has.new 4 0) (fun w1 u v hb1 (hu : IsCon h w1 u) (hv : IsCon c w1 v) => unionB (B := w2.heap.size) hu hv hb1.size LH.out LC.out VH.out VC.out)) ?_
  refine MDerL.step (Ob.move Wanted.free (Has.new 5 0)) ?_
  refine MDerL.step (Ob.extract (F := IsConA w2.heap.size (unionC h c)) Wanted.free (Has.new 6 0) (fun w1 v hb1 hv => ext0 (F := IsConA w2.heap.size (unionC h c)) hv)) ?_
  refine MDerL.step (Ob.extract (F := IsI 0) Wanted.free (Has.new 6 1) (fun w1 v hb1 hv => ext1 (F := IsConA w2.heap.size (unionC h c)) hv)) ?_
  refine MDerL.step (Ob.allocCon Wanted.free) ?_
  intro wE hE
  change EndM _ [some 30, some 31, some 32, some 33, some 34, some 35, some 29, some 36, some 37, some 7] _ _ _
  simp only [EndM, List.reverse_cons, List.reverse_nil, List.nil_append, List.cons_append]
  iterate 3 (rintro _ rfl)
  rintro _ _g3
  rintro _ _g4
  rintro _ _g5
  rintro _ _g6
  rintro _ ⟨A7, n7, ca7, B7, m7, cb7, rfl, r1, r2, _g7⟩
  iterate 1 (rintro _ rfl)
  rintro _ ⟨N7, rfl, hN7, hs7, p0, p1, pf, pn⟩
  simp only [Act.put, List.setIfInBounds_toArray, List.set_cons_zero, List.set_cons_succ]
  have pf0 := pf 0; have pf1 := pf 1
  refine wpAny_next (i := 10) (by kernel_rfl) rfl rfl ?_
  refine wp_store_to (p := .pointer (some ⟨N7, 0, none⟩)) (v := .agg #[.slice A7 n7 ca7, .slice B7 m7 cb7]) (w' := (wE.setCell ⟨N7, 0, none⟩ (.slice A7 n7 ca7)).setCell ⟨N7, 1, none⟩ (.slice B7 m7 cb7)) rfl rfl rfl rfl (by simp [go_sem, p0, p1, pf0, pf1]) ?_
  refine wpAny_next (i := 11) (by kernel_rfl) rfl rfl ?_
  refine wp_assign_to (d := 8) (v := .int .i64 0) rfl rfl rfl ?_
  simp only [Act.put, List.setIfInBounds_toArray, List.set_cons_zero, List.set_cons_succ]
  refine ⟨by kernel_rfl, ?_⟩
  have hE2 : Below w2.heap.size w2 ((wE.setCell ⟨N7, 0, none⟩ (.slice A7 n7 ca7)).setCell ⟨N7, 1, none⟩ (.slice B7 m7 cb7)) := (hE.setCell (p := ⟨N7, 0, none⟩) hN7 _).setCell (p := ⟨N7, 1, none⟩) hN7 _
  have k7 : Con wE A7 n7 ca7 B7 m7 cb7 (unionC h c) := ⟨r1.asDots, r2.asDots⟩
  have bx : Boxed N7 A7 B7 n7 ca7 m7 cb7 (unionC h c) ((wE.setCell ⟨N7, 0, none⟩ (.slice A7 n7 ca7)).setCell ⟨N7, 1, none⟩ (.slice B7 m7 cb7)) := ⟨cell_far (by simp) (cell_set p0), cell_set (cell_far (by simp) p1), k7.setNN pn p0 rfl⟩
  have BX := Lib.hid bx; have SS3 := Lib.hid (SS2.out.mono hE2); have HB3 := Lib.hid (HB2.out.le hE2)
  clear bx k7 hE2 hE r1 r2 p0 p1 pf pf0 pf1 pn hs7 hN7 SS2 BC2 HB2
  generalize (wE.setCell ⟨N7, 0, none⟩ (.slice A7 n7 ca7)).setCell ⟨N7, 1, none⟩ (.slice B7 m7 cb7) = w3 at *
  obtain ⟨A1, n1, ca1, B1, m1, cb1, A2, n2, ca2, B2, m2, cb2, s0, s1, s2, s3, k1, k2, sf, sn⟩ := SS3.out
  have x0 := BX.out.c0; have x1 := BX.out.c1
  have sf0 := sf 0; have sf1 := sf 1
  have hz := SS3.out.size
  have K2 := Lib.hid k2; have SN := Lib.hid sn; have SF := Lib.hid sf; have HH := Lib.hid (HB3.out.le (Below.refl _ _))
  clear k1 k2 sn sf
  go_wp2
  refine bodyPost_ret (v := .tuple #[.int .i64 gg, .int .i64 0]) (by simp [results, Try.results16, go_sem]) rfl ?_
  refine ⟨rfl, ((Hole.of HB3.out).set_ 0 _).set_ 1 _, ?_⟩
  exact ⟨A7, n7, ca7, B7, m7, cb7, A2, n2, ca2, B2, m2, cb2, cell_far (by simp) (cell_set s0), cell_set (cell_far (by simp) s1), cell_far (by simp) (cell_far (by simp) s2), cell_far (by simp) (cell_far (by simp) s3), BX.out.con.setNN SN.out s0 rfl, K2.out.setNN SN.out s0 rfl, fun o => (World.frozen?_setCell _ _ _ _).trans ((World.frozen?_setCell _ _ _ _).trans (SF.out o)), NoInt.set_ (cell_far (by simp) s1) (NoInt.set_ s0 SN.out)⟩
end Go.Proofs.Ytjbakmmmgejhlaa

/-
  session.Write.
-/
namespace Go.Proofs.Ytjbakmmmgejhlaa
open Go.RowKit

theorem bit_write {a b c : Ctx} {x y : Operand} {w : World} : (eqGuard .or 23 x y (.int .i64 (winS a c 4)) (.int .i64 (winS b c 8))).run Try.prog w = .ok () w ∧ (Go.binOp .or 23 (.int .i64 (winS a c 4)) (.int .i64 (winS b c 8))).run Try.prog w = .ok (.int .i64 (winS a c 4 + winS b c 8)) w := by
  unfold winS
  cases inC a c <;> cases inC b c
  · exact bit_or12
  · exact bit_or4
  · exact bit_or8
  · exact bit_or0
theorem addB {c : Ctx} {l : List Dot} {w : World} {b : Nat} {u v : Value} (hu : IsCon c w u) (hv : IsDots l w v) (hb : b ≤ w.heap.size) (hl : c.1.length + c.2.length ≤ 1000) (hl2 : l.length ≤ 1000) (h1 : validC c = true) (h2 : validL l = true) :
    Calls Try.prog 20 #[u, v] w (Ret w (IsPair (IsConA b (addC c l)) 0)) := by
  obtain ⟨A, n, ca, B, m, cb, rfl, hc⟩ := hu
  obtain ⟨E, j, cj, rfl, hd0⟩ := hv
  exact (iadd A B E n ca m cb j cj c l w hc hd0 (by have := IsCon.small hc hl; have := hd0.len; unfold Small; omega) h1 h2).mono fun _ _ hr => hr.imp fun _ hp => hp.imp fun _ ha => ha.low hb
theorem entSAdd : Enters Try.prog 20 := enters_of Try.func20 (by kernel_rfl) rfl
set_option maxRecDepth 100000 in
set_option maxHeartbeats 4000000 in
theorem swrite (x y : Int) (N : Nat) (A B : Option Addr) (n ca m cb : Nat) (h r c : Ctx) (w : World) (hs : SessAt N h r w) (hc : Con w A n ca B m cb c) (lh : h.1.length + h.2.length ≤ 1000) (lr : r.1.length + r.2.length ≤ 1000) (lc : c.1.length + c.2.length ≤ 1000) (vh : validC h = true) (vr : validC r = true) (vc : validC c = true) (vd : validD (x, y) = true) (hn : hasC c (x, y) = false) :
    Calls Try.prog 28 #[.pointer (some ⟨N, 0, none⟩), .agg #[.slice A n ca, .slice B m cb], .agg #[.int .i64 x, .int .i64 y]] w (SPost N h (addC r [(x, y)]) w (winS h c 4 + winS r c 8) 0) := by
  obtain ⟨W, hWdef⟩ : ∃ W, W = (w.alloc (conBox A n ca B m cb)).alloc (.cells #[.int .i64 x, .int .i64 y] 27) := ⟨_, rfl⟩
  have hb0 : Below w.heap.size w W := by rw [hWdef]; go_grown
  have bc : Boxed w.heap.size A B n ca m cb c W := ⟨by rw [hWdef]; simp [go_sem], by rw [hWdef]; simp [go_sem], hc.mono hb0⟩
  have q0 : W.cell? ⟨w.heap.size + 1, 0, none⟩ = some (.int .i64 x) := by rw [hWdef]; simp [go_sem]
  have q1 : W.cell? ⟨w.heap.size + 1, 1, none⟩ = some (.int .i64 y) := by rw [hWdef]; simp [go_sem]
  have Q0 := Lib.hid q0; have Q1 := Lib.hid q1; have VD := Lib.hid vd; have HN := Lib.hid hn
  have VL := Lib.hid (show validL [(x, y)] = true by unfold validL; simp [vd])
  clear q0 q1 vd hn
  have DEF := Lib.hid hWdef; have HB := Lib.hid hb0; have BC := Lib.hid bc; have SS := Lib.hid (hs.mono hb0)
  have LH := Lib.hid lh; have LR := Lib.hid lr; have LC := Lib.hid lc; have VH := Lib.hid vh; have VR := Lib.hid vr; have VC := Lib.hid vc
  clear hWdef hb0 bc hs hc lh lr lc vh vr vc
  go_enter Try.func28, Try.ntmps28
  go_wp2_with fail
  rw [← DEF.out]
  refine (cvalidI BC.out.is true VC.out).mono ?_
  rintro _ w1 ⟨_, rfl, hb1, rfl⟩
  have HB1 := Lib.hid (HB.out.le hb1); have BC1 := Lib.hid (BC.out.mono hb1); have SS1 := Lib.hid (SS.out.mono hb1); have P0 := Lib.hid (cellKeep hb1 Q0.out); have P1 := Lib.hid (cellKeep hb1 Q1.out)
  clear hb1 HB BC SS DEF Q0 Q1
  have x0 := P0.out; have x1 := P1.out
  go_wp2_with fail
  refine (dvalid x y w1).mono ?_
  rintro _ v1 ⟨_, rfl, hb1, rfl⟩
  rw [VD.out]
  have HB1' := Lib.hid (HB1.out.le hb1); have BC1' := Lib.hid (BC1.out.mono hb1); have SS1' := Lib.hid (SS1.out.mono hb1); have P0' := Lib.hid (cellKeep hb1 P0.out); have P1' := Lib.hid (cellKeep hb1 P1.out)
  clear hb1 HB1 BC1 SS1 P0 P1 x0 x1
  have x0 := P0'.out; have x1 := P1'.out; have x2 := BC1'.out.c0; have x3 := BC1'.out.c1
  go_wp2_with fail
  refine (chasI (p := (x, y)) BC1'.out.is rfl false HN.out).mono ?_
  rintro _ w1 ⟨_, rfl, hb1, rfl⟩
  have HB1 := Lib.hid (HB1'.out.le hb1); have BC1 := Lib.hid (BC1'.out.mono hb1); have SS1 := Lib.hid (SS1'.out.mono hb1); have P0 := Lib.hid (cellKeep hb1 P0'.out); have P1 := Lib.hid (cellKeep hb1 P1'.out)
  clear hb1 HB1' BC1' SS1' P0' P1' x0 x1 x2 x3
  go_wp2_with fail
  refine wp_region_M mixed (by kernel_rfl) ?_
  refine MDerR.step (Ob.move Wanted.free Has.oldIs) ?_
  refine MDerR.step (Ob.nilV Wanted.free (Has.new 0 0)) ?_
  refine MDerR.step (Ob.fieldV Wanted.free (Has.new 1 0) (fun w1 => field_sess0)) ?_
  refine MDerR.step (Ob.load (F := IsCon h) Wanted.free (Has.new 2 0) (fun w1 v hb1 hv => SS1.out.load0 hb1 hv)) ?_
  refine MDerR.step (Ob.load (F := IsCon c) Wanted.free Has.oldIs (fun w1 v hb1 hv => BC1.out.loadI hb1 hv)) ?_
  refine MDerR.step (Ob.call3 Wanted.free entWithout (Has.cst _) (Has.new 3 1) (Has.new 4 0) (fun w1 q u v hb1 (hq : Is (.int .i64 4) w1 q) (hu : IsCon h w1 u) (hv : IsCon c w1 v) => withoutI hq hu hv LH.out LC.out VH.out VC.out (winS h c 4) rfl)) ?_
  refine MDerR.step (Ob.move Wanted.free Has.oldIs) ?_
  refine MDerR.step (Ob.nilV Wanted.free (Has.new 6 0)) ?_
  refine MDerR.step (Ob.fieldV Wanted.free (Has.new 7 0) (fun w1 => field_sess1)) ?_
  refine MDerR.step (Ob.load (F := IsCon r) Wanted.free (Has.new 8 0) (fun w1 v hb1 hv => SS1.out.load1 hb1 hv)) ?_
  refine MDerR.step (Ob.load (F := IsCon c) Wanted.free Has.oldIs (fun w1 v hb1 hv => BC1.out.loadI hb1 hv)) ?_
  refine MDerR.step (Ob.call3 Wanted.free entWithout (Has.cst _) (Has.new 9 1) (Has.new 10 0) (fun w1 q u v hb1 (hq : Is (.int .i64 8) w1 q) (hu : IsCon r w1 u) (hv : IsCon c w1 v) => withoutI hq hu hv LR.out LC.out VR.out VC.out (winS r c 8) rfl)) ?_
  refine MDerR.step (Ob.binV Wanted.free (Has.new 5 6) (Has.new 11 0) (fun w1 => bit_write)) ?_
  refine MDerR.step (Ob.assign Wanted.free (Has.new 12 0)) ?_
  simp only [MDerR, dstsOf, List.map, EndM, List.reverse_cons, List.reverse_nil, List.nil_append, List.cons_append]
  intro wE hE
  iterate 3 (rintro _ rfl)
  rintro _ _h3
  rintro _ _h4
  iterate 4 (rintro _ rfl)
  rintro _ _h9
  rintro _ _h10
  iterate 3 (rintro _ rfl)
  simp only [Act.put, List.setIfInBounds_toArray, List.set_cons_zero, List.set_cons_succ]
  have HB2 := Lib.hid (HB1.out.le hE); have BC2 := Lib.hid (BC1.out.mono hE); have SS2 := Lib.hid (SS1.out.mono hE); have R0 := Lib.hid (cellKeep hE P0.out); have R1 := Lib.hid (cellKeep hE P1.out)
  clear hE HB1 BC1 SS1 P0 P1
  generalize wE = w2 at *
  generalize winS h c 4 + winS r c 8 = gg at *
  go_wp2_with fail
  refine wp_region_MU [0, 1, 2, 3, 4, 5, 6, 7, 8, 9, 10, 11, 12] 11 9 rfl (by kernel_rfl) mixed (by kernel_rfl) (by kernel_rfl) (by kernel_rfl) (by decide) (by kernel_rfl) (by kernel_rfl) (fun _ d _ _ _ h => by cases d <;> exact h) ?_
  refine MDerL.step (Ob.move Wanted.free Has.oldIs) ?_
  refine MDerL.step (Ob.nilV Wanted.free (Has.new 0 0)) ?_
  refine MDerL.step (Ob.fieldV Wanted.free (Has.new 1 0) (fun w1 => field_sess1)) ?_
  refine MDerL.step (Ob.load (F := IsCon r) Wanted.free (Has.new 2 0) (fun w1 v hb1 hv => SS2.out.load1 hb1 hv)) ?_
  refine MDerL.step (Ob.loadV Wanted.free Has.oldIs (fun w1 hb1 => load_dot hb1 R0.out R1.out)) ?_
  refine MDerL.step (Ob.mkDots128 Wanted.free (Has.new 4 0)) ?_
  refine MDerL.step (Ob.call2 Wanted.free entSAdd (Has.new 3 2) (Has.new 5 0) (fun w1 u v hb1 (hu : IsCon r w1 u) (hv : IsDots [(x, y)] w1 v) => addB (b := w2.heap.size) hu hv hb1.size LR.out (by simp) VR.out VL.out)) ?_
  refine MDerL.step (Ob.move Wanted.free (Has.new 6 0)) ?_
  refine MDerL.step (Ob.extract (F := IsConA w2.heap.size (addC r [(x, y)])) Wanted.free (Has.new 7 0) (fun w1 v hb1 hv => ext0 (F := IsConA w2.heap.size (addC r [(x, y)])) hv)) ?_
  refine MDerL.step (Ob.extract (F := IsI 0) Wanted.free (Has.new 7 1) (fun w1 v hb1 hv => ext1 (F := IsConA w2.heap.size (addC r [(x, y)])) hv)) ?_
  refine MDerL.step (Ob.allocCon Wanted.free) ?_
  intro wE hE
  change EndM _ [some 42, some 43, some 44, some 45, some 46, some 47, some 48, some 41, some 49, some 50, some 9] _ _ _
  simp only [EndM, List.reverse_cons, List.reverse_nil, List.nil_append, List.cons_append]
  iterate 3 (rintro _ rfl)
  rintro _ _g3
  iterate 1 (rintro _ rfl)
  rintro _ _g5
  rintro _ _g6
  rintro _ _g7
  rintro _ ⟨A7, n7, ca7, B7, m7, cb7, rfl, r1, r2, _g8⟩
  iterate 1 (rintro _ rfl)
  rintro _ ⟨N7, rfl, hN7, hs7, p0, p1, pf, pn⟩
  simp only [Act.put, List.setIfInBounds_toArray, List.set_cons_zero, List.set_cons_succ]
  have pf0 := pf 0; have pf1 := pf 1
  refine wpAny_next (i := 11) (by kernel_rfl) rfl rfl ?_
  refine wp_store_to (p := .pointer (some ⟨N7, 0, none⟩)) (v := .agg #[.slice A7 n7 ca7, .slice B7 m7 cb7]) (w' := (wE.setCell ⟨N7, 0, none⟩ (.slice A7 n7 ca7)).setCell ⟨N7, 1, none⟩ (.slice B7 m7 cb7)) rfl rfl rfl rfl (by simp [go_sem, p0, p1, pf0, pf1]) ?_
  refine wpAny_next (i := 12) (by kernel_rfl) rfl rfl ?_
  refine wp_assign_to (d := 10) (v := .int .i64 0) rfl rfl rfl ?_
  simp only [Act.put, List.setIfInBounds_toArray, List.set_cons_zero, List.set_cons_succ]
  refine ⟨by kernel_rfl, ?_⟩
  have hE2 : Below w2.heap.size w2 ((wE.setCell ⟨N7, 0, none⟩ (.slice A7 n7 ca7)).setCell ⟨N7, 1, none⟩ (.slice B7 m7 cb7)) := (hE.setCell (p := ⟨N7, 0, none⟩) hN7 _).setCell (p := ⟨N7, 1, none⟩) hN7 _
  have k7 : Con wE A7 n7 ca7 B7 m7 cb7 (addC r [(x, y)]) := ⟨r1.asDots, r2.asDots⟩
  have bx : Boxed N7 A7 B7 n7 ca7 m7 cb7 (addC r [(x, y)]) ((wE.setCell ⟨N7, 0, none⟩ (.slice A7 n7 ca7)).setCell ⟨N7, 1, none⟩ (.slice B7 m7 cb7)) := ⟨cell_far (by simp) (cell_set p0), cell_set (cell_far (by simp) p1), k7.setNN pn p0 rfl⟩
  have BX := Lib.hid bx; have SS3 := Lib.hid (SS2.out.mono hE2); have HB3 := Lib.hid (HB2.out.le hE2)
  clear bx k7 hE2 hE r1 r2 p0 p1 pf pf0 pf1 pn hs7 hN7 SS2 BC2 HB2 R0 R1
  generalize (wE.setCell ⟨N7, 0, none⟩ (.slice A7 n7 ca7)).setCell ⟨N7, 1, none⟩ (.slice B7 m7 cb7) = w3 at *
  obtain ⟨A1, n1, ca1, B1, m1, cb1, A2, n2, ca2, B2, m2, cb2, s0, s1, s2, s3, k1, k2, sf, sn⟩ := SS3.out
  have x0 := BX.out.c0; have x1 := BX.out.c1
  have sf0 := sf 2; have sf1 := sf 3
  have hz := SS3.out.size
  have K1 := Lib.hid k1; have SN := Lib.hid sn; have SF := Lib.hid sf
  clear k1 k2 sn sf
  go_wp2
  refine bodyPost_ret (v := .tuple #[.int .i64 gg, .int .i64 0]) (by simp [results, Try.results28, go_sem]) rfl ?_
  refine ⟨rfl, ((Hole.of HB3.out).set_ 2 _).set_ 3 _, ?_⟩
  exact ⟨A1, n1, ca1, B1, m1, cb1, A7, n7, ca7, B7, m7, cb7, cell_far (by simp) (cell_far (by simp) s0), cell_far (by simp) (cell_far (by simp) s1), cell_far (by simp) (cell_set s2), cell_set (cell_far (by simp) s3), (K1.out.setN SN.out _).setN (NoInt.set_ s2 SN.out) _, (BX.out.con.setN SN.out _).setN (NoInt.set_ s2 SN.out) _, fun o => (World.frozen?_setCell _ _ _ _).trans ((World.frozen?_setCell _ _ _ _).trans (SF.out o)), NoInt.set_ (cell_far (by simp) s3) (NoInt.set_ s2 SN.out)⟩
end Go.Proofs.Ytjbakmmmgejhlaa

/-
  session.Safe, Has, Wrote; what is refused; the nil session.
-/
namespace Go.Proofs.Ytjbakmmmgejhlaa
open Go.RowKit

def IsTwo (g e : Int) (_ : World) (v : Value) : Prop := v = .tuple #[.int .i64 g, .int .i64 e]
instance (g e : Int) : Grows (IsTwo g e) := ⟨fun _ h => h⟩
theorem bit_safe {a b c : Ctx} {x y : Operand} {w : World} : (eqGuard .or 23 x y (.int .i64 (winS a c 9)) (.int .i64 (winS b c 6))).run Try.prog w = .ok () w ∧ (Go.binOp .or 23 (.int .i64 (winS a c 9)) (.int .i64 (winS b c 6))).run Try.prog w = .ok (.int .i64 (winS a c 9 + winS b c 6)) w := by
  unfold winS
  cases inC a c <;> cases inC b c
  · exact bit_or15
  · exact bit_or9
  · exact bit_or6
  · exact bit_or0
theorem bit_rest {a b c : Ctx} {x y : Operand} {w : World} : (eqGuard .andNot 23 x y (.int .i64 15) (.int .i64 (winS a c 9 + winS b c 6))).run Try.prog w = .ok () w ∧ (Go.binOp .andNot 23 (.int .i64 15) (.int .i64 (winS a c 9 + winS b c 6))).run Try.prog w = .ok (.int .i64 (15 - (winS a c 9 + winS b c 6))) w := by
  unfold winS
  cases inC a c <;> cases inC b c
  · exact bit_not15
  · exact bit_not9
  · exact bit_not6
  · exact bit_not0
set_option maxRecDepth 100000 in
set_option maxHeartbeats 4000000 in
theorem ssafe (N : Nat) (A B : Option Addr) (n ca m cb : Nat) (h r c : Ctx) (w : World) (hs : SessAt N h r w) (hc : Con w A n ca B m cb c) (lh : h.1.length + h.2.length ≤ 1000) (lr : r.1.length + r.2.length ≤ 1000) (lc : c.1.length + c.2.length ≤ 1000) (vh : validC h = true) (vr : validC r = true) (vc : validC c = true) :
    Calls Try.prog 23 #[.pointer (some ⟨N, 0, none⟩), .agg #[.slice A n ca, .slice B m cb]] w (Ret w (IsTwo (15 - (winS r c 9 + winS h c 6)) 0)) := by
  obtain ⟨W, hWdef⟩ : ∃ W, W = w.alloc (conBox A n ca B m cb) := ⟨_, rfl⟩
  have hb0 : Below w.heap.size w W := by rw [hWdef]; go_grown
  have bc : Boxed w.heap.size A B n ca m cb c W := by rw [hWdef]; exact Boxed.new hc
  have DEF := Lib.hid hWdef; have HB := Lib.hid hb0; have BC := Lib.hid bc; have SS := Lib.hid (hs.mono hb0)
  have LH := Lib.hid lh; have LR := Lib.hid lr; have LC := Lib.hid lc; have VH := Lib.hid vh; have VR := Lib.hid vr; have VC := Lib.hid vc
  clear hWdef hb0 bc hs hc lh lr lc vh vr vc
  go_enter Try.func23, Try.ntmps23
  go_wp2_with fail
  rw [← DEF.out]
  refine (cvalidI BC.out.is true VC.out).mono ?_
  rintro _ w1 ⟨_, rfl, hb1, rfl⟩
  have HB1 := Lib.hid (HB.out.le hb1); have BC1 := Lib.hid (BC.out.mono hb1); have SS1 := Lib.hid (SS.out.mono hb1)
  clear hb1 HB BC SS DEF
  go_wp2_with fail
  refine wp_region_M mixed (by kernel_rfl) ?_
  refine MDerR.step (Ob.move Wanted.free Has.oldIs) ?_
  refine MDerR.step (Ob.nilV Wanted.free (Has.new 0 0)) ?_
  refine MDerR.step (Ob.fieldV Wanted.free (Has.new 1 0) (fun w1 => field_sess1)) ?_
  refine MDerR.step (Ob.load (F := IsCon r) Wanted.free (Has.new 2 0) (fun w1 v hb1 hv => SS1.out.load1 hb1 hv)) ?_
  refine MDerR.step (Ob.load (F := IsCon c) Wanted.free Has.oldIs (fun w1 v hb1 hv => BC1.out.loadI hb1 hv)) ?_
  refine MDerR.step (Ob.call3 Wanted.free entWithout (Has.cst _) (Has.new 3 1) (Has.new 4 0) (fun w1 q u v hb1 (hq : Is (.int .i64 9) w1 q) (hu : IsCon r w1 u) (hv : IsCon c w1 v) => withoutI hq hu hv LR.out LC.out VR.out VC.out (winS r c 9) rfl)) ?_
  refine MDerR.step (Ob.move Wanted.free Has.oldIs) ?_
  refine MDerR.step (Ob.nilV Wanted.free (Has.new 6 0)) ?_
  refine MDerR.step (Ob.fieldV Wanted.free (Has.new 7 0) (fun w1 => field_sess0)) ?_
  refine MDerR.step (Ob.load (F := IsCon h) Wanted.free (Has.new 8 0) (fun w1 v hb1 hv => SS1.out.load0 hb1 hv)) ?_
  refine MDerR.step (Ob.load (F := IsCon c) Wanted.free Has.oldIs (fun w1 v hb1 hv => BC1.out.loadI hb1 hv)) ?_
  refine MDerR.step (Ob.call3 Wanted.free entWithout (Has.cst _) (Has.new 9 1) (Has.new 10 0) (fun w1 q u v hb1 (hq : Is (.int .i64 6) w1 q) (hu : IsCon h w1 u) (hv : IsCon c w1 v) => withoutI hq hu hv LH.out LC.out VH.out VC.out (winS h c 6) rfl)) ?_
  refine MDerR.step (Ob.binV Wanted.free (Has.new 5 6) (Has.new 11 0) (fun w1 => bit_safe)) ?_
  refine MDerR.step (Ob.binV Wanted.free (Has.cst _) (Has.new 12 0) (fun w1 => bit_rest)) ?_
  refine MDerR.step (Ob.assign Wanted.free (Has.new 13 0)) ?_
  refine MDerR.step (Ob.assign Wanted.free (Has.cst _)) ?_
  simp only [MDerR, dstsOf, List.map, EndM, List.reverse_cons, List.reverse_nil, List.nil_append, List.cons_append]
  intro wE hE
  iterate 3 (rintro _ rfl)
  rintro _ _h3
  rintro _ _h4
  iterate 4 (rintro _ rfl)
  rintro _ _h9
  rintro _ _h10
  iterate 5 (rintro _ rfl)
  simp only [Act.put, List.setIfInBounds_toArray, List.set_cons_zero, List.set_cons_succ]
  have HB2 := Lib.hid (HB1.out.le hE)
  clear hE HB1 BC1 SS1
  generalize 15 - (winS r c 9 + winS h c 6) = gg at *
  go_wp2
  refine bodyPost_ret (v := .tuple #[.int .i64 gg, .int .i64 0]) (by simp [results, Try.results23, go_sem]) rfl ?_
  exact ⟨_, rfl, HB2.out, rfl⟩
theorem IsCon_of {w : World} {A B : Option Addr} {n ca m cb : Nat} {c : Ctx} (h : Con w A n ca B m cb c) : IsCon c w (.agg #[.slice A n ca, .slice B m cb]) := ⟨A, n, ca, B, m, cb, rfl, h⟩
set_option maxRecDepth 100000 in
set_option maxHeartbeats 1000000 in
theorem snoRead (N : Nat) (A B : Option Addr) (n ca m cb : Nat) (c : Ctx) (w : World) (hc : Con w A n ca B m cb c) (vc : validC c = false) :
    Calls Try.prog 16 #[.pointer (some ⟨N, 0, none⟩), .agg #[.slice A n ca, .slice B m cb]] w (Ret w (IsTwo 0 2)) := by
  obtain ⟨W, hWdef⟩ : ∃ W, W = w.alloc (conBox A n ca B m cb) := ⟨_, rfl⟩
  have hb0 : Below w.heap.size w W := by rw [hWdef]; go_grown
  have F := Lib.hid (cvalidI (IsCon_of (hc.mono hb0)) false vc)
  have DEF := Lib.hid hWdef; have HB := Lib.hid hb0
  clear hWdef hb0 hc vc
  go_enter Try.func16, Try.ntmps16
  go_wp2_with fail
  rw [← DEF.out]
  refine F.out.mono ?_
  rintro _ w1 ⟨_, rfl, hb1, rfl⟩
  have HB1 := Lib.hid (HB.out.le hb1)
  clear hb1 HB F DEF
  go_wp2
  refine bodyPost_ret (v := .tuple #[.int .i64 0, .int .i64 2]) (by simp [results, Try.results16, go_sem]) rfl ?_
  exact ⟨_, rfl, HB1.out, rfl⟩
set_option maxRecDepth 100000 in
theorem snilRead (A B : Option Addr) (n ca m cb : Nat) (w : World) :
    Calls Try.prog 16 #[.pointer none, .agg #[.slice A n ca, .slice B m cb]] w (Ret w (IsTwo 0 1)) := by
  have HB := Lib.hid (show Below w.heap.size w (w.alloc (conBox A n ca B m cb)) by go_grown)
  go_enter Try.func16, Try.ntmps16
  go_wp2
  refine bodyPost_ret (v := .tuple #[.int .i64 0, .int .i64 1]) (by simp [results, Try.results16, go_sem]) rfl ?_
  exact ⟨_, rfl, HB.out, rfl⟩
set_option maxRecDepth 100000 in
set_option maxHeartbeats 1000000 in
theorem snoSafe (N : Nat) (A B : Option Addr) (n ca m cb : Nat) (c : Ctx) (w : World) (hc : Con w A n ca B m cb c) (vc : validC c = false) :
    Calls Try.prog 23 #[.pointer (some ⟨N, 0, none⟩), .agg #[.slice A n ca, .slice B m cb]] w (Ret w (IsTwo 0 2)) := by
  obtain ⟨W, hWdef⟩ : ∃ W, W = w.alloc (conBox A n ca B m cb) := ⟨_, rfl⟩
  have hb0 : Below w.heap.size w W := by rw [hWdef]; go_grown
  have F := Lib.hid (cvalidI (IsCon_of (hc.mono hb0)) false vc)
  have DEF := Lib.hid hWdef; have HB := Lib.hid hb0
  clear hWdef hb0 hc vc
  go_enter Try.func23, Try.ntmps23
  go_wp2_with fail
  rw [← DEF.out]
  refine F.out.mono ?_
  rintro _ w1 ⟨_, rfl, hb1, rfl⟩
  have HB1 := Lib.hid (HB.out.le hb1)
  clear hb1 HB F DEF
  go_wp2
  refine bodyPost_ret (v := .tuple #[.int .i64 0, .int .i64 2]) (by simp [results, Try.results23, go_sem]) rfl ?_
  exact ⟨_, rfl, HB1.out, rfl⟩
set_option maxRecDepth 100000 in
theorem snilSafe (A B : Option Addr) (n ca m cb : Nat) (w : World) :
    Calls Try.prog 23 #[.pointer none, .agg #[.slice A n ca, .slice B m cb]] w (Ret w (IsTwo 0 1)) := by
  have HB := Lib.hid (show Below w.heap.size w (w.alloc (conBox A n ca B m cb)) by go_grown)
  go_enter Try.func23, Try.ntmps23
  go_wp2
  refine bodyPost_ret (v := .tuple #[.int .i64 0, .int .i64 1]) (by simp [results, Try.results23, go_sem]) rfl ?_
  exact ⟨_, rfl, HB.out, rfl⟩
set_option maxRecDepth 100000 in
theorem snilWrite (A B : Option Addr) (n ca m cb : Nat) (x y : Int) (w : World) :
    Calls Try.prog 28 #[.pointer none, .agg #[.slice A n ca, .slice B m cb], .agg #[.int .i64 x, .int .i64 y]] w (Ret w (IsTwo 0 1)) := by
  have HB := Lib.hid (show Below w.heap.size w ((w.alloc (conBox A n ca B m cb)).alloc (.cells #[.int .i64 x, .int .i64 y] 27)) by go_grown)
  go_enter Try.func28, Try.ntmps28
  go_wp2
  refine bodyPost_ret (v := .tuple #[.int .i64 0, .int .i64 1]) (by simp [results, Try.results28, go_sem]) rfl ?_
  exact ⟨_, rfl, HB.out, rfl⟩
set_option maxRecDepth 100000 in
theorem snilHas (w : World) : Calls Try.prog 21 #[.pointer none] w (Ret w (IsCon ([], []))) := by
  have HB := Lib.hid (show Below w.heap.size w (w.alloc (conBox none 0 0 none 0 0)) by go_grown)
  go_enter Try.func21, Try.ntmps21
  go_wp2
  refine bodyPost_ret (v := .agg #[.slice none 0 0, .slice none 0 0]) (by simp [results, Try.results21, go_sem]) rfl ?_
  exact ⟨_, rfl, HB.out, none, 0, 0, none, 0, 0, rfl, ⟨Dots.nil_, Dots.nil_⟩⟩
set_option maxRecDepth 100000 in
theorem snilWrote (w : World) : Calls Try.prog 22 #[.pointer none] w (Ret w (IsCon ([], []))) := by
  have HB := Lib.hid (show Below w.heap.size w (w.alloc (conBox none 0 0 none 0 0)) by go_grown)
  go_enter Try.func22, Try.ntmps22
  go_wp2
  refine bodyPost_ret (v := .agg #[.slice none 0 0, .slice none 0 0]) (by simp [results, Try.results22, go_sem]) rfl ?_
  exact ⟨_, rfl, HB.out, none, 0, 0, none, 0, 0, rfl, ⟨Dots.nil_, Dots.nil_⟩⟩
set_option maxRecDepth 100000 in
theorem snilCopy (w : World) : Calls Try.prog 26 #[.pointer none] w (Ret w (Is (.pointer none))) := by
  go_enter Try.func26, Try.ntmps26
  go_wp2
  go_ret
  exact ⟨_, rfl, Below.refl _ _, rfl⟩
end Go.Proofs.Ytjbakmmmgejhlaa

/-
  session.Has, session.Wrote.
-/
namespace Go.Proofs.Ytjbakmmmgejhlaa
open Go.RowKit

set_option maxRecDepth 100000 in
set_option maxHeartbeats 1000000 in
theorem sHas (N : Nat) (h r : Ctx) (w : World) (hs : SessAt N h r w) (hl : h.1.length + h.2.length ≤ 1000) : Calls Try.prog 21 #[.pointer (some ⟨N, 0, none⟩)] w (Ret w (IsConO w.heap.size h)) := by
  obtain ⟨W, hWdef⟩ : ∃ W, W = w.alloc (conBox none 0 0 none 0 0) := ⟨_, rfl⟩
  have hb0 : Below w.heap.size w W := by rw [hWdef]; go_grown
  have hzz : W.heap.size = w.heap.size + 1 := by rw [hWdef]; simp
  have z0 : W.cell? ⟨w.heap.size, 0, none⟩ = some (.slice none 0 0) := by rw [hWdef]; simp [go_sem]
  have z1 : W.cell? ⟨w.heap.size, 1, none⟩ = some (.slice none 0 0) := by rw [hWdef]; simp [go_sem]
  have zf : ∀ o, W.frozen? ⟨w.heap.size, o, none⟩ = false := fun o => by rw [hWdef]; simp [go_sem]
  have hs1 := hs.mono hb0
  obtain ⟨A1, n1, ca1, B1, m1, cb1, A2, n2, ca2, B2, m2, cb2, s0, s1, s2, s3, k1, k2, sf, sn⟩ := hs1
  have hsize := (hs.mono hb0).size
  have K1 := Lib.hid k1; have K2 := Lib.hid k2; have HB := Lib.hid hb0; have DEF := Lib.hid hWdef; have Z0 := Lib.hid z0; have Z1 := Lib.hid z1; have ZF := Lib.hid zf; have HZ := Lib.hid hzz; have HL := Lib.hid hl
  have S0 := Lib.hid s0; have S1 := Lib.hid s1; have S2 := Lib.hid s2; have S3 := Lib.hid s3
  rw [hWdef] at s0 s1 s2 s3 hsize
  clear hb0 hWdef z0 z1 zf hzz hl k1 k2 sf sn hs
  go_enter Try.func21, Try.ntmps21
  go_wp2_with fail
  rw [← DEF.out]
  clear s0 s1 s2 s3
  have KL := Lib.hid K1.out.v.len; have KM := Lib.hid K1.out.k.len
  refine (lcopied A1 B1 n1 ca1 m1 cb1 h W K1.out (by have := HL.out; have := KL.out; unfold Small; omega) (by have := HL.out; have := KM.out; unfold Small; omega)).mono ?_
  rintro _ w1 ⟨_, rfl, hb1, A5, n5, c5, B5, m5, d5, rfl, hc5, r1, r2⟩
  have y0 := cellKeep hb1 Z0.out
  have y1 := cellKeep hb1 Z1.out
  have hzW : w.heap.size < W.heap.size := by rw [HZ.out]; omega
  have yf0 : w1.frozen? ⟨w.heap.size, 0, none⟩ = false := (hb1.frozen (p := ⟨w.heap.size, 0, none⟩) hzW).trans (ZF.out 0)
  have yf1 : w1.frozen? ⟨w.heap.size, 1, none⟩ = false := (hb1.frozen (p := ⟨w.heap.size, 1, none⟩) hzW).trans (ZF.out 1)
  have hz : w.heap.size < w1.heap.size := World.block_lt_of_cell? w1 _ y0
  have hA5 : ∀ a, A5 = some a → a.block ≠ w.heap.size := fun a ha => by have := Row.from_ r1 a ha; rw [HZ.out] at this; omega
  have hB5 : ∀ a, B5 = some a → a.block ≠ w.heap.size := fun a ha => by have := Row.from_ r2 a ha; rw [HZ.out] at this; omega
  obtain ⟨t0, t1, hc6⟩ := box_store y0 y1 hc5 hA5 hB5
  have HE2 := Lib.hid hb1; have HC2 := Lib.hid hc6; have R1 := Lib.hid r1; have R2 := Lib.hid r2; have HA5 := Lib.hid hA5; have HB5 := Lib.hid hB5
  clear hb1 hc5 hc6 r1 r2 hA5 hB5 hzW DEF
  go_wp2
  refine bodyPost_ret (v := .agg #[.slice A5 n5 c5, .slice B5 m5 d5]) (by simp [results, Try.results21, go_sem, t0, t1]) rfl ?_
  refine ⟨_, rfl, ((HB.out.le HE2.out).setCell (p := ⟨w.heap.size, 0, none⟩) (by simp) _).setCell (p := ⟨w.heap.size, 1, none⟩) (by simp) _, _, _, _, _, _, _, rfl, HC2.out, ?_, ?_⟩
  · exact Row.low ((R1.out.set_ (p := ⟨w.heap.size, 0, none⟩) (own_ne HA5.out) _).set_ (p := ⟨w.heap.size, 1, none⟩) (own_ne HA5.out) _) (by rw [HZ.out]; omega)
  · exact Row.low ((R2.out.set_ (p := ⟨w.heap.size, 0, none⟩) (own_ne HB5.out) _).set_ (p := ⟨w.heap.size, 1, none⟩) (own_ne HB5.out) _) (by rw [HZ.out]; omega)
set_option maxRecDepth 100000 in
set_option maxHeartbeats 1000000 in
theorem sWrote (N : Nat) (h r : Ctx) (w : World) (hs : SessAt N h r w) (hl : r.1.length + r.2.length ≤ 1000) : Calls Try.prog 22 #[.pointer (some ⟨N, 0, none⟩)] w (Ret w (IsConO w.heap.size r)) := by
  obtain ⟨W, hWdef⟩ : ∃ W, W = w.alloc (conBox none 0 0 none 0 0) := ⟨_, rfl⟩
  have hb0 : Below w.heap.size w W := by rw [hWdef]; go_grown
  have hzz : W.heap.size = w.heap.size + 1 := by rw [hWdef]; simp
  have z0 : W.cell? ⟨w.heap.size, 0, none⟩ = some (.slice none 0 0) := by rw [hWdef]; simp [go_sem]
  have z1 : W.cell? ⟨w.heap.size, 1, none⟩ = some (.slice none 0 0) := by rw [hWdef]; simp [go_sem]
  have zf : ∀ o, W.frozen? ⟨w.heap.size, o, none⟩ = false := fun o => by rw [hWdef]; simp [go_sem]
  have hs1 := hs.mono hb0
  obtain ⟨A1, n1, ca1, B1, m1, cb1, A2, n2, ca2, B2, m2, cb2, s0, s1, s2, s3, k1, k2, sf, sn⟩ := hs1
  have hsize := (hs.mono hb0).size
  have K1 := Lib.hid k1; have K2 := Lib.hid k2; have HB := Lib.hid hb0; have DEF := Lib.hid hWdef; have Z0 := Lib.hid z0; have Z1 := Lib.hid z1; have ZF := Lib.hid zf; have HZ := Lib.hid hzz; have HL := Lib.hid hl
  have S0 := Lib.hid s0; have S1 := Lib.hid s1; have S2 := Lib.hid s2; have S3 := Lib.hid s3
  rw [hWdef] at s0 s1 s2 s3 hsize
  clear hb0 hWdef z0 z1 zf hzz hl k1 k2 sf sn hs
  go_enter Try.func22, Try.ntmps22
  go_wp2_with fail
  rw [← DEF.out]
  clear s0 s1 s2 s3
  have KL := Lib.hid K2.out.v.len; have KM := Lib.hid K2.out.k.len
  refine (lcopied A2 B2 n2 ca2 m2 cb2 r W K2.out (by have := HL.out; have := KL.out; unfold Small; omega) (by have := HL.out; have := KM.out; unfold Small; omega)).mono ?_
  rintro _ w1 ⟨_, rfl, hb1, A5, n5, c5, B5, m5, d5, rfl, hc5, r1, r2⟩
  have y0 := cellKeep hb1 Z0.out
  have y1 := cellKeep hb1 Z1.out
  have hzW : w.heap.size < W.heap.size := by rw [HZ.out]; omega
  have yf0 : w1.frozen? ⟨w.heap.size, 0, none⟩ = false := (hb1.frozen (p := ⟨w.heap.size, 0, none⟩) hzW).trans (ZF.out 0)
  have yf1 : w1.frozen? ⟨w.heap.size, 1, none⟩ = false := (hb1.frozen (p := ⟨w.heap.size, 1, none⟩) hzW).trans (ZF.out 1)
  have hz : w.heap.size < w1.heap.size := World.block_lt_of_cell? w1 _ y0
  have hA5 : ∀ a, A5 = some a → a.block ≠ w.heap.size := fun a ha => by have := Row.from_ r1 a ha; rw [HZ.out] at this; omega
  have hB5 : ∀ a, B5 = some a → a.block ≠ w.heap.size := fun a ha => by have := Row.from_ r2 a ha; rw [HZ.out] at this; omega
  obtain ⟨t0, t1, hc6⟩ := box_store y0 y1 hc5 hA5 hB5
  have HE2 := Lib.hid hb1; have HC2 := Lib.hid hc6; have R1 := Lib.hid r1; have R2 := Lib.hid r2; have HA5 := Lib.hid hA5; have HB5 := Lib.hid hB5
  clear hb1 hc5 hc6 r1 r2 hA5 hB5 hzW DEF
  go_wp2
  refine bodyPost_ret (v := .agg #[.slice A5 n5 c5, .slice B5 m5 d5]) (by simp [results, Try.results22, go_sem, t0, t1]) rfl ?_
  refine ⟨_, rfl, ((HB.out.le HE2.out).setCell (p := ⟨w.heap.size, 0, none⟩) (by simp) _).setCell (p := ⟨w.heap.size, 1, none⟩) (by simp) _, _, _, _, _, _, _, rfl, HC2.out, ?_, ?_⟩
  · exact Row.low ((R1.out.set_ (p := ⟨w.heap.size, 0, none⟩) (own_ne HA5.out) _).set_ (p := ⟨w.heap.size, 1, none⟩) (own_ne HA5.out) _) (by rw [HZ.out]; omega)
  · exact Row.low ((R2.out.set_ (p := ⟨w.heap.size, 0, none⟩) (own_ne HB5.out) _).set_ (p := ⟨w.heap.size, 1, none⟩) (own_ne HB5.out) _) (by rw [HZ.out]; omega)
end Go.Proofs.Ytjbakmmmgejhlaa

/-
  The statements' helpers: one, small, within.
-/
namespace Go.Proofs.Ytjbakmmmgejhlaa
open Go.RowKit

def AllRelW (f : Dot → Bool) (w : World) (n : Nat) (l : List Dot) (i : Value) (wr : World) : Prop := ∃ k : Nat, i = .int .i64 k ∧ k ≤ n ∧ Below w.heap.size w wr ∧ l.all f = (l.drop k).all f
theorem entersCHas : Enters Try.prog 18 := enters_of Try.func18 (by kernel_rfl) rfl
set_option maxRecDepth 100000 in
set_option maxHeartbeats 2000000 in
theorem sWithin (C A B : Option Addr) (k ck n ca m cb : Nat) (l : List Dot) (c : Ctx) (w : World) (hl : Dots w C k ck l) (hc : Con w A n ca B m cb c) :
    Calls Try.prog 31 #[.slice C k ck, .agg #[.slice A n ca, .slice B m cb]] w (Ret w (IsB (l.all (hasC c)))) := by
  obtain ⟨W, hWdef⟩ : ∃ W, W = w.alloc (conBox A n ca B m cb) := ⟨_, rfl⟩
  have hb0 : Below w.heap.size w W := by rw [hWdef]; go_grown
  have bc : Boxed w.heap.size A B n ca m cb c W := by rw [hWdef]; exact Boxed.new hc
  have hk := hl.big
  have l0 := hl.mono hb0
  have DEF := Lib.hid hWdef; have HB := Lib.hid hb0; have BC := Lib.hid bc; have L0 := Lib.hid l0
  clear hWdef hb0 bc hc l0 hl
  go_enter Try.func31, Try.ntmps31
  go_wp2
  rw [← DEF.out]
  go_loopw [5] (fun i wr => AllRelW (hasC c) W k l i wr) (fun i _ => k - (intOf i).toNat)
  case atStart => exact ⟨0, rfl, by omega, Below.refl _ _, rfl⟩
  case round =>
    obtain ⟨i, rfl, hi, hb, hf⟩ := hrel
    have BCr := Lib.hid (BC.out.mono hb); have HBr := Lib.hid (HB.out.le hb)
    by_cases hlt : i < k
    · obtain ⟨b', o, p, q, hA, hbk, e0, d1, k1, k2⟩ := (L0.out.mono hb).at_ (k := i) hlt
      have hix := fun w => (show (Instr.indexAt 28 (.slice C k ck) (.int .i64 (i : Int))).run Try.prog w = .ok (.pointer (some ⟨b', o + i * 2, none⟩)) w by rw [hA]; exact index_dots hlt)
      have IX := Lib.hid hix; have K1 := Lib.hid k1; have K2 := Lib.hid k2
      rw [d1, List.all_cons] at hf
      cases hh : hasC c (p, q) with
      | true =>
        rw [hh] at hf
        have HH := Lib.hid hh; have HF := Lib.hid hf; have HBB := Lib.hid hb
        clear hh hf d1 e0 hA hix k1 k2 hb
        go_wp2_with fail
        refine wp_region_M mixed (by kernel_rfl) ?_
        refine MDerR.step (Ob.load (F := IsCon c) Wanted.free Has.oldIs (fun w1 v hb1 hv => BCr.out.loadI hb1 hv)) ?_
        refine MDerR.step (Ob.move Wanted.free Has.oldIs) ?_
        refine MDerR.step (Ob.move Wanted.free Has.oldIs) ?_
        refine MDerR.step (Ob.indexV Wanted.free (Has.new 1 1) (Has.new 2 0) (fun w1 => IX.out w1)) ?_
        refine MDerR.step (Ob.loadV Wanted.free (Has.new 3 0) (fun w1 hb1 => load_dot hb1 K1.out K2.out)) ?_
        refine MDerR.step (Ob.call2 Wanted.free entersCHas (Has.new 0 4) (Has.new 4 0) (fun w1 u v hb1 (hu : IsCon c w1 u) (hv : IsDot (p, q) w1 v) => chasI hu hv true HH.out)) ?_
        refine MDerR.step (Ob.not Wanted.free (Has.new 5 0)) ?_
        simp only [MDerR, dstsOf, List.map, EndM, List.reverse_cons, List.reverse_nil, List.nil_append, List.cons_append]
        intro wE hE
        rintro _ _h0
        iterate 6 (rintro _ rfl)
        simp only [Act.put, List.setIfInBounds_toArray, List.set_cons_zero, List.set_cons_succ]
        have HE := Lib.hid hE; clear hE
        go_wp2
        go_roundw
        case rel => exact ⟨i + 1, by simp, hlt, HBB.out.le HE.out, by rw [HF.out, Bool.true_and]⟩
        case measure => simp [intOf]; omega
      | false =>
        rw [hh] at hf
        have HH := Lib.hid hh; have HF := Lib.hid hf
        clear hh hf d1 e0 hA hix k1 k2 hb
        go_wp2_with fail
        refine wp_region_M mixed (by kernel_rfl) ?_
        refine MDerR.step (Ob.load (F := IsCon c) Wanted.free Has.oldIs (fun w1 v hb1 hv => BCr.out.loadI hb1 hv)) ?_
        refine MDerR.step (Ob.move Wanted.free Has.oldIs) ?_
        refine MDerR.step (Ob.move Wanted.free Has.oldIs) ?_
        refine MDerR.step (Ob.indexV Wanted.free (Has.new 1 1) (Has.new 2 0) (fun w1 => IX.out w1)) ?_
        refine MDerR.step (Ob.loadV Wanted.free (Has.new 3 0) (fun w1 hb1 => load_dot hb1 K1.out K2.out)) ?_
        refine MDerR.step (Ob.call2 Wanted.free entersCHas (Has.new 0 4) (Has.new 4 0) (fun w1 u v hb1 (hu : IsCon c w1 u) (hv : IsDot (p, q) w1 v) => chasI hu hv false HH.out)) ?_
        refine MDerR.step (Ob.not Wanted.free (Has.new 5 0)) ?_
        simp only [MDerR, dstsOf, List.map, EndM, List.reverse_cons, List.reverse_nil, List.nil_append, List.cons_append]
        intro wE hE
        rintro _ _h0
        iterate 6 (rintro _ rfl)
        simp only [Act.put, List.setIfInBounds_toArray, List.set_cons_zero, List.set_cons_succ]
        have HE := Lib.hid hE; clear hE
        go_wp2
        go_ret
        exact ⟨_, rfl, HBr.out.le HE.out, by rw [HF.out]; rfl⟩
    · rw [List.drop_of_length_le (by rw [← L0.out.len]; omega)] at hf
      have HF := Lib.hid hf
      clear hf hb
      go_wp2
      go_ret
      exact ⟨_, rfl, HBr.out, by rw [HF.out]; rfl⟩
end Go.Proofs.Ytjbakmmmgejhlaa

/-
  The statements' helpers: one, small, within.
-/
namespace Go.Proofs.Ytjbakmmmgejhlaa
open Go.RowKit

set_option maxRecDepth 100000 in
set_option maxHeartbeats 1000000 in
theorem sOne (r : Int) (w : World) : Calls Try.prog 13 #[.int .i64 r] w (Ret w (IsCon ([(r, 1)], []))) := by
  go_enter Try.func13, Try.ntmps13
  go_wp2
  refine bodyPost_ret (v := .agg #[.slice (some ⟨w.heap.size + 1, 0, none⟩) 1 1, .slice none 0 0]) (by simp [results, Try.results13, go_sem]) rfl ?_
  have hd := Dots.one (w.alloc (conBox (some ⟨w.heap.size + 1, 0, none⟩) 1 1 none 0 0)) r 1
  have hz : (w.alloc (conBox (some ⟨w.heap.size + 1, 0, none⟩) 1 1 none 0 0)).heap.size = w.heap.size + 1 := by simp
  rw [hz] at hd
  exact ⟨_, rfl, by go_grown, _, _, _, _, _, _, rfl, ⟨hd, Dots.nil_⟩⟩
def f60 (d : Dot) : Bool := decide (d.2 ≤ 60)
def smallB (c : Ctx) : Bool := (c.1.take 13).all f60 && (c.2.take 13).all f60 && decide (c.1.length ≤ 12) && decide (c.2.length ≤ 12)
def SmallRel (w : World) (l : List Dot) (i : Value) (wr : World) : Prop := ∃ k : Nat, i = .int .i64 k ∧ k ≤ l.length ∧ k ≤ 13 ∧ Below w.heap.size w wr ∧ (l.take 13).all f60 = ((l.take 13).drop k).all f60
theorem small_step {l : List Dot} {k : Nat} {d : Dot} (h13 : k < 13) (h : l.drop k = d :: l.drop (k + 1)) : (l.take 13).drop k = d :: (l.take 13).drop (k + 1) := by
  rw [List.drop_take, List.drop_take, h, show 13 - k = (13 - (k + 1)) + 1 by omega, List.take_succ_cons]
theorem small_end {l : List Dot} {k : Nat} (h : ¬ (k < l.length ∧ k < 13)) : (l.take 13).drop k = [] := by
  rw [List.drop_eq_nil_iff, List.length_take]; omega
end Go.Proofs.Ytjbakmmmgejhlaa

/-
  The statements' helper: small.
-/
namespace Go.Proofs.Ytjbakmmmgejhlaa
open Go.RowKit

set_option maxRecDepth 100000 in
set_option maxHeartbeats 4000000 in
theorem sSmall (A B : Option Addr) (n ca m cb : Nat) (c : Ctx) (w : World) (hc : Con w A n ca B m cb c) :
    Calls Try.prog 9 #[.agg #[.slice A n ca, .slice B m cb]] w (Ret w (IsB (smallB c))) := by
  obtain ⟨W, hWdef⟩ : ∃ W, W = w.alloc (conBox A n ca B m cb) := ⟨_, rfl⟩
  have hb0 : Below w.heap.size w W := by rw [hWdef]; go_grown
  have bc : Boxed w.heap.size A B n ca m cb c W := by rw [hWdef]; exact Boxed.new hc
  have hn := hc.v.big; have hm := hc.k.big
  have LN := Lib.hid hc.v.len; have LM := Lib.hid hc.k.len
  have DEF := Lib.hid hWdef; have HB := Lib.hid hb0; have BC := Lib.hid bc
  clear hWdef hb0 bc hc
  go_enter Try.func9, Try.ntmps9
  go_wp2
  rw [← DEF.out]
  go_loopw [3] (fun i wr => SmallRel W c.1 i wr) (fun i _ => n - (intOf i).toNat)
  case atStart => exact ⟨0, rfl, Nat.zero_le _, by omega, Below.refl _ _, rfl⟩
  case round =>
    obtain ⟨k, rfl, hk, hk13, hb, hf⟩ := hrel
    have BCr := Lib.hid (BC.out.mono hb); have HBr := Lib.hid (HB.out.le hb); have HW := Lib.hid hb
    have x0 := BCr.out.c0; have x1 := BCr.out.c1
    clear hb
    by_cases hx1 : k < n
    · by_cases hx2 : k < 13
      · obtain ⟨b', o, p, q, rfl, hbk, e0, d1, k1, k3⟩ := BCr.out.con.v.at_ (k := k) hx1
        rw [small_step hx2 d1, List.all_cons] at hf
        by_cases hq : q ≤ 60
        · have hd : decide ((60 : Int) < q) = false := by rw [decide_eq_false_iff_not]; omega
          have hff : f60 (p, q) = true := decide_eq_true hq
          rw [hff, Bool.true_and] at hf
          have HF := Lib.hid hf
          have KL := Lib.hid (show k + 1 ≤ c.1.length by rw [← LN.out]; exact hx1)
          clear hf hff d1 e0
          go_wp2
          go_roundw
          case rel => exact ⟨k + 1, by simp, KL.out, hx2, HW.out, HF.out⟩
          case measure => simp [intOf]; omega
        · have hd : decide ((60 : Int) < q) = true := by rw [decide_eq_true_iff]; omega
          have hff : f60 (p, q) = false := decide_eq_false hq
          rw [hff, Bool.false_and] at hf
          have HF := Lib.hid hf
          clear hf hff d1 e0
          go_wp2
          go_ret
          exact ⟨_, rfl, HBr.out, by unfold smallB; rw [HF.out, Bool.false_and, Bool.false_and, Bool.false_and]; rfl⟩
      · skip
        rw [small_end (by rw [← LN.out]; omega)] at hf
        have E1 := Lib.hid hf
        clear hf
        go_wp2
        clear x0 x1
        have start2 : SmallRel W c.2 (.int .i64 ((0 : Nat) : Int)) wr := ⟨0, rfl, Nat.zero_le _, by omega, HW.out, rfl⟩
        have START := Lib.hid start2
        clear start2
        go_loopw [4] (fun i wr => SmallRel W c.2 i wr) (fun i _ => m - (intOf i).toNat)
        case atStart => exact START.out
        case round =>
          clear START
          obtain ⟨k2, rfl, hk2, hk132, hb2, hf2⟩ := hrel
          have BCr2 := Lib.hid (BC.out.mono hb2); have HBr2 := Lib.hid (HB.out.le hb2); have HBB2 := Lib.hid hb2
          have y0 := BCr2.out.c0; have y1 := BCr2.out.c1
          have LM2 := LM.out
          by_cases hx1 : k2 < m
          · by_cases hx2 : k2 < 13
            · obtain ⟨b', o, p, q, rfl, hbk, e0, d1, k1, k3⟩ := BCr2.out.con.k.at_ (k := k2) hx1
              rw [small_step hx2 d1, List.all_cons] at hf2
              by_cases hq : q ≤ 60
              · have hd : decide ((60 : Int) < q) = false := by rw [decide_eq_false_iff_not]; omega
                have hff : f60 (p, q) = true := decide_eq_true hq
                rw [hff, Bool.true_and] at hf2
                have HF2 := Lib.hid hf2
                have KL := Lib.hid (show k2 + 1 ≤ c.2.length by rw [← LM2]; exact hx1)
                clear hf2 hff d1 e0 hb2 LM2
                go_wp2
                go_roundw
                case rel => exact ⟨k2 + 1, by simp, KL.out, hx2, HBB2.out, HF2.out⟩
                case measure => simp [intOf]; omega
              · have hd : decide ((60 : Int) < q) = true := by rw [decide_eq_true_iff]; omega
                have hff : f60 (p, q) = false := decide_eq_false hq
                rw [hff, Bool.false_and] at hf2
                have HF2 := Lib.hid hf2
                clear hf2 hff d1 e0 hb2 LM2
                go_wp2
                go_ret
                exact ⟨_, rfl, HBr2.out, by unfold smallB; rw [HF2.out, Bool.and_false, Bool.false_and, Bool.false_and]; rfl⟩
            · rw [small_end (by omega)] at hf2
              clear hb2 LM2
              have hl12a : decide ((n : Int) ≤ 12) = decide (c.1.length ≤ 12) := by rw [← LN.out]; exact decide_eq_decide.2 (by omega)
              have hl12b : decide ((m : Int) ≤ 12) = decide (c.2.length ≤ 12) := by rw [← LM.out]; exact decide_eq_decide.2 (by omega)
              have E2 := Lib.hid hf2
              clear hf2
              cases q1 : decide (c.1.length ≤ 12) with
              | false =>
                rw [q1] at hl12a
                have Q1 := Lib.hid q1
                clear q1 hl12b
                go_wp2
                go_ret
                exact ⟨_, rfl, HBr2.out, by unfold smallB; rw [Q1.out, Bool.and_false, Bool.false_and]; rfl⟩
              | true =>
                rw [q1] at hl12a
                have Q1 := Lib.hid q1
                clear q1
                cases q2 : decide (c.2.length ≤ 12) with
                | false =>
                  rw [q2] at hl12b
                  have Q2 := Lib.hid q2
                  clear q2
                  go_wp2
                  go_ret
                  exact ⟨_, rfl, HBr2.out, by unfold smallB; rw [Q2.out, Bool.and_false]; rfl⟩
                | true =>
                  rw [q2] at hl12b
                  have Q2 := Lib.hid q2
                  clear q2
                  go_wp2
                  go_ret
                  exact ⟨_, rfl, HBr2.out, by unfold smallB; rw [Q1.out, Q2.out, E1.out, E2.out]; rfl⟩
          · rw [small_end (by omega)] at hf2
            clear hb2 LM2
            have hl12a : decide ((n : Int) ≤ 12) = decide (c.1.length ≤ 12) := by rw [← LN.out]; exact decide_eq_decide.2 (by omega)
            have hl12b : decide ((m : Int) ≤ 12) = decide (c.2.length ≤ 12) := by rw [← LM.out]; exact decide_eq_decide.2 (by omega)
            have E2 := Lib.hid hf2
            clear hf2
            cases q1 : decide (c.1.length ≤ 12) with
            | false =>
              rw [q1] at hl12a
              have Q1 := Lib.hid q1
              clear q1 hl12b
              go_wp2
              go_ret
              exact ⟨_, rfl, HBr2.out, by unfold smallB; rw [Q1.out, Bool.and_false, Bool.false_and]; rfl⟩
            | true =>
              rw [q1] at hl12a
              have Q1 := Lib.hid q1
              clear q1
              cases q2 : decide (c.2.length ≤ 12) with
              | false =>
                rw [q2] at hl12b
                have Q2 := Lib.hid q2
                clear q2
                go_wp2
                go_ret
                exact ⟨_, rfl, HBr2.out, by unfold smallB; rw [Q2.out, Bool.and_false]; rfl⟩
              | true =>
                rw [q2] at hl12b
                have Q2 := Lib.hid q2
                clear q2
                go_wp2
                go_ret
                exact ⟨_, rfl, HBr2.out, by unfold smallB; rw [Q1.out, Q2.out, E1.out, E2.out]; rfl⟩
    · skip
      rw [small_end (by rw [← LN.out]; omega)] at hf
      have E1 := Lib.hid hf
      clear hf
      go_wp2
      clear x0 x1
      have start2 : SmallRel W c.2 (.int .i64 ((0 : Nat) : Int)) wr := ⟨0, rfl, Nat.zero_le _, by omega, HW.out, rfl⟩
      have START := Lib.hid start2
      clear start2
      go_loopw [4] (fun i wr => SmallRel W c.2 i wr) (fun i _ => m - (intOf i).toNat)
      case atStart => exact START.out
      case round =>
        clear START
        obtain ⟨k2, rfl, hk2, hk132, hb2, hf2⟩ := hrel
        have BCr2 := Lib.hid (BC.out.mono hb2); have HBr2 := Lib.hid (HB.out.le hb2); have HBB2 := Lib.hid hb2
        have y0 := BCr2.out.c0; have y1 := BCr2.out.c1
        have LM2 := LM.out
        by_cases hx1 : k2 < m
        · by_cases hx2 : k2 < 13
          · obtain ⟨b', o, p, q, rfl, hbk, e0, d1, k1, k3⟩ := BCr2.out.con.k.at_ (k := k2) hx1
            rw [small_step hx2 d1, List.all_cons] at hf2
            by_cases hq : q ≤ 60
            · have hd : decide ((60 : Int) < q) = false := by rw [decide_eq_false_iff_not]; omega
              have hff : f60 (p, q) = true := decide_eq_true hq
              rw [hff, Bool.true_and] at hf2
              have HF2 := Lib.hid hf2
              have KL := Lib.hid (show k2 + 1 ≤ c.2.length by rw [← LM2]; exact hx1)
              clear hf2 hff d1 e0 hb2 LM2
              go_wp2
              go_roundw
              case rel => exact ⟨k2 + 1, by simp, KL.out, hx2, HBB2.out, HF2.out⟩
              case measure => simp [intOf]; omega
            · have hd : decide ((60 : Int) < q) = true := by rw [decide_eq_true_iff]; omega
              have hff : f60 (p, q) = false := decide_eq_false hq
              rw [hff, Bool.false_and] at hf2
              have HF2 := Lib.hid hf2
              clear hf2 hff d1 e0 hb2 LM2
              go_wp2
              go_ret
              exact ⟨_, rfl, HBr2.out, by unfold smallB; rw [HF2.out, Bool.and_false, Bool.false_and, Bool.false_and]; rfl⟩
          · rw [small_end (by omega)] at hf2
            clear hb2 LM2
            have hl12a : decide ((n : Int) ≤ 12) = decide (c.1.length ≤ 12) := by rw [← LN.out]; exact decide_eq_decide.2 (by omega)
            have hl12b : decide ((m : Int) ≤ 12) = decide (c.2.length ≤ 12) := by rw [← LM.out]; exact decide_eq_decide.2 (by omega)
            have E2 := Lib.hid hf2
            clear hf2
            cases q1 : decide (c.1.length ≤ 12) with
            | false =>
              rw [q1] at hl12a
              have Q1 := Lib.hid q1
              clear q1 hl12b
              go_wp2
              go_ret
              exact ⟨_, rfl, HBr2.out, by unfold smallB; rw [Q1.out, Bool.and_false, Bool.false_and]; rfl⟩
            | true =>
              rw [q1] at hl12a
              have Q1 := Lib.hid q1
              clear q1
              cases q2 : decide (c.2.length ≤ 12) with
              | false =>
                rw [q2] at hl12b
                have Q2 := Lib.hid q2
                clear q2
                go_wp2
                go_ret
                exact ⟨_, rfl, HBr2.out, by unfold smallB; rw [Q2.out, Bool.and_false]; rfl⟩
              | true =>
                rw [q2] at hl12b
                have Q2 := Lib.hid q2
                clear q2
                go_wp2
                go_ret
                exact ⟨_, rfl, HBr2.out, by unfold smallB; rw [Q1.out, Q2.out, E1.out, E2.out]; rfl⟩
        · rw [small_end (by omega)] at hf2
          clear hb2 LM2
          have hl12a : decide ((n : Int) ≤ 12) = decide (c.1.length ≤ 12) := by rw [← LN.out]; exact decide_eq_decide.2 (by omega)
          have hl12b : decide ((m : Int) ≤ 12) = decide (c.2.length ≤ 12) := by rw [← LM.out]; exact decide_eq_decide.2 (by omega)
          have E2 := Lib.hid hf2
          clear hf2
          cases q1 : decide (c.1.length ≤ 12) with
          | false =>
            rw [q1] at hl12a
            have Q1 := Lib.hid q1
            clear q1 hl12b
            go_wp2
            go_ret
            exact ⟨_, rfl, HBr2.out, by unfold smallB; rw [Q1.out, Bool.and_false, Bool.false_and]; rfl⟩
          | true =>
            rw [q1] at hl12a
            have Q1 := Lib.hid q1
            clear q1
            cases q2 : decide (c.2.length ≤ 12) with
            | false =>
              rw [q2] at hl12b
              have Q2 := Lib.hid q2
              clear q2
              go_wp2
              go_ret
              exact ⟨_, rfl, HBr2.out, by unfold smallB; rw [Q2.out, Bool.and_false]; rfl⟩
            | true =>
              rw [q2] at hl12b
              have Q2 := Lib.hid q2
              clear q2
              go_wp2
              go_ret
              exact ⟨_, rfl, HBr2.out, by unfold smallB; rw [Q1.out, Q2.out, E1.out, E2.out]; rfl⟩
end Go.Proofs.Ytjbakmmmgejhlaa

/-
  session.Write, refused.
-/
namespace Go.Proofs.Ytjbakmmmgejhlaa
open Go.RowKit

set_option maxRecDepth 100000 in
set_option maxHeartbeats 2000000 in
theorem snoWrite (x y : Int) (N : Nat) (A B : Option Addr) (n ca m cb : Nat) (c : Ctx) (w : World) (hc : Con w A n ca B m cb c) (hno : (validC c && validD (x, y) && !hasC c (x, y)) = false) :
    Calls Try.prog 28 #[.pointer (some ⟨N, 0, none⟩), .agg #[.slice A n ca, .slice B m cb], .agg #[.int .i64 x, .int .i64 y]] w (Ret w (IsTwo 0 2)) := by
  obtain ⟨W, hWdef⟩ : ∃ W, W = (w.alloc (conBox A n ca B m cb)).alloc (.cells #[.int .i64 x, .int .i64 y] 27) := ⟨_, rfl⟩
  have hb0 : Below w.heap.size w W := by rw [hWdef]; go_grown
  have bc : Boxed w.heap.size A B n ca m cb c W := ⟨by rw [hWdef]; simp [go_sem], by rw [hWdef]; simp [go_sem], hc.mono hb0⟩
  have q0 : W.cell? ⟨w.heap.size + 1, 0, none⟩ = some (.int .i64 x) := by rw [hWdef]; simp [go_sem]
  have q1 : W.cell? ⟨w.heap.size + 1, 1, none⟩ = some (.int .i64 y) := by rw [hWdef]; simp [go_sem]
  have Q0 := Lib.hid q0; have Q1 := Lib.hid q1; have NOO := Lib.hid hno
  have DEF := Lib.hid hWdef; have HB := Lib.hid hb0; have BC := Lib.hid bc
  clear hWdef hb0 bc hc q0 q1 hno
  go_enter Try.func28, Try.ntmps28
  go_wp2_with fail
  rw [← DEF.out]
  refine (cvalidI BC.out.is (validC c) rfl).mono ?_
  rintro _ w1 ⟨_, rfl, hb1, rfl⟩
  have HB1 := Lib.hid (HB.out.le hb1); have BC1 := Lib.hid (BC.out.mono hb1); have P0 := Lib.hid (cellKeep hb1 Q0.out); have P1 := Lib.hid (cellKeep hb1 Q1.out)
  clear hb1 HB BC DEF Q0 Q1
  cases hv : validC c
  case false =>
    have HBX := HB1
    clear hv
    have HBE := Lib.hid HBX.out
    clear HBX
    go_wp2
    refine bodyPost_ret (v := .tuple #[.int .i64 0, .int .i64 2]) (by simp [results, Try.results28, go_sem]) rfl ?_
    exact ⟨_, rfl, HBE.out, rfl⟩
  have HV := Lib.hid hv; clear hv
  have x0 := P0.out; have x1 := P1.out
  go_wp2_with fail
  refine (dvalid x y w1).mono ?_
  rintro _ v1 ⟨_, rfl, hb1, rfl⟩
  have HB2 := Lib.hid (HB1.out.le hb1); have BC2 := Lib.hid (BC1.out.mono hb1); have P2 := Lib.hid (cellKeep hb1 P0.out); have P3 := Lib.hid (cellKeep hb1 P1.out)
  clear hb1 HB1 BC1 P0 P1 x0 x1
  cases hd : validD (x, y)
  case false =>
    have HBX := HB2
    clear hd
    have HBE := Lib.hid HBX.out
    clear HBX
    go_wp2
    refine bodyPost_ret (v := .tuple #[.int .i64 0, .int .i64 2]) (by simp [results, Try.results28, go_sem]) rfl ?_
    exact ⟨_, rfl, HBE.out, rfl⟩
  have HD := Lib.hid hd; clear hd
  have hh : hasC c (x, y) = true := by have h9 := NOO.out; rw [HV.out, HD.out] at h9; simpa using h9
  have HH := Lib.hid hh; clear hh
  have x0 := P2.out; have x1 := P3.out; have x2 := BC2.out.c0; have x3 := BC2.out.c1
  go_wp2_with fail
  refine (chasI (p := (x, y)) BC2.out.is rfl true HH.out).mono ?_
  rintro _ w3 ⟨_, rfl, hb1, rfl⟩
  have HBX := Lib.hid (HB2.out.le hb1)
  clear hb1 HB2 BC2 P2 P3 x0 x1 x2 x3
  have HBE := Lib.hid HBX.out
  clear HBX
  go_wp2
  refine bodyPost_ret (v := .tuple #[.int .i64 0, .int .i64 2]) (by simp [results, Try.results28, go_sem]) rfl ?_
  exact ⟨_, rfl, HBE.out, rfl⟩
end Go.Proofs.Ytjbakmmmgejhlaa

/-
  The statements' helper: safe.
-/
namespace Go.Proofs.Ytjbakmmmgejhlaa
open Go.RowKit

set_option maxRecDepth 100000 in
set_option maxHeartbeats 1000000 in
theorem lsafe (s : Value) (g e want no : Int) (A B : Option Addr) (n ca m cb : Nat) (w : World)
    (f : Calls Try.prog 23 #[s, .agg #[.slice A n ca, .slice B m cb]] (w.alloc (conBox A n ca B m cb)) (Ret (w.alloc (conBox A n ca B m cb)) (IsTwo g e))) :
    Calls Try.prog 24 #[s, .agg #[.slice A n ca, .slice B m cb], .int .i64 want, .int .i64 no] w (Ret w (IsB (g == want && e == no))) := by
  have HB := Lib.hid (show Below w.heap.size w (w.alloc (conBox A n ca B m cb)) by go_grown)
  have F := Lib.hid f
  clear f
  cases h1 : (g == want) with
  | false =>
    have H1 := Lib.hid h1
    go_enter Try.func24, Try.ntmps24
    go_wp2_with fail
    refine F.out.mono ?_
    rintro _ w1 ⟨_, rfl, hb1, rfl⟩
    have HB1 := Lib.hid (HB.out.le hb1)
    clear hb1 F HB
    go_wp2
    go_ret
    exact retB (by simp) HB1.out
  | true =>
    cases h2 : (e == no) with
    | false =>
      go_enter Try.func24, Try.ntmps24
      go_wp2_with fail
      refine F.out.mono ?_
      rintro _ w1 ⟨_, rfl, hb1, rfl⟩
      have HB1 := Lib.hid (HB.out.le hb1)
      clear hb1 F HB
      go_wp2
      go_ret
      exact retB (by simp) HB1.out
    | true =>
      go_enter Try.func24, Try.ntmps24
      go_wp2_with fail
      refine F.out.mono ?_
      rintro _ w1 ⟨_, rfl, hb1, rfl⟩
      have HB1 := Lib.hid (HB.out.le hb1)
      clear hb1 F HB
      go_wp2
      go_ret
      exact retB (by simp) HB1.out
end Go.Proofs.Ytjbakmmmgejhlaa

/-
  The statements' helpers: reads, writes.
-/
namespace Go.Proofs.Ytjbakmmmgejhlaa
open Go.RowKit

set_option maxRecDepth 100000 in
set_option maxHeartbeats 1000000 in
theorem lreads (R : World → Prop) (s : Value) (g e want no : Int) (A B : Option Addr) (n ca m cb : Nat) (w : World)
    (f : Calls Try.prog 16 #[s, .agg #[.slice A n ca, .slice B m cb]] (w.alloc (conBox A n ca B m cb)) (fun en w' => en = .returned (.tuple #[.int .i64 g, .int .i64 e]) ∧ R w')) :
    Calls Try.prog 17 #[s, .agg #[.slice A n ca, .slice B m cb], .int .i64 want, .int .i64 no] w (fun en w' => en = .returned (.bool (g == want && e == no)) ∧ R w') := by
  have F := Lib.hid f
  clear f
  cases h1 : (g == want) with
  | false =>
    have H1 := Lib.hid h1
    go_enter Try.func17, Try.ntmps17
    go_wp2_with fail
    refine F.out.mono ?_
    rintro _ w1 ⟨rfl, hb1⟩
    have HB1 := Lib.hid hb1
    clear hb1 F
    go_wp2
    go_ret
    exact ⟨by simp, HB1.out⟩
  | true =>
    cases h2 : (e == no) with
    | false =>
      go_enter Try.func17, Try.ntmps17
      go_wp2_with fail
      refine F.out.mono ?_
      rintro _ w1 ⟨rfl, hb1⟩
      have HB1 := Lib.hid hb1
      clear hb1 F
      go_wp2
      go_ret
      exact ⟨by simp, HB1.out⟩
    | true =>
      go_enter Try.func17, Try.ntmps17
      go_wp2_with fail
      refine F.out.mono ?_
      rintro _ w1 ⟨rfl, hb1⟩
      have HB1 := Lib.hid hb1
      clear hb1 F
      go_wp2
      go_ret
      exact ⟨by simp, HB1.out⟩
set_option maxRecDepth 100000 in
set_option maxHeartbeats 1000000 in
theorem lwrites (R : World → Prop) (x y : Int) (s : Value) (g e want no : Int) (A B : Option Addr) (n ca m cb : Nat) (w : World)
    (f : Calls Try.prog 28 #[s, .agg #[.slice A n ca, .slice B m cb], .agg #[.int .i64 x, .int .i64 y]] ((w.alloc (conBox A n ca B m cb)).alloc (.cells #[.int .i64 x, .int .i64 y] 27)) (fun en w' => en = .returned (.tuple #[.int .i64 g, .int .i64 e]) ∧ R w')) :
    Calls Try.prog 19 #[s, .agg #[.slice A n ca, .slice B m cb], .agg #[.int .i64 x, .int .i64 y], .int .i64 want, .int .i64 no] w (fun en w' => en = .returned (.bool (g == want && e == no)) ∧ R w') := by
  have F := Lib.hid f
  clear f
  cases h1 : (g == want) with
  | false =>
    have H1 := Lib.hid h1
    go_enter Try.func19, Try.ntmps19
    go_wp2_with fail
    refine F.out.mono ?_
    rintro _ w1 ⟨rfl, hb1⟩
    have HB1 := Lib.hid hb1
    clear hb1 F
    go_wp2
    go_ret
    exact ⟨by simp, HB1.out⟩
  | true =>
    cases h2 : (e == no) with
    | false =>
      go_enter Try.func19, Try.ntmps19
      go_wp2_with fail
      refine F.out.mono ?_
      rintro _ w1 ⟨rfl, hb1⟩
      have HB1 := Lib.hid hb1
      clear hb1 F
      go_wp2
      go_ret
      exact ⟨by simp, HB1.out⟩
    | true =>
      go_enter Try.func19, Try.ntmps19
      go_wp2_with fail
      refine F.out.mono ?_
      rintro _ w1 ⟨rfl, hb1⟩
      have HB1 := Lib.hid hb1
      clear hb1 F
      go_wp2
      go_ret
      exact ⟨by simp, HB1.out⟩
end Go.Proofs.Ytjbakmmmgejhlaa
