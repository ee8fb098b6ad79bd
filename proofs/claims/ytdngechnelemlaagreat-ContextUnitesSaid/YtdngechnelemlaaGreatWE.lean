/-
  The reference's Raise, Union and Missing.
-/
import Derived.Test.YtdngechnelemlaaGreatWD
namespace Go.Proofs.YtdngechnelemlaaGreat
open Go.RowKit

def raiseGo (d : Dot) : Bool → List Dot → List Dot
  | done, [] => if done then [] else [d]
  | done, a :: t => (if !done && decide (d.1 ≤ a.1) then [d] else []) ++ ((if a.1 != d.1 then [a] else []) ++ raiseGo d (done || decide (d.1 ≤ a.1)) t)
def raiseV (v : List Dot) (d : Dot) : List Dot := if hasV v d then v else raiseGo d false v

def RaiseRel (w : World) (B n : Nat) (v : List Dot) (d : Dot) (o dn i : Value) (wr : World) : Prop :=
  ∃ (k : Nat) (b : Bool) (acc : List Dot), i = .int .i64 k ∧ dn = .bool b ∧ k ≤ n ∧ Below w.heap.size w wr ∧ Row wr B o acc ∧ acc.length ≤ 2 * k ∧ raiseGo d false v = acc ++ raiseGo d b (v.drop k)

theorem Dots.one (w : World) (x y : Int) : Dots (w.alloc (.cells #[.int .i64 x, .int .i64 y] 38)) (some ⟨w.heap.size, 0, none⟩) 1 1 [(x, y)] :=
  ⟨rfl, Nat.le_refl _, by unfold maxLen; omega, (fun e => nomatch e), fun j e hj => by
    have : j = 0 := by have := (List.getElem?_eq_some_iff.1 hj).1; simpa using this
    subst this
    simp at hj; subst hj
    exact ⟨w.heap.size, 0, rfl, by simp, by simp [go_sem], by simp [go_sem]⟩⟩


/-- The dots, if there are any, lie in a block of which p is true. -/
def Off (p : Nat → Prop) (A : Option Addr) (l : List Dot) : Prop := l ≠ [] → ∀ a, A = some a → p a.block
def IsDotsO (p : Nat → Prop) (l : List Dot) (w : World) (v : Value) : Prop := ∃ A n c, v = .slice A n c ∧ Dots w A n c l ∧ Off p A l
theorem IsDotsO.dots {p : Nat → Prop} {l : List Dot} {w : World} {v : Value} (h : IsDotsO p l w v) : IsDots l w v := let ⟨A, n, c, e, h, _⟩ := h; ⟨A, n, c, e, h⟩
theorem Row.offs {w : World} {B : Nat} {p : Nat → Prop} {v : Value} {l : List Dot} (h : Row w B v l) (hp : ∀ b, B ≤ b → p b) : IsDotsO p l w v := by
  obtain ⟨A, c, rfl, hd⟩ := Row.dots h
  exact ⟨A, _, c, rfl, hd, fun _ a ha => hp _ (Row.from_ h a ha)⟩
theorem Dots.lt {w : World} {A : Option Addr} {n c : Nat} {l : List Dot} (h : Dots w A n c l) (hl : l ≠ []) : ∀ a, A = some a → a.block < w.heap.size := by
  intro a ha
  cases l with
  | nil => exact absurd rfl hl
  | cons d t =>
    obtain ⟨b, o, e, hb, _⟩ := h.cell 0 d rfl
    rw [ha] at e; cases e; exact hb
theorem Dots.off {w : World} {A : Option Addr} {n c : Nat} {p : Nat → Prop} {l : List Dot} (h : Dots w A n c l) (hp : ∀ b, b < w.heap.size → p b) : Off p A l := fun hl a ha => hp _ (h.lt hl a ha)
theorem Off.imp {A : Option Addr} {p q : Nat → Prop} {l : List Dot} (h : Off p A l) (hp : ∀ b, p b → q b) : Off q A l := fun hl a ha => hp _ (h hl a ha)
theorem Dots.grownO {w w1 : World} {A : Option Addr} {n c : Nat} {l : List Dot} {row : Option Nat} (h : Dots w A n c l) (hg : w.grownBy w1 row) (hne : Off (fun b => some b ≠ row) A l) : Dots w1 A n c l := by
  by_cases hl : l = []
  · subst hl; exact ⟨h.len, h.cap, h.max, h.nil, fun i d hi => by simp at hi⟩
  · exact Dots.grown h hg (hne hl)
theorem Dots.setO {w : World} {A : Option Addr} {n c N o : Nat} {l : List Dot} (h : Dots w A n c l) (hne : Off (· ≠ N) A l) (u : Value) : Dots (w.setCell ⟨N, o, none⟩ u) A n c l := by
  by_cases hl : l = []
  · subst hl; exact ⟨h.len, h.cap, h.max, h.nil, fun i d hi => by simp at hi⟩
  · exact Dots.set_ h (p := ⟨N, o, none⟩) (hne hl) u

set_option maxRecDepth 100000 in
set_option maxHeartbeats 4000000 in
theorem rraise (pr : Nat → Prop) (x y : Int) (A : Option Addr) (n c : Nat) (l : List Dot) (w : World) (h : Dots w A n c l) (hs : Small n) (hN : ∀ b, w.heap.size ≤ b → pr b) (ho : Off pr A l) :
    Calls Tryz.prog 58 #[.slice A n c, .agg #[.int .i64 x, .int .i64 y]] w (Ret w (IsDotsO pr (raiseV l (x, y)))) := by
  have HO := Lib.hid ho; clear ho
  have hn := h.big
  have hb0 : Below w.heap.size w (w.alloc (.cells #[.int .i64 x, .int .i64 y] 38)) := by go_grown
  have h0 := h.mono hb0
  have k1 : (w.alloc (.cells #[.int .i64 x, .int .i64 y] 38)).cell? ⟨w.heap.size, 0, none⟩ = some (.int .i64 x) := by simp [go_sem]
  have k2 : (w.alloc (.cells #[.int .i64 x, .int .i64 y] 38)).cell? ⟨w.heap.size, 1, none⟩ = some (.int .i64 y) := by simp [go_sem]
  have f1 := hasv56 x y A n c l _ h0
  cases hm : hasV l (x, y) with
  | true =>
    rw [hm] at f1
    have F1 := Lib.hid f1; have H0 := Lib.hid h0; have HM := Lib.hid hm
    clear f1 hm h0 h k1 k2
    go_enter Tryz.func58, Tryz.ntmps58
    go_wp2_with fail
    refine F1.out.mono ?_
    rintro e w1 ⟨_, rfl, hb1, rfl⟩
    go_wp2
    go_ret
    refine ⟨_, rfl, hb0.le hb1, A, n, c, rfl, ?_⟩
    unfold raiseV; rw [if_pos HM.out]; exact ⟨H0.out.mono hb1, HO.out⟩
  | false =>
    rw [hm] at f1
    have F1 := Lib.hid f1; have HM := Lib.hid hm
    clear f1 hm
    go_enter Tryz.func58, Tryz.ntmps58
    go_wp2_with fail
    refine F1.out.mono ?_
    rintro e w1 ⟨_, rfl, hb1, rfl⟩
    have hN1 : ∀ b, w1.heap.size ≤ b → pr b := fun b hb => hN b (Nat.le_trans (hb0.le hb1).size hb)
    go_wp2_with fail
    go_loopw [5, 6, 7] (fun o dn i wr => RaiseRel w1 w1.heap.size n l (x, y) o dn i wr) (fun _ _ i _ => n - (intOf i).toNat)
    case atStart => exact ⟨0, false, [], rfl, rfl, by omega, Below.refl _ _, Row.nil_ _ _, Nat.le_refl _, by simp⟩
    case round =>
      obtain ⟨k, dn, acc, rfl, rfl, hk, hb, hr, hacc, hc⟩ := hrel
      have y1 := cellKeep hb (cellKeep hb1 k1)
      have y2 := cellKeep hb (cellKeep hb1 k2)
      have K1 := Lib.hid y1; have K2 := Lib.hid y2; have HR := Lib.hid hr; have HC := Lib.hid hc; have HA := Lib.hid hacc
      have hzr : w.heap.size < wr.heap.size := World.block_lt_of_cell? wr _ y1
      clear y1 y2 hr hc hacc
      by_cases hlt : k < n
      · obtain ⟨b, o, p, q, hA, hbk, e0, d1, c1, c2⟩ := (h0.mono hb1).at_ (k := k) hlt
        have C10 := Lib.hid c1; have C20 := Lib.hid c2
        have K10 := Lib.hid (cellKeep hb1 k1)
        replace c1 := cellKeep hb c1; replace c2 := cellKeep hb c2
        have ix := fun w => (show (Instr.indexAt 23 (.slice A n c) (.int .i64 (k : Int))).run Tryz.prog w = .ok (.pointer (some ⟨b, o + k * 2, none⟩)) w by rw [hA]; exact index_vec hlt)
        have IX := Lib.hid ix; have D1 := Lib.hid d1; have C1 := Lib.hid c1; have C2 := Lib.hid c2
        clear ix d1 c1 c2 hA e0 k1 k2
        have H1 := Lib.hid ((h0.mono hb1).mono hb)
        cases dn with
        | true =>
          go_wp2_with fail
          refine wp_region_M mixed (by kernel_rfl) ?_
          refine MDerR.step (Ob.move Wanted.free Has.oldIs) ?_
          refine MDerR.step (Ob.not Wanted.free (Has.new 0 0)) ?_
          refine MDerR.step (Ob.move Wanted.free (Has.new 1 0)) ?_
          refine MDerR.step (Ob.off 2 0) ?_
          refine MDerR.step (Ob.off 2 1) ?_
          refine MDerR.step (Ob.off 2 2) ?_
          refine MDerR.step (Ob.off 2 3) ?_
          refine MDerR.step (Ob.off 2 4) ?_
          refine MDerR.step (Ob.off 2 5) ?_
          refine MDerR.step (Ob.off 2 6) ?_
          refine MDerR.step (Ob.off 2 7) ?_
          refine MDerR.step (Ob.pickF Wanted.free (Has.new 2 8) (Has.cst _)) ?_
          simp only [MDerR, dstsOf, List.map, EndM, List.reverse_cons, List.reverse_nil, List.nil_append, List.cons_append]
          intro wE hE
          iterate 12 (rintro _ rfl)
          simp only [Act.put, List.setIfInBounds_toArray, List.set_cons_zero, List.set_cons_succ]
          replace HR := Lib.hid (Row.mono HR.out hE)
          replace C1 := Lib.hid (cellKeep hE C1.out); replace C2 := Lib.hid (cellKeep hE C2.out); replace K1 := Lib.hid (cellKeep hE K1.out)
          have HB := Lib.hid (hb.le hE)
          replace HA := Lib.hid (show acc.length ≤ 2 * k + 1 by have := HA.out; omega)
          replace HC := Lib.hid (show raiseGo (x, y) false l = acc ++ ((if (p != x) = true then [(p, q)] else []) ++ raiseGo (x, y) true (l.drop (k + 1))) by rw [HC.out, D1.out, raiseGo]; simp)
          clear hE hb H1 D1
          generalize wE = W0 at *
          go_wp2_with fail
          cases hq : (p != x) with
          | true =>
            have HQ := Lib.hid hq; clear hq
            go_wp2_with fail
            refine wp_region_M mixed (by kernel_rfl) ?_
            refine MDerR.step (Ob.move Wanted.free Has.oldIs) ?_
            refine MDerR.step (Ob.move Wanted.free Has.oldIs) ?_
            refine MDerR.step (Ob.indexV Wanted.free (Has.new 0 1) (Has.new 1 0) (fun w1 => IX.out w1)) ?_
            refine MDerR.step (Ob.fieldV Wanted.free (Has.new 2 0) (fun w1 => field_dot0)) ?_
            refine MDerR.step (Ob.loadV Wanted.free (Has.new 3 0) (fun w1 hb1 => load_int hb1 C1.out)) ?_
            refine MDerR.step (Ob.fieldV Wanted.free Has.oldIs (fun w1 => field_dot0)) ?_
            refine MDerR.step (Ob.loadV Wanted.free (Has.new 5 0) (fun w1 hb1 => load_int hb1 K1.out)) ?_
            refine MDerR.step (Ob.binV Wanted.free (Has.new 4 2) (Has.new 6 0) (fun w1 => int_neq true HQ.out)) ?_
            simp only [MDerR, dstsOf, List.map, EndM, List.reverse_cons, List.reverse_nil, List.nil_append, List.cons_append]
            intro wE hE
            iterate 8 (rintro _ rfl)
            simp only [Act.put, List.setIfInBounds_toArray, List.set_cons_zero, List.set_cons_succ]
            have hr2 := Row.mono HR.out hE
            have hb2 := HB.out.le hE
            have c1 := cellKeep hE C1.out
            have c2 := cellKeep hE C2.out
            have HR2 := Lib.hid hr2; have HB2 := Lib.hid hb2
            clear hr2 hb2 hE HR HB C1 C2 K1
            generalize wE = W1 at *
            have ix := IX.out W1
            have hE : Below W1.heap.size W1 (W1.alloc (.cells #[.int .i64 p, .int .i64 q] 38)) := by go_grown
            have HE := Lib.hid hE; clear hE
            go_wp2_with (at_builtin; refine wpList_app (B := w1.heap.size) rfl rfl Tryz.underlying23 rfl rfl (Row.mono HR2.out HE.out) (Dots.one _ _ _) (by have := HA.out; have := hs.out; simp; omega) (by have := HB2.out.size; simp; omega) ?_; intro v' w' hr' hg'; simp only [Act.put, List.setIfInBounds_toArray, List.set_cons_zero, List.set_cons_succ])
            go_roundw
            case rel => exact ⟨k + 1, _, _, by simp, rfl, hlt, (HB2.out.le HE.out).grown hg' (by have := HB2.out.size; simp; omega) (fun q hq => Row.own _ HR2.out q hq), hr', by have := HA.out; simp; omega, by rw [HC.out, if_pos HQ.out]; simp⟩
            case measure => simp [intOf]; omega
          | false =>
            have HQ := Lib.hid hq; clear hq
            go_wp2_with fail
            refine wp_region_M mixed (by kernel_rfl) ?_
            refine MDerR.step (Ob.move Wanted.free Has.oldIs) ?_
            refine MDerR.step (Ob.move Wanted.free Has.oldIs) ?_
            refine MDerR.step (Ob.indexV Wanted.free (Has.new 0 1) (Has.new 1 0) (fun w1 => IX.out w1)) ?_
            refine MDerR.step (Ob.fieldV Wanted.free (Has.new 2 0) (fun w1 => field_dot0)) ?_
            refine MDerR.step (Ob.loadV Wanted.free (Has.new 3 0) (fun w1 hb1 => load_int hb1 C1.out)) ?_
            refine MDerR.step (Ob.fieldV Wanted.free Has.oldIs (fun w1 => field_dot0)) ?_
            refine MDerR.step (Ob.loadV Wanted.free (Has.new 5 0) (fun w1 hb1 => load_int hb1 K1.out)) ?_
            refine MDerR.step (Ob.binV Wanted.free (Has.new 4 2) (Has.new 6 0) (fun w1 => int_neq false HQ.out)) ?_
            simp only [MDerR, dstsOf, List.map, EndM, List.reverse_cons, List.reverse_nil, List.nil_append, List.cons_append]
            intro wE hE
            iterate 8 (rintro _ rfl)
            simp only [Act.put, List.setIfInBounds_toArray, List.set_cons_zero, List.set_cons_succ]
            go_wp2
            go_roundw
            case rel => exact ⟨k + 1, _, _, by simp, rfl, hlt, HB.out.le hE, Row.mono HR.out hE, by have := HA.out; omega, by rw [HC.out, if_neg (by rw [HQ.out]; simp)]; simp⟩
            case measure => simp [intOf]; omega
        | false =>
          cases hg : decide (x ≤ p) with
          | true =>
            have HG := Lib.hid hg; clear hg
            go_wp2_with fail
            refine wp_region_M mixed (by kernel_rfl) ?_
            refine MDerR.step (Ob.move Wanted.free Has.oldIs) ?_
            refine MDerR.step (Ob.not Wanted.free (Has.new 0 0)) ?_
            refine MDerR.step (Ob.move Wanted.free (Has.new 1 0)) ?_
            refine MDerR.step (Ob.move (Wanted.on 2 0) Has.oldIs) ?_
            refine MDerR.step (Ob.move (Wanted.on 2 1) Has.oldIs) ?_
            refine MDerR.step (Ob.indexV (Wanted.on 2 2) (Has.new 3 1) (Has.new 4 0) (fun w1 => IX.out w1)) ?_
            refine MDerR.step (Ob.fieldV (Wanted.on 2 3) (Has.new 5 0) (fun w1 => field_dot0)) ?_
            refine MDerR.step (Ob.loadV (Wanted.on 2 4) (Has.new 6 0) (fun w1 hb1 => load_int hb1 C1.out)) ?_
            refine MDerR.step (Ob.fieldV (Wanted.on 2 5) Has.oldIs (fun w1 => field_dot0)) ?_
            refine MDerR.step (Ob.loadV (Wanted.on 2 6) (Has.new 8 0) (fun w1 hb1 => load_int hb1 K1.out)) ?_
            refine MDerR.step (Ob.binV (Wanted.on 2 7) (Has.new 7 2) (Has.new 9 0) (fun w1 => int_geq true HG.out)) ?_
            refine MDerR.step (Ob.pickT Wanted.free (Has.new 2 8) (Has.new 10 0)) ?_
            simp only [MDerR, dstsOf, List.map, EndM, List.reverse_cons, List.reverse_nil, List.nil_append, List.cons_append]
            intro wE hE
            iterate 12 (rintro _ rfl)
            simp only [Act.put, List.setIfInBounds_toArray, List.set_cons_zero, List.set_cons_succ]
            have hr2 := Row.mono HR.out hE
            have hb2 := hb.le hE
            have c1 := cellKeep hE C1.out
            have c2 := cellKeep hE C2.out
            have y1 := cellKeep hE K1.out
            have y2 := cellKeep hE K2.out
            generalize wE = W1 at *
            have HR2 := Lib.hid hr2; have HB2 := Lib.hid hb2; have C12 := Lib.hid c1; have C22 := Lib.hid c2
            have K12 := Lib.hid y1
            have hzW : w.heap.size < W1.heap.size := World.block_lt_of_cell? W1 _ y1
            clear hr2 hb2 c1 c2 hE HR hb C1 C2 K1 K2 H1
            have hE : Below W1.heap.size W1 (W1.alloc (.cells #[.int .i64 x, .int .i64 y] 38)) := by go_grown
            have HE := Lib.hid hE; clear hE
            have hz1 := HB2.out.size
            go_wp2_with (at_builtin; refine wpList_app (B := w1.heap.size) rfl rfl Tryz.underlying23 rfl rfl (Row.mono HR2.out HE.out) (Dots.one _ _ _) (by have := HA.out; have := hs.out; simp; omega) (by simp; omega) ?_; intro v' w' hr' hg'; simp only [Act.put, List.setIfInBounds_toArray, List.set_cons_zero, List.set_cons_succ])
            have hbw := (HB2.out.le HE.out).grown hg' (by simp; omega) (fun q hq => Row.own _ HR2.out q hq)
            have C1 := Lib.hid (cellKeep hbw C10.out); have C2 := Lib.hid (cellKeep hbw C20.out); have K1 := Lib.hid (cellKeep hbw K10.out)
            have HB := Lib.hid hbw
            have HR := Lib.hid hr'
            replace HA := Lib.hid (show (acc ++ [(x, y)]).length ≤ 2 * k + 1 by have := HA.out; simp; omega)
            replace HC := Lib.hid (show raiseGo (x, y) false l = acc ++ [(x, y)] ++ ((if (p != x) = true then [(p, q)] else []) ++ raiseGo (x, y) true (l.drop (k + 1))) by rw [HC.out, D1.out, raiseGo]; simp [HG.out])
            clear hg' hr' hbw HE HB2 HR2 C12 C22 K12 hzW y1 y2 D1 hz1
            generalize w' = W0 at *
            generalize acc ++ [(x, y)] = acc2 at *
            cases hq : (p != x) with
            | true =>
              have HQ := Lib.hid hq; clear hq
              go_wp2_with fail
              refine wp_region_M mixed (by kernel_rfl) ?_
              refine MDerR.step (Ob.move Wanted.free Has.oldIs) ?_
              refine MDerR.step (Ob.move Wanted.free Has.oldIs) ?_
              refine MDerR.step (Ob.indexV Wanted.free (Has.new 0 1) (Has.new 1 0) (fun w1 => IX.out w1)) ?_
              refine MDerR.step (Ob.fieldV Wanted.free (Has.new 2 0) (fun w1 => field_dot0)) ?_
              refine MDerR.step (Ob.loadV Wanted.free (Has.new 3 0) (fun w1 hb1 => load_int hb1 C1.out)) ?_
              refine MDerR.step (Ob.fieldV Wanted.free Has.oldIs (fun w1 => field_dot0)) ?_
              refine MDerR.step (Ob.loadV Wanted.free (Has.new 5 0) (fun w1 hb1 => load_int hb1 K1.out)) ?_
              refine MDerR.step (Ob.binV Wanted.free (Has.new 4 2) (Has.new 6 0) (fun w1 => int_neq true HQ.out)) ?_
              simp only [MDerR, dstsOf, List.map, EndM, List.reverse_cons, List.reverse_nil, List.nil_append, List.cons_append]
              intro wE hE
              iterate 8 (rintro _ rfl)
              simp only [Act.put, List.setIfInBounds_toArray, List.set_cons_zero, List.set_cons_succ]
              have hr2 := Row.mono HR.out hE
              have hb2 := HB.out.le hE
              have c1 := cellKeep hE C1.out
              have c2 := cellKeep hE C2.out
              have HR2 := Lib.hid hr2; have HB2 := Lib.hid hb2
              clear hr2 hb2 hE HR HB C1 C2 K1
              generalize wE = W1 at *
              have ix := IX.out W1
              have hE : Below W1.heap.size W1 (W1.alloc (.cells #[.int .i64 p, .int .i64 q] 38)) := by go_grown
              have HE := Lib.hid hE; clear hE
              go_wp2_with (at_builtin; refine wpList_app (B := w1.heap.size) rfl rfl Tryz.underlying23 rfl rfl (Row.mono HR2.out HE.out) (Dots.one _ _ _) (by have := HA.out; have := hs.out; simp; omega) (by have := HB2.out.size; simp; omega) ?_; intro v' w' hr' hg'; simp only [Act.put, List.setIfInBounds_toArray, List.set_cons_zero, List.set_cons_succ])
              go_roundw
              case rel => exact ⟨k + 1, _, _, by simp, rfl, hlt, (HB2.out.le HE.out).grown hg' (by have := HB2.out.size; simp; omega) (fun q hq => Row.own _ HR2.out q hq), hr', by have := HA.out; simp; omega, by rw [HC.out, if_pos HQ.out]; simp⟩
              case measure => simp [intOf]; omega
            | false =>
              have HQ := Lib.hid hq; clear hq
              go_wp2_with fail
              refine wp_region_M mixed (by kernel_rfl) ?_
              refine MDerR.step (Ob.move Wanted.free Has.oldIs) ?_
              refine MDerR.step (Ob.move Wanted.free Has.oldIs) ?_
              refine MDerR.step (Ob.indexV Wanted.free (Has.new 0 1) (Has.new 1 0) (fun w1 => IX.out w1)) ?_
              refine MDerR.step (Ob.fieldV Wanted.free (Has.new 2 0) (fun w1 => field_dot0)) ?_
              refine MDerR.step (Ob.loadV Wanted.free (Has.new 3 0) (fun w1 hb1 => load_int hb1 C1.out)) ?_
              refine MDerR.step (Ob.fieldV Wanted.free Has.oldIs (fun w1 => field_dot0)) ?_
              refine MDerR.step (Ob.loadV Wanted.free (Has.new 5 0) (fun w1 hb1 => load_int hb1 K1.out)) ?_
              refine MDerR.step (Ob.binV Wanted.free (Has.new 4 2) (Has.new 6 0) (fun w1 => int_neq false HQ.out)) ?_
              simp only [MDerR, dstsOf, List.map, EndM, List.reverse_cons, List.reverse_nil, List.nil_append, List.cons_append]
              intro wE hE
              iterate 8 (rintro _ rfl)
              simp only [Act.put, List.setIfInBounds_toArray, List.set_cons_zero, List.set_cons_succ]
              go_wp2
              go_roundw
              case rel => exact ⟨k + 1, _, _, by simp, rfl, hlt, HB.out.le hE, Row.mono HR.out hE, by have := HA.out; omega, by rw [HC.out, if_neg (by rw [HQ.out]; simp)]; simp⟩
              case measure => simp [intOf]; omega
          | false =>
            have HG := Lib.hid hg; clear hg
            go_wp2_with fail
            refine wp_region_M mixed (by kernel_rfl) ?_
            refine MDerR.step (Ob.move Wanted.free Has.oldIs) ?_
            refine MDerR.step (Ob.not Wanted.free (Has.new 0 0)) ?_
            refine MDerR.step (Ob.move Wanted.free (Has.new 1 0)) ?_
            refine MDerR.step (Ob.move (Wanted.on 2 0) Has.oldIs) ?_
            refine MDerR.step (Ob.move (Wanted.on 2 1) Has.oldIs) ?_
            refine MDerR.step (Ob.indexV (Wanted.on 2 2) (Has.new 3 1) (Has.new 4 0) (fun w1 => IX.out w1)) ?_
            refine MDerR.step (Ob.fieldV (Wanted.on 2 3) (Has.new 5 0) (fun w1 => field_dot0)) ?_
            refine MDerR.step (Ob.loadV (Wanted.on 2 4) (Has.new 6 0) (fun w1 hb1 => load_int hb1 C1.out)) ?_
            refine MDerR.step (Ob.fieldV (Wanted.on 2 5) Has.oldIs (fun w1 => field_dot0)) ?_
            refine MDerR.step (Ob.loadV (Wanted.on 2 6) (Has.new 8 0) (fun w1 hb1 => load_int hb1 K1.out)) ?_
            refine MDerR.step (Ob.binV (Wanted.on 2 7) (Has.new 7 2) (Has.new 9 0) (fun w1 => int_geq false HG.out)) ?_
            refine MDerR.step (Ob.pickT Wanted.free (Has.new 2 8) (Has.new 10 0)) ?_
            simp only [MDerR, dstsOf, List.map, EndM, List.reverse_cons, List.reverse_nil, List.nil_append, List.cons_append]
            intro wE hE
            iterate 12 (rintro _ rfl)
            simp only [Act.put, List.setIfInBounds_toArray, List.set_cons_zero, List.set_cons_succ]
            replace HR := Lib.hid (Row.mono HR.out hE)
            replace C1 := Lib.hid (cellKeep hE C1.out); replace C2 := Lib.hid (cellKeep hE C2.out); replace K1 := Lib.hid (cellKeep hE K1.out)
            have HB := Lib.hid (hb.le hE)
            replace HA := Lib.hid (show acc.length ≤ 2 * k + 1 by have := HA.out; omega)
            replace HC := Lib.hid (show raiseGo (x, y) false l = acc ++ ((if (p != x) = true then [(p, q)] else []) ++ raiseGo (x, y) false (l.drop (k + 1))) by rw [HC.out, D1.out, raiseGo]; simp [HG.out])
            clear hE hb H1 D1
            generalize wE = W0 at *
            go_wp2_with fail
            cases hq : (p != x) with
            | true =>
              have HQ := Lib.hid hq; clear hq
              go_wp2_with fail
              refine wp_region_M mixed (by kernel_rfl) ?_
              refine MDerR.step (Ob.move Wanted.free Has.oldIs) ?_
              refine MDerR.step (Ob.move Wanted.free Has.oldIs) ?_
              refine MDerR.step (Ob.indexV Wanted.free (Has.new 0 1) (Has.new 1 0) (fun w1 => IX.out w1)) ?_
              refine MDerR.step (Ob.fieldV Wanted.free (Has.new 2 0) (fun w1 => field_dot0)) ?_
              refine MDerR.step (Ob.loadV Wanted.free (Has.new 3 0) (fun w1 hb1 => load_int hb1 C1.out)) ?_
              refine MDerR.step (Ob.fieldV Wanted.free Has.oldIs (fun w1 => field_dot0)) ?_
              refine MDerR.step (Ob.loadV Wanted.free (Has.new 5 0) (fun w1 hb1 => load_int hb1 K1.out)) ?_
              refine MDerR.step (Ob.binV Wanted.free (Has.new 4 2) (Has.new 6 0) (fun w1 => int_neq true HQ.out)) ?_
              simp only [MDerR, dstsOf, List.map, EndM, List.reverse_cons, List.reverse_nil, List.nil_append, List.cons_append]
              intro wE hE
              iterate 8 (rintro _ rfl)
              simp only [Act.put, List.setIfInBounds_toArray, List.set_cons_zero, List.set_cons_succ]
              have hr2 := Row.mono HR.out hE
              have hb2 := HB.out.le hE
              have c1 := cellKeep hE C1.out
              have c2 := cellKeep hE C2.out
              have HR2 := Lib.hid hr2; have HB2 := Lib.hid hb2
              clear hr2 hb2 hE HR HB C1 C2 K1
              generalize wE = W1 at *
              have ix := IX.out W1
              have hE : Below W1.heap.size W1 (W1.alloc (.cells #[.int .i64 p, .int .i64 q] 38)) := by go_grown
              have HE := Lib.hid hE; clear hE
              go_wp2_with (at_builtin; refine wpList_app (B := w1.heap.size) rfl rfl Tryz.underlying23 rfl rfl (Row.mono HR2.out HE.out) (Dots.one _ _ _) (by have := HA.out; have := hs.out; simp; omega) (by have := HB2.out.size; simp; omega) ?_; intro v' w' hr' hg'; simp only [Act.put, List.setIfInBounds_toArray, List.set_cons_zero, List.set_cons_succ])
              go_roundw
              case rel => exact ⟨k + 1, _, _, by simp, rfl, hlt, (HB2.out.le HE.out).grown hg' (by have := HB2.out.size; simp; omega) (fun q hq => Row.own _ HR2.out q hq), hr', by have := HA.out; simp; omega, by rw [HC.out, if_pos HQ.out]; simp⟩
              case measure => simp [intOf]; omega
            | false =>
              have HQ := Lib.hid hq; clear hq
              go_wp2_with fail
              refine wp_region_M mixed (by kernel_rfl) ?_
              refine MDerR.step (Ob.move Wanted.free Has.oldIs) ?_
              refine MDerR.step (Ob.move Wanted.free Has.oldIs) ?_
              refine MDerR.step (Ob.indexV Wanted.free (Has.new 0 1) (Has.new 1 0) (fun w1 => IX.out w1)) ?_
              refine MDerR.step (Ob.fieldV Wanted.free (Has.new 2 0) (fun w1 => field_dot0)) ?_
              refine MDerR.step (Ob.loadV Wanted.free (Has.new 3 0) (fun w1 hb1 => load_int hb1 C1.out)) ?_
              refine MDerR.step (Ob.fieldV Wanted.free Has.oldIs (fun w1 => field_dot0)) ?_
              refine MDerR.step (Ob.loadV Wanted.free (Has.new 5 0) (fun w1 hb1 => load_int hb1 K1.out)) ?_
              refine MDerR.step (Ob.binV Wanted.free (Has.new 4 2) (Has.new 6 0) (fun w1 => int_neq false HQ.out)) ?_
              simp only [MDerR, dstsOf, List.map, EndM, List.reverse_cons, List.reverse_nil, List.nil_append, List.cons_append]
              intro wE hE
              iterate 8 (rintro _ rfl)
              simp only [Act.put, List.setIfInBounds_toArray, List.set_cons_zero, List.set_cons_succ]
              go_wp2
              go_roundw
              case rel => exact ⟨k + 1, _, _, by simp, rfl, hlt, HB.out.le hE, Row.mono HR.out hE, by have := HA.out; omega, by rw [HC.out, if_neg (by rw [HQ.out]; simp)]; simp⟩
              case measure => simp [intOf]; omega
      · have hF : decide ((k : Int) < (n : Int)) = false := by simpa using hlt
        have hk' : l.drop k = [] := List.drop_of_length_le (by rw [← h.len]; omega)
        cases dn with
        | true =>
          go_wp2
          go_ret
          refine ⟨_, rfl, (hb0.le hb1).le hb, ?_⟩
          have := Row.offs HR.out hN1
          unfold raiseV
          rw [if_neg (by rw [HM.out]; simp), HC.out, hk', raiseGo]
          simpa using this
        | false =>
          have hE : Below wr.heap.size wr (wr.alloc (.cells #[.int .i64 x, .int .i64 y] 38)) := by go_grown
          have y1 := K1.out; have y2 := K2.out
          have hz1 := hb.size
          go_wp2_with (at_builtin; refine wpList_app (B := w1.heap.size) rfl rfl Tryz.underlying23 rfl rfl (Row.mono HR.out hE) (Dots.one _ _ _) (by have := HA.out; have := hs.out; simp; omega) (by simp; omega) ?_; intro v' w' hr' hg'; simp only [Act.put, List.setIfInBounds_toArray, List.set_cons_zero, List.set_cons_succ])
          go_ret
          refine ⟨_, rfl, (hb0.le hb1).le ((hb.le hE).grown hg' (by simp; omega) (fun q hq => Row.own _ HR.out q hq)), ?_⟩
          have := Row.offs hr' hN1
          unfold raiseV
          rw [if_neg (by rw [HM.out]; simp), HC.out, hk', raiseGo]
          simpa using this
end Go.Proofs.YtdngechnelemlaaGreat

/-
  The reference's Union and Missing.
-/
namespace Go.Proofs.YtdngechnelemlaaGreat
open Go.RowKit

def unionD (a b : List Dot) : List Dot := b.foldl withD (a.foldl withD [])
def missC (c : Ctx) (l : List Dot) : List Dot := l.foldl (fun acc d => if hasC c d then acc else withD acc d) []
theorem withD_length (s : List Dot) (d : Dot) : (withD s d).length ≤ s.length + 1 := by
  unfold withD; split
  · omega
  · have := cutD_le d s
    simp [List.length_take, List.length_drop]; omega

/-- A round of a fold: a slice that reads as dots. -/
def FoldRel (f : List Dot → Dot → List Dot) (w : World) (n B : Nat) (l s0 : List Dot) (o i : Value) (wr : World) : Prop :=
  ∃ (k : Nat) (A : Option Addr) (m c : Nat) (acc : List Dot), i = .int .i64 k ∧ k ≤ n ∧ o = .slice A m c ∧ Below w.heap.size w wr ∧ Dots wr A m c acc ∧ acc.length ≤ B + k ∧ l.foldl f s0 = (l.drop k).foldl f acc

set_option maxRecDepth 100000 in
set_option maxHeartbeats 1000000 in
theorem runion (A B : Option Addr) (n ca m cb : Nat) (a b : List Dot) (w : World) (ha : Dots w A n ca a) (hb' : Dots w B m cb b) (hs : Small (n + m)) :
    Calls Tryz.prog 32 #[.slice A n ca, .slice B m cb] w (Ret w (IsDots (unionD a b))) := by
  have hn := ha.big; have hm := hb'.big
  go_enter Tryz.func32, Tryz.ntmps32
  go_wp2
  go_loopw [5, 6] (fun o i wr => FoldRel withD w n 0 a [] o i wr) (fun _ i _ => n - (intOf i).toNat)
  case atStart => exact ⟨0, none, 0, 0, [], rfl, by omega, rfl, Below.refl _ _, Dots.nil_, Nat.le_refl _, rfl⟩
  case round =>
    obtain ⟨k, A1, m1, c1, acc, rfl, hk, rfl, hb, hd, hacc, hf⟩ := hrel
    by_cases hlt : k < n
    · obtain ⟨b', o, p, q, rfl, hbk, e0, d1, k1, k2⟩ := (ha.mono hb).at_ (k := k) hlt
      have F := Lib.hid (rwith p q A1 m1 c1 acc wr hd (by have := hs.out; have := hd.len; unfold Small; omega))
      have D1 := Lib.hid d1; have HF := Lib.hid hf; have HA := Lib.hid hacc
      clear d1 e0 hf hacc
      go_wp2_with (go_at_call 59; ((with_reducible refine F.out.mono ?_); rintro e w1 ⟨_, rfl, hb1, A2, m2, c2, rfl, hd2⟩))
      go_roundw
      case rel => exact ⟨k + 1, A2, m2, c2, _, by simp, hlt, rfl, hb.le hb1, hd2, by have := withD_length acc (p, q); have := HA.out; omega, by rw [HF.out, D1.out]; rfl⟩
      case measure => simp [intOf]; omega
    · have e : a.foldl withD [] = acc := by rw [hf, List.drop_of_length_le (by rw [← ha.len]; omega)]; rfl
      have hk1 : acc.length ≤ n := by omega
      have E := Lib.hid e; clear e hf hacc
      go_wp2
      go_loopw [5, 7] (fun o i w2 => FoldRel withD wr m n b acc o i w2) (fun _ i _ => m - (intOf i).toNat)
      case atStart => exact ⟨0, A1, m1, c1, acc, rfl, by omega, rfl, Below.refl _ _, hd, by omega, rfl⟩
      case round =>
        obtain ⟨k, A1, m1, c1, acc, rfl, hk, rfl, hb2, hd, hacc, hf⟩ := hrel
        by_cases hlt : k < m
        · obtain ⟨b', o, p, q, rfl, hbk, e0, d1, k1, k2⟩ := ((hb'.mono hb).mono hb2).at_ (k := k) hlt
          have F := Lib.hid (rwith p q A1 m1 c1 acc _ hd (by have := hs.out; have := hd.len; unfold Small; omega))
          have D1 := Lib.hid d1; have HF := Lib.hid hf; have HA := Lib.hid hacc
          clear d1 e0 hf hacc
          go_wp2_with (go_at_call 59; ((with_reducible refine F.out.mono ?_); rintro e w1 ⟨_, rfl, hb1, A2, m2, c2, rfl, hd2⟩))
          go_roundw
          case rel => exact ⟨k + 1, A2, m2, c2, _, by simp, hlt, rfl, hb2.le hb1, hd2, by have := withD_length acc (p, q); have := HA.out; omega, by rw [HF.out, D1.out]; rfl⟩
          case measure => simp [intOf]; omega
        · rw [List.drop_of_length_le (by rw [← hb'.len]; omega)] at hf
          have HF := Lib.hid hf; have HD := Lib.hid hd
          clear hf hd
          go_wp2
          go_ret
          refine ⟨_, rfl, hb.le hb2, _, _, _, rfl, ?_⟩
          unfold unionD
          rw [E.out, HF.out]; exact HD.out

theorem entersRHas : Enters Tryz.prog 33 := enters_of Tryz.func33 (by kernel_rfl) rfl
end Go.Proofs.YtdngechnelemlaaGreat

/-
  The reference's Compact: the pass over the cloud.
-/
namespace Go.Proofs.YtdngechnelemlaaGreat
open Go.RowKit

def stepC (s : Ctx) (d : Dot) : Ctx := if hasV s.1 d then s else if d.2 == getV s.1 d.1 + 1 then (raiseV s.1 d, s.2) else (s.1, s.2 ++ [d])
def passC (c : Ctx) : Ctx := c.2.foldl stepC (c.1, [])
def compactC (c : Ctx) : Ctx := if compC c then c else passC c

theorem raiseGo_true (d : Dot) : ∀ l : List Dot, raiseGo d true l = l.filter (fun a => a.1 != d.1)
  | [] => rfl
  | a :: t => by
    rw [raiseGo, List.filter_cons]
    simp only [Bool.not_true, Bool.false_and, Bool.true_or, raiseGo_true d t]
    by_cases h : a.1 = d.1 <;> simp [h]
theorem raiseGo_false (d a : Dot) (t : List Dot) : raiseGo d false (a :: t) = if d.1 ≤ a.1 then d :: (a :: t).filter (fun a => a.1 != d.1) else a :: raiseGo d false t := by
  rw [raiseGo]
  by_cases h : d.1 ≤ a.1
  · simp only [h, decide_true, Bool.not_false, Bool.and_true, if_true, Bool.or_true, raiseGo_true, List.filter_cons]
    by_cases h2 : a.1 = d.1 <;> simp [h2]
  · have h2 : a.1 ≠ d.1 := by omega
    simp [h, h2]
theorem raiseGo_length (d : Dot) : ∀ l : List Dot, (raiseGo d false l).length ≤ l.length + 1
  | [] => by simp [raiseGo]
  | a :: t => by
    rw [raiseGo_false]
    have := raiseGo_length d t
    have h2 := List.length_filter_le (fun a : Dot => a.1 != d.1) (a :: t)
    split
    · simp only [List.length_cons] at *; omega
    · simp only [List.length_cons]; omega
theorem raiseV_length (l : List Dot) (d : Dot) : (raiseV l d).length ≤ l.length + 1 := by
  unfold raiseV; split
  · omega
  · exact raiseGo_length d l
theorem raiseGo_valid (d : Dot) (hd : validD d = true) : ∀ l : List Dot, validL l = true → validL (raiseGo d false l) = true
  | [], _ => by simp [raiseGo, validL, hd]
  | a :: t, h => by
    have h' := h
    unfold validL at h
    rw [List.all_eq_true] at h
    rw [raiseGo_false]
    split
    · unfold validL
      rw [List.all_eq_true]
      intro x hx
      rcases List.mem_cons.1 hx with rfl | hx
      · exact hd
      · exact h x ((List.mem_filter.1 hx).1)
    · have ih := raiseGo_valid d hd t (by unfold validL; rw [List.all_eq_true]; exact fun x hx => h x (List.mem_cons_of_mem _ hx))
      unfold validL at ih ⊢
      rw [List.all_cons, ih, h a List.mem_cons_self]; rfl
theorem raiseV_validL (d : Dot) (hd : validD d = true) (l : List Dot) (h : validL l = true) : validL (raiseV l d) = true := by
  unfold raiseV; split
  · exact h
  · exact raiseGo_valid d hd l h
theorem getV_wrap {v : List Dot} (h : validL v = true) (r : Int) : IntKind.i64.wrap (getV v r + 1) = getV v r + 1 := by
  have := getV_bd v r h
  exact IntWalk.i64_in _ (by omega)

/-- A round of the pass. -/
def PassRel (p : Nat → Prop) (w : World) (m L : Nat) (s0 : Ctx) (l : List Dot) (o v i : Value) (wr : World) : Prop :=
  ∃ (k : Nat) (A : Option Addr) (n c : Nat) (s : Ctx), i = .int .i64 k ∧ k ≤ m ∧ v = .slice A n c ∧ Below w.heap.size w wr ∧ Dots wr A n c s.1 ∧ Off (fun b => p b ∧ o.ownBlock ≠ some b) A s.1 ∧ Row wr w.heap.size o s.2 ∧ s.1.length ≤ L + k ∧ s.2.length ≤ k ∧ validL s.1 = true ∧ l.foldl stepC s0 = (l.drop k).foldl stepC s
def notYet (v : Value) : Nat := match v with | .int _ _ => 0 | _ => 1
/-- Neither of the two boxes. -/
def Far (N b : Nat) : Prop := b ≠ N ∧ b ≠ N + 1
/-- A round of the outer loop. -/
def OutRel (w : World) (c : Ctx) (i : Value) (wr : World) : Prop :=
  ∃ (A B : Option Addr) (n ca m cb : Nat) (c' : Ctx), Below w.heap.size w wr ∧ w.heap.size + 1 < wr.heap.size ∧ wr.cell? ⟨w.heap.size, 0, none⟩ = some (.slice A n ca) ∧ wr.cell? ⟨w.heap.size, 1, none⟩ = some (.slice B m cb) ∧
    (∃ u, wr.cell? ⟨w.heap.size + 1, 0, none⟩ = some u) ∧ (∃ u, wr.cell? ⟨w.heap.size + 1, 1, none⟩ = some u) ∧ (∀ o, wr.frozen? ⟨w.heap.size, o, none⟩ = false) ∧ (∀ o, wr.frozen? ⟨w.heap.size + 1, o, none⟩ = false) ∧
    Con wr A n ca B m cb c' ∧ Off (Far w.heap.size) A c'.1 ∧ Off (Far w.heap.size) B c'.2 ∧ ((i = undef ∧ c' = c) ∨ (∃ k : Int, i = .int .i64 k) ∧ c' = passC c ∧ compC c = false)

theorem entersRGet : Enters Tryz.prog 57 := enters_of Tryz.func57 (by kernel_rfl) rfl
set_option maxRecDepth 100000 in
set_option maxHeartbeats 4000000 in
theorem rcompactC (A B : Option Addr) (n ca m cb : Nat) (c : Ctx) (w : World) (h : Con w A n ca B m cb c) (hs : Small (n + m)) (hv : validC c = true) (hp : compC (passC c) = true) :
    Calls Tryz.prog 30 #[.agg #[.slice A n ca, .slice B m cb]] w (Ret w (IsCon (compactC c))) := by
  have hb0 : Below w.heap.size w ((w.alloc (conBox A n ca B m cb)).alloc (conBox none 0 0 none 0 0)) := by go_grown
  have h0 := h.mono hb0
  have z0 : ((w.alloc (conBox A n ca B m cb)).alloc (conBox none 0 0 none 0 0)).cell? ⟨w.heap.size, 0, none⟩ = some (.slice A n ca) := by simp [go_sem]
  have z1 : ((w.alloc (conBox A n ca B m cb)).alloc (conBox none 0 0 none 0 0)).cell? ⟨w.heap.size, 1, none⟩ = some (.slice B m cb) := by simp [go_sem]
  have y0 : ((w.alloc (conBox A n ca B m cb)).alloc (conBox none 0 0 none 0 0)).cell? ⟨w.heap.size + 1, 0, none⟩ = some (.slice none 0 0) := by simp [go_sem]
  have y1 : ((w.alloc (conBox A n ca B m cb)).alloc (conBox none 0 0 none 0 0)).cell? ⟨w.heap.size + 1, 1, none⟩ = some (.slice none 0 0) := by simp [go_sem]
  have zf : ∀ o, ((w.alloc (conBox A n ca B m cb)).alloc (conBox none 0 0 none 0 0)).frozen? ⟨w.heap.size, o, none⟩ = false := fun o => by simp [go_sem]
  have yf : ∀ o, ((w.alloc (conBox A n ca B m cb)).alloc (conBox none 0 0 none 0 0)).frozen? ⟨w.heap.size + 1, o, none⟩ = false := fun o => by simp [go_sem]
  have start : OutRel w c undef ((w.alloc (conBox A n ca B m cb)).alloc (conBox none 0 0 none 0 0)) :=
    ⟨A, B, n, ca, m, cb, c, hb0, by simp, z0, z1, ⟨_, y0⟩, ⟨_, y1⟩, zf, yf, h0, h.v.off (fun b hb => ⟨by omega, by omega⟩), h.k.off (fun b hb => ⟨by omega, by omega⟩), .inl ⟨rfl, rfl⟩⟩
  have START := Lib.hid start; have HV := Lib.hid hv; have HP := Lib.hid hp; have HL := Lib.hid h.v.len; have HK := Lib.hid h.k.len
  clear start hv hp h h0 z0 z1 y0 y1 zf yf hb0
  go_enter Tryz.func30, Tryz.ntmps30
  go_wp2_with fail
  go_loopw [5] (fun i wr => OutRel w c i wr) (fun i _ => notYet i)
  case atStart => exact START.out
  case round =>
    clear START
    obtain ⟨A1, B1, n1, ca1, m1, cb1, c', hb, hz, v0, v1, ⟨g0, y0⟩, ⟨g1, y1⟩, zf, yf, hc, ho1, ho2, hcase⟩ := hrel
    have f := rccompact A1 B1 n1 ca1 m1 cb1 c' wr hc
    have HC := Lib.hid hc; have HB := Lib.hid hb; have HO1 := Lib.hid ho1; have HO2 := Lib.hid ho2; have HCASE := Lib.hid hcase
    have Y0 := Lib.hid y0; have Y1 := Lib.hid y1; have ZF := Lib.hid zf; have YF := Lib.hid yf
    clear hc hb ho1 ho2 hcase zf yf y0 y1
    cases hcc : compC c' with
    | true =>
      rw [hcc] at f
      have F := Lib.hid f; have HCC := Lib.hid hcc; clear f hcc
      have V0 := Lib.hid v0; have V1 := Lib.hid v1
      go_wp2_with (go_at_call 55; ((with_reducible refine F.out.mono ?_); rintro e w1 ⟨_, rfl, hb1, rfl⟩; have x0 := cellKeep hb1 V0.out; have x1 := cellKeep hb1 V1.out; have x2 := cellKeep hb1 Y0.out; have x3 := cellKeep hb1 Y1.out; have x4 := (hb1.frozen (p := ⟨w.heap.size + 1, 0, none⟩) hz).trans (YF.out 0); have x5 := (hb1.frozen (p := ⟨w.heap.size + 1, 1, none⟩) hz).trans (YF.out 1); have hz1 : w.heap.size + 1 < w1.heap.size := World.block_lt_of_cell? w1 _ x2))
      have s0 : (w1.setCell ⟨w.heap.size + 1, 0, none⟩ (.slice A1 n1 ca1)).cell? ⟨w.heap.size + 1, 0, none⟩ = some (.slice A1 n1 ca1) := cell_set x2
      have s1 : ((w1.setCell ⟨w.heap.size + 1, 0, none⟩ (.slice A1 n1 ca1)).setCell ⟨w.heap.size + 1, 1, none⟩ (.slice B1 m1 cb1)).cell? ⟨w.heap.size + 1, 1, none⟩ = some (.slice B1 m1 cb1) := cell_set (cell_far (by simp) x3)
      refine bodyPost_ret (v := .agg #[.slice A1 n1 ca1, .slice B1 m1 cb1]) (by simp [results, Tryz.results30, go_sem, s0, s1]) rfl ?_
      have hc1 := HC.out.mono hb1
      refine ⟨_, rfl, ((HB.out.trans (hb1.mono (by omega))).setCell (p := ⟨w.heap.size + 1, 0, none⟩) (by simp) _).setCell (p := ⟨w.heap.size + 1, 1, none⟩) (by simp) _, _, _, _, _, _, _, rfl, ?_⟩
      have ec : compactC c = c' := by
        rcases HCASE.out with ⟨_, e⟩ | ⟨_, e, h2⟩
        · unfold compactC; rw [← e, if_pos HCC.out]
        · unfold compactC; rw [if_neg (by rw [h2]; simp), e]
      rw [ec]
      exact ⟨(hc1.v.setO (HO1.out.imp fun b h => h.2) _).setO (HO1.out.imp fun b h => h.2) _, (hc1.k.setO (HO2.out.imp fun b h => h.2) _).setO (HO2.out.imp fun b h => h.2) _⟩
    | false =>
      rw [hcc] at f
      have hcc' : c' = c := by
        rcases HCASE.out with ⟨_, h⟩ | ⟨_, e, _⟩
        · exact h
        · rw [e, HP.out] at hcc; cases hcc
      have hu5 : u5 = undef := by
        rcases HCASE.out with ⟨h, _⟩ | ⟨_, e, _⟩
        · exact h
        · rw [e, HP.out] at hcc; cases hcc
      subst hcc'; subst hu5
      have F := Lib.hid f; have HCC := Lib.hid hcc; clear f hcc HCASE
      have V0 := Lib.hid v0; have V1 := Lib.hid v1
      go_wp2_with (go_at_call 55; ((with_reducible refine F.out.mono ?_); rintro e w1 ⟨_, rfl, hb1, rfl⟩; have x0 := cellKeep hb1 V0.out; have x1 := cellKeep hb1 V1.out))
      have hc1 := HC.out.mono hb1
      have hbw := HB.out.trans (hb1.mono (by omega))
      have x2 := Lib.hid (cellKeep hb1 Y0.out); have x3 := Lib.hid (cellKeep hb1 Y1.out)
      have x4 := Lib.hid (fun o => (hb1.frozen (p := ⟨w.heap.size + 1, o, none⟩) hz).trans (YF.out o))
      have x5 := Lib.hid (fun o => (hb1.frozen (p := ⟨w.heap.size, o, none⟩) (show w.heap.size < _ by omega)).trans (ZF.out o))
      have hz1 : w.heap.size + 1 < w1.heap.size := World.block_lt_of_cell? w1 _ x2.out
      have hmx := hc1.k.big
      have X0 := Lib.hid x0; have X1 := Lib.hid x1; have HC1 := Lib.hid hc1; have HBW := Lib.hid hbw
      clear F HC HB Y0 Y1 ZF YF V0 V1 v0 v1 x0 x1 hc1 hbw hb1 hz
      go_loopw [3, 4, 5] (fun o v i w2 => PassRel (Far w.heap.size) w1 m1 n1 (c'.1, []) c'.2 o v i w2) (fun _ _ i _ => m1 - (intOf i).toNat)
      case atStart => exact ⟨0, A1, n1, ca1, (c'.1, []), rfl, by omega, rfl, Below.refl _ _, HC1.out.v, HO1.out.imp (fun b h => ⟨h, by simp [Value.ownBlock]⟩), Row.nil_ _ _, by show c'.1.length ≤ n1 + 0; have := HC1.out.v.len; omega, Nat.le_refl _, by have := HV.out; unfold validC validV at this; simp at this; exact this.1.2, rfl⟩
      case round =>
        obtain ⟨k, A2, n2, c2, s, rfl, hk, rfl, hb2, hd, ho, hr, hl1, hl2, hvl, hf⟩ := hrel
        have v0 := cellKeep hb2 X0.out
        have v1 := cellKeep hb2 X1.out
        have hzr : w.heap.size + 1 < wr.heap.size := Nat.lt_of_lt_of_le hz1 hb2.size
        have HR := Lib.hid hr; have HF := Lib.hid hf; have HO := Lib.hid ho; have L1 := Lib.hid hl1; have L2 := Lib.hid hl2; have VL := Lib.hid hvl; have HD := Lib.hid hd; have HB2 := Lib.hid hb2
        clear hr hf ho hl1 hl2 hvl hd
        by_cases hlt : k < m1
        · obtain ⟨b, o, p, q, rfl, hbk, e0, d1, k1, k2⟩ := (HC1.out.k.mono hb2).at_ (k := k) hlt
          have hmem := List.mem_of_getElem? e0
          have D1 := Lib.hid d1; have HM := Lib.hid hmem
          clear d1 e0 hmem
          have b1 : Below wr.heap.size wr (wr.alloc (.cells #[.int .i64 p, .int .i64 q] 38)) := by go_grown
          have k3 : (wr.alloc (.cells #[.int .i64 p, .int .i64 q] 38)).cell? ⟨wr.heap.size, 0, none⟩ = some (.int .i64 p) := by simp [go_sem]
          have k4 : (wr.alloc (.cells #[.int .i64 p, .int .i64 q] 38)).cell? ⟨wr.heap.size, 1, none⟩ = some (.int .i64 q) := by simp [go_sem]
          have f1 := hasv56 p q A2 n2 c2 s.1 _ (HD.out.mono b1)
          have B1' := Lib.hid b1; have K3 := Lib.hid k3; have K4 := Lib.hid k4
          clear b1 k3 k4
          cases hh : hasV s.1 (p, q) with
          | true =>
            rw [hh] at f1
            have F1 := Lib.hid f1; have HH := Lib.hid hh; clear f1 hh
            go_wp2_with (go_at_call 56; ((with_reducible refine F1.out.mono ?_); rintro e w2 ⟨_, rfl, hb3, rfl⟩))
            go_roundw
            case rel => exact ⟨k + 1, A2, n2, c2, s, by simp, hlt, rfl, (HB2.out.le B1'.out).le hb3, (HD.out.mono B1'.out).mono hb3, HO.out, Row.mono (Row.mono HR.out B1'.out) hb3, by have := L1.out; omega, by have := L2.out; omega, VL.out, by rw [HF.out, D1.out, List.foldl_cons, stepC, if_pos HH.out]⟩
            case measure => simp [intOf]; omega
          | false =>
            rw [hh] at f1
            have F1 := Lib.hid f1; have HH := Lib.hid hh; clear f1 hh
            have hsm : Small n2 := by have := hs.out; have := HL.out; have := HK.out; have := HD.out.len; have := L1.out; have := HC1.out.v.len; have := HC1.out.k.len; unfold Small; omega
            have hvd : validD (p, q) = true := validC_mem HV.out HM.out
            cases hq : (q == IntKind.i64.wrap (getV s.1 p + 1)) with
            | true =>
              have HQ := Lib.hid hq; clear hq
              go_wp2_with (go_at_call 56; ((with_reducible refine F1.out.mono ?_); rintro e w2 ⟨_, rfl, hb3, rfl⟩))
              have K32 := Lib.hid (cellKeep hb3 K3.out); have K42 := Lib.hid (cellKeep hb3 K4.out)
              have HD2 := Lib.hid ((HD.out.mono B1'.out).mono hb3); have HR2 := Lib.hid (Row.mono (Row.mono HR.out B1'.out) hb3); have HB3 := Lib.hid ((HB2.out.le B1'.out).le hb3)
              clear F1 HD HR HB2 hb3 K3 K4 B1'
              refine wp_region_M mixed (by kernel_rfl) ?_
              refine MDerR.step (Ob.fieldV Wanted.free Has.oldIs (fun w1 => field_dot1)) ?_
              refine MDerR.step (Ob.loadV Wanted.free (Has.new 0 0) (fun w1 hb1 => load_int hb1 K42.out)) ?_
              refine MDerR.step (Ob.move Wanted.free Has.oldIs) ?_
              refine MDerR.step (Ob.fieldV Wanted.free Has.oldIs (fun w1 => field_dot0)) ?_
              refine MDerR.step (Ob.loadV Wanted.free (Has.new 3 0) (fun w1 hb1 => load_int hb1 K32.out)) ?_
              refine MDerR.step (Ob.call2V Wanted.free entersRGet (Has.new 2 2) (Has.new 4 0) (fun w1 hb1 => rget A2 n2 c2 s.1 p w1 (HD2.out.mono hb1))) ?_
              refine MDerR.step (Ob.binV Wanted.free (Has.new 5 0) (Has.cst _) (fun w1 => int_add _ rfl)) ?_
              refine MDerR.step (Ob.binV Wanted.free (Has.new 1 5) (Has.new 6 0) (fun w1 => int_eql true HQ.out)) ?_
              refine MDerR.step (Ob.assign Wanted.free (Has.new 7 0)) ?_
              simp only [MDerR, dstsOf, List.map, EndM, List.reverse_cons, List.reverse_nil, List.nil_append, List.cons_append]
              intro wE hE
              iterate 9 (rintro _ rfl)
              simp only [Act.put, List.setIfInBounds_toArray, List.set_cons_zero, List.set_cons_succ]
              have y3 := cellKeep hE K32.out; have y4 := cellKeep hE K42.out
              have F3 := Lib.hid (rraise (fun b => Far w.heap.size b ∧ u3.ownBlock ≠ some b) p q A2 n2 c2 s.1 wE (HD2.out.mono hE) hsm (fun b hb => by have := hE.size; have := HB3.out.size; exact ⟨⟨by omega, by omega⟩, fun e => by have := (World.ownsRow.lt HR2.out b e).2; omega⟩) HO.out)
              go_wp2_with (go_at_call 58; ((with_reducible refine F3.out.mono ?_); rintro e w3 ⟨_, rfl, hb4, A3, n3, c3, rfl, hd3, ho3⟩))
              go_roundw
              case rel => exact ⟨k + 1, A3, n3, c3, (raiseV s.1 (p, q), s.2), by simp, hlt, rfl, (HB3.out.le hE).le hb4, hd3, ho3, Row.mono (Row.mono HR2.out hE) hb4, by have := raiseV_length s.1 (p, q); have := L1.out; show (raiseV s.1 (p, q)).length ≤ _; omega, by have := L2.out; show s.2.length ≤ _; omega, raiseV_validL _ hvd _ VL.out, by rw [HF.out, D1.out, List.foldl_cons, stepC, if_neg (by rw [HH.out]; simp), if_pos (by rw [← getV_wrap VL.out]; exact HQ.out)]⟩
              case measure => simp [intOf]; omega
            | false =>
              have HQ := Lib.hid hq; clear hq
              go_wp2_with (go_at_call 56; ((with_reducible refine F1.out.mono ?_); rintro e w2 ⟨_, rfl, hb3, rfl⟩))
              have K32 := Lib.hid (cellKeep hb3 K3.out); have K42 := Lib.hid (cellKeep hb3 K4.out)
              have HD2 := Lib.hid ((HD.out.mono B1'.out).mono hb3); have HR2 := Lib.hid (Row.mono (Row.mono HR.out B1'.out) hb3); have HB3 := Lib.hid ((HB2.out.le B1'.out).le hb3)
              clear F1 HD HR HB2 hb3 K3 K4 B1'
              refine wp_region_M mixed (by kernel_rfl) ?_
              refine MDerR.step (Ob.fieldV Wanted.free Has.oldIs (fun w1 => field_dot1)) ?_
              refine MDerR.step (Ob.loadV Wanted.free (Has.new 0 0) (fun w1 hb1 => load_int hb1 K42.out)) ?_
              refine MDerR.step (Ob.move Wanted.free Has.oldIs) ?_
              refine MDerR.step (Ob.fieldV Wanted.free Has.oldIs (fun w1 => field_dot0)) ?_
              refine MDerR.step (Ob.loadV Wanted.free (Has.new 3 0) (fun w1 hb1 => load_int hb1 K32.out)) ?_
              refine MDerR.step (Ob.call2V Wanted.free entersRGet (Has.new 2 2) (Has.new 4 0) (fun w1 hb1 => rget A2 n2 c2 s.1 p w1 (HD2.out.mono hb1))) ?_
              refine MDerR.step (Ob.binV Wanted.free (Has.new 5 0) (Has.cst _) (fun w1 => int_add _ rfl)) ?_
              refine MDerR.step (Ob.binV Wanted.free (Has.new 1 5) (Has.new 6 0) (fun w1 => int_eql false HQ.out)) ?_
              refine MDerR.step (Ob.assign Wanted.free (Has.new 7 0)) ?_
              simp only [MDerR, dstsOf, List.map, EndM, List.reverse_cons, List.reverse_nil, List.nil_append, List.cons_append]
              intro wE hE
              iterate 9 (rintro _ rfl)
              simp only [Act.put, List.setIfInBounds_toArray, List.set_cons_zero, List.set_cons_succ]
              have y3 := cellKeep hE K32.out; have y4 := cellKeep hE K42.out
              have hE2 : Below wE.heap.size wE (wE.alloc (.cells #[.int .i64 p, .int .i64 q] 38)) := by go_grown
              have HE2 := Lib.hid hE2; clear hE2
              have hz2 := (HB3.out.le hE).size
              go_wp2_with (at_builtin; refine wpList_appO (B := w1.heap.size) rfl rfl Tryz.underlying22 rfl rfl (Row.mono (Row.mono HR2.out hE) HE2.out) (Dots.one _ _ _) (by have := hs.out; have := L2.out; have := HC1.out.k.len; have := HK.out; simp; omega) (by simp; omega) ?_; intro v' w' hr' hg' hown; simp only [Act.put, List.setIfInBounds_toArray, List.set_cons_zero, List.set_cons_succ])
              go_roundw
              case rel => exact ⟨k + 1, A2, n2, c2, (s.1, s.2 ++ [(p, q)]), by simp, hlt, rfl, ((HB3.out.le hE).le HE2.out).grown hg' (by simp; omega) (fun q hq => Row.own _ HR2.out q hq), ((HD2.out.mono hE).mono HE2.out).grownO hg' (HO.out.imp fun b h e => h.2 e.symm), (fun hl a ha => ⟨(HO.out hl a ha).1, fun e => by
                rcases hown _ e with h | h
                · exact (HO.out hl a ha).2 h
                · have := HD2.out.lt hl a ha; have := hE.size; simp at h; omega⟩), hr', by have := L1.out; show s.1.length ≤ _; omega, by have := L2.out; show (s.2 ++ [(p, q)]).length ≤ _; simp; omega, VL.out, by rw [HF.out, D1.out, List.foldl_cons, stepC, if_neg (by rw [HH.out]; simp), if_neg (by rw [← getV_wrap VL.out, HQ.out]; simp)]⟩
              case measure => simp [intOf]; omega
        · rw [List.drop_of_length_le (by rw [← HC1.out.k.len]; omega)] at HF
          have X2 := cellKeep hb2 x2.out; have X3 := cellKeep hb2 x3.out
          have zz0 := (hb2.frozen (p := ⟨w.heap.size, 0, none⟩) (show w.heap.size < _ by omega)).trans (x5.out 0)
          have zz1 := (hb2.frozen (p := ⟨w.heap.size, 1, none⟩) (show w.heap.size < _ by omega)).trans (x5.out 1)
          have zf : ∀ o, wr.frozen? ⟨w.heap.size, o, none⟩ = false := fun o => (hb2.frozen (p := ⟨w.heap.size, o, none⟩) (show w.heap.size < _ by omega)).trans (x5.out o)
          have yf : ∀ o, wr.frozen? ⟨w.heap.size + 1, o, none⟩ = false := fun o => (hb2.frozen (p := ⟨w.heap.size + 1, o, none⟩) hz1).trans (x4.out o)
          have XX2 := Lib.hid X2; have XX3 := Lib.hid X3; have ZF := Lib.hid zf; have YF := Lib.hid yf
          obtain ⟨A3, c3, e3, hd3⟩ := Row.dots HR.out
          subst e3
          have hoR : Off (Far w.heap.size) A3 s.2 := fun _ a ha => by have := Row.from_ HR.out a ha; exact ⟨by omega, by omega⟩
          have HD3 := Lib.hid hd3; have HOR := Lib.hid hoR
          clear hd3 hoR X2 X3 zf yf
          go_wp2
          go_roundw
          case rel =>
            have hpas : passC c' = s := by unfold passC; exact HF.out
            have hoA := HO.out.imp fun b h => h.1
            have hoN : Off (· ≠ w.heap.size) A2 s.1 := hoA.imp fun b h => h.1
            have hoM : Off (· ≠ w.heap.size) A3 s.2 := HOR.out.imp fun b h => h.1
            refine ⟨A2, A3, n2, c2, _, c3, s, ((HBW.out.trans (HB2.out.mono (by omega))).setCell (p := ⟨w.heap.size, 0, none⟩) (Nat.le_refl _) _).setCell (p := ⟨w.heap.size, 1, none⟩) (Nat.le_refl _) _, by simpa using hzr, ?_, ?_, ⟨_, cell_far (by simp) (cell_far (by simp) XX2.out)⟩, ⟨_, cell_far (by simp) (cell_far (by simp) XX3.out)⟩, ?_, ?_, ⟨(HD.out.setO hoN _).setO hoN _, (HD3.out.setO hoM _).setO hoM _⟩, hoA, HOR.out, .inr ⟨⟨_, rfl⟩, hpas.symm, HCC.out⟩⟩
            · exact cell_far (by simp) (cell_set v0)
            · exact cell_set (cell_far (by simp) v1)
            · intro o; have := ZF.out o; simpa [World.frozen?_setCell] using this
            · intro o; have := YF.out o; simpa [World.frozen?_setCell] using this
          case measure => simp [notYet, undef]
end Go.Proofs.YtdngechnelemlaaGreat

/-
  The reference's Size and Add.
-/
namespace Go.Proofs.YtdngechnelemlaaGreat
open Go.RowKit

def addU (s : Int) (d : Dot) : Int := IntKind.u64.wrap (s + IntKind.u64.wrap d.2)
def oneU (v : List Dot) (s : Int) (d : Dot) : Int := if hasV v d then s else IntKind.u64.wrap (s + 1)
def sizeR (c : Ctx) : Int := c.2.foldl (oneU c.1) (c.1.foldl addU 0)

def SumRel (f : Int → Dot → Int) (w : World) (n : Nat) (l : List Dot) (s0 : Int) (o i : Value) (wr : World) : Prop :=
  ∃ (k : Nat) (s : Int), i = .int .i64 k ∧ k ≤ n ∧ o = .int .u64 s ∧ Below w.heap.size w wr ∧ l.foldl f s0 = (l.drop k).foldl f s

section
variable {ops : List Oper} {Fs : List VT} {w0 : World} {a0 : Act} {i : Nat} {d : Option Tmp} {ty : TypeId} {pos : String} {after : Array Edge} {g : Option (Nat × Bool)}
theorem Ob.mkConD {x y : Operand} {A : Option Addr} {n ca : Nat} {l k : List Dot} (hw : Wanted ops Fs w0 a0 i ⟨d, .build 25 #[(0, x), (1, y)], ty, pos, after, g⟩) (hx : Has ops Fs w0 a0 i ⟨d, .build 25 #[(0, x), (1, y)], ty, pos, after, g⟩ x (Is (.slice A n ca))) (hy : Has ops Fs w0 a0 i ⟨d, .build 25 #[(0, x), (1, y)], ty, pos, after, g⟩ y (IsDots k))
    (h : ∀ w, Below w0.heap.size w0 w → Dots w A n ca l) : Ob Tryz.prog ops Fs w0 a0 i ⟨d, .build 25 #[(0, x), (1, y)], ty, pos, after, g⟩ (IsCon (l, k)) :=
  Ob.stay hw fun a w cx => by
    have e1 : a.eval x = .slice A n ca := hx a w cx
    obtain ⟨B, m, cb, e2, d2⟩ := hy a w cx
    refine ⟨.agg #[.slice A n ca, .slice B m cb], ?_, A, n, ca, B, m, cb, rfl, h w cx.le, d2⟩
    generalize a.eval = ρ at e1 e2
    simp [execOp, e1, e2, go_sem]
end
/-- No integer lies in a block. -/
def NoInt (w : World) (N : Nat) : Prop := ∀ o x, w.cell? ⟨N, o, none⟩ ≠ some (.int .i64 x)
theorem NoInt.mono {w w' : World} {N : Nat} (h : NoInt w N) (hb : Below w.heap.size w w') (hN : N < w.heap.size) : NoInt w' N := fun o x e => h o x ((hb.cell (p := ⟨N, o, none⟩) hN).symm.trans e)
theorem NoInt.box (w : World) (A B : Option Addr) (n ca m cb : Nat) : NoInt (w.alloc (conBox A n ca B m cb)) w.heap.size := by
  intro o x h
  match o with
  | 0 => simp [go_sem] at h
  | 1 => simp [go_sem] at h
  | o + 2 =>
    have e := heap_alloc_new w (conBox A n ca B m cb)
    unfold World.cell? at h
    simp only [e] at h
    simp at h
theorem NoInt.box2 (w : World) (A B C D : Option Addr) (n ca m cb k ck j cj : Nat) : NoInt ((w.alloc (conBox A n ca B m cb)).alloc (conBox C k ck D j cj)) (w.heap.size + 1) := by
  have := NoInt.box (w.alloc (conBox A n ca B m cb)) C D k ck j cj
  simpa using this
theorem Dots.noInt {w : World} {A : Option Addr} {n c N : Nat} {l : List Dot} (h : Dots w A n c l) (hN : NoInt w N) : Off (· ≠ N) A l := by
  intro hl a ha e
  cases l with
  | nil => exact hl rfl
  | cons d t =>
    obtain ⟨b, o, e', _, h1, _⟩ := h.cell 0 d rfl
    rw [ha] at e'; cases e'
    simp only at e; subst e
    exact hN _ _ h1
theorem entersUnion : Enters Tryz.prog 32 := enters_of Tryz.func32 (by kernel_rfl) rfl
theorem entersCompactR : Enters Tryz.prog 30 := enters_of Tryz.func30 (by kernel_rfl) rfl

def addC (c : Ctx) (l : List Dot) : Ctx := compactC (c.1, unionD c.2 l)
theorem foldWith_length : ∀ (b a : List Dot), (b.foldl withD a).length ≤ a.length + b.length
  | [], a => Nat.le_refl _
  | d :: t, a => by
    have := foldWith_length t (withD a d)
    have := withD_length a d
    simp only [List.foldl_cons, List.length_cons]; omega
theorem unionD_length (a b : List Dot) : (unionD a b).length ≤ a.length + b.length := by
  unfold unionD
  have := foldWith_length b (a.foldl withD [])
  have := foldWith_length a []
  simp at *; omega

end Go.Proofs.YtdngechnelemlaaGreat
