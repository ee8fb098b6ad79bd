/-
  ContextMakes: for any context and any list of dots, with no further condition, the law returns true, and its arguments read afterwards as they read before.
-/
import Derived.Test.YtdngechnelemlaaWL
import Derived.Test.YtdngechnelemlaaWM
namespace Go.Proofs.Ytdngechnelemlaa
open Go.RowKit

theorem isNil (w : World) : IsCon ([], []) w (.agg #[.slice none 0 0, .slice none 0 0]) := ⟨none, 0, 0, none, 0, 0, rfl, ⟨Dots.nil_, Dots.nil_⟩⟩
theorem addR_no {c : Ctx} {l : List Dot} (h : (validC c && validL l) = false) : (eqC (addR c l).1 ([], []) && ((addR c l).2 == 2)) = true := by
  unfold addR
  rw [if_neg (by rw [h]; simp)]
  rfl
theorem addR_yes {c : Ctx} {l : List Dot} (h1 : validC c = true) (h2 : validL l = true) : (eqC (addR c l).1 (addC c l) && ((addR c l).2 == 0)) = true := by
  unfold addR
  rw [if_pos (by rw [h1, h2]; rfl)]
  simp [eqC_self]
theorem own_con {b : Nat} {c : Ctx} {w : World} {v : Value} (h : IsConO b c w v) : IsCon c w v := h.con

set_option maxRecDepth 100000 in
set_option maxHeartbeats 8000000 in
theorem lawMakes (A B C : Option Addr) (n ca m cb k ck : Nat) (c : Ctx) (l : List Dot) (w : World) (h : Con w A n ca B m cb c) (hl : Dots w C k ck l) :
    Calls Try.prog 5 #[.agg #[.slice A n ca, .slice B m cb], .slice C k ck] w (Ret w (IsB true)) := by
  have hb0 : Below w.heap.size w (w.alloc (conBox A n ca B m cb)) := by go_grown
  have y0 : (w.alloc (conBox A n ca B m cb)).cell? ⟨w.heap.size, 0, none⟩ = some (.slice A n ca) := by simp [go_sem]
  have y1 : (w.alloc (conBox A n ca B m cb)).cell? ⟨w.heap.size, 1, none⟩ = some (.slice B m cb) := by simp [go_sem]
  have hk := hl.big
  have H0 := Lib.hid (h.mono hb0); have L0 := Lib.hid (hl.mono hb0); have HB := Lib.hid hb0; have Y0 := Lib.hid y0; have Y1 := Lib.hid y1
  have LK := Lib.hid hl.len; have LN := Lib.hid h.v.len; have LM := Lib.hid h.k.len
  clear hb0 y0 y1 h hl
  have F := Lib.hid (lightI ⟨A, n, ca, B, m, cb, rfl, H0.out⟩ (lightB c) rfl)
  cases hg : lightB c with
  | false =>
    rw [hg] at F
    clear hg
    go_enter Try.func5, Try.ntmps5
    go_wp2_with fail
    refine F.out.mono ?_
    rintro _ w1 ⟨_, rfl, hb1, rfl⟩
    have HBK := Lib.hid (HB.out.le hb1)
    clear hb1 F
    go_wp2_with fail
    refine (known_ _).mono ?_
    rintro _ w9 ⟨_, rfl, hb9, rfl⟩
    have HB9 := Lib.hid (HBK.out.le hb9)
    clear hb9
    go_wp2
    go_ret
    exact retB rfl HB9.out
  | true =>
    rw [hg] at F
    have HG := Lib.hid (lightB_len hg)
    clear hg
    by_cases hk40 : k ≤ 40
    case neg =>
      have hd : decide ((40 : Int) < (k : Int)) = true := by rw [decide_eq_true_iff]; omega
      go_enter Try.func5, Try.ntmps5
      go_wp2_with fail
      refine F.out.mono ?_
      rintro _ w1 ⟨_, rfl, hb1, rfl⟩
      have HBK := Lib.hid (HB.out.le hb1)
      clear hb1 F
      go_wp2_with fail
      refine (known_ _).mono ?_
      rintro _ w9 ⟨_, rfl, hb9, rfl⟩
      have HB9 := Lib.hid (HBK.out.le hb9)
      clear hb9
      go_wp2
      go_ret
      exact retB rfl HB9.out
    have hd : decide ((40 : Int) < (k : Int)) = false := by rw [decide_eq_false_iff_not]; omega
    have hll : l.length ≤ 1000 := by rw [← LK.out]; omega
    have hcc : c.1.length + c.2.length ≤ 1000 := by have := HG.out; omega
    have HLL := Lib.hid hll; have HCC := Lib.hid hcc
    clear hll hcc
    cases hvl : validL l with
    | false =>
      have A1 := Lib.hid (addR_no (c := ([], [])) (l := l) (by rw [hvl]; rfl)); have A2 := Lib.hid (addR_no (c := c) (l := l) (by rw [hvl]; simp))
      have HVL := Lib.hid hvl
      clear hvl
      go_enter Try.func5, Try.ntmps5
      go_wp2_with fail
      refine F.out.mono ?_
      rintro _ w1 ⟨_, rfl, hb1, rfl⟩
      have L1 := Lib.hid (L0.out.mono hb1); have HB1 := Lib.hid hb1
      clear hb1 F
      go_wp2_with fail
      refine (rdotsI ⟨C, k, ck, rfl, L1.out⟩ false HVL.out).mono ?_
      rintro _ w2 ⟨_, rfl, hb2, rfl⟩
      have L2 := Lib.hid (L1.out.mono hb2); have HB2 := Lib.hid (HB1.out.le hb2)
      clear hb2 L1 HB1
      go_wp2_with fail
      refine (lmadeI ⟨C, k, ck, rfl, L2.out⟩ (isNil w2) rfl HLL.out true A1.out).mono ?_
      rintro _ w3 ⟨_, rfl, hb3, rfl⟩
      have L3 := Lib.hid (L2.out.mono hb3); have HB3 := Lib.hid (HB2.out.le hb3)
      have x0 := cellKeep HB3.out Y0.out; have x1 := cellKeep HB3.out Y1.out
      clear hb3 L2 HB2
      go_wp2_with fail
      refine (laddedI ⟨A, n, ca, B, m, cb, rfl, H0.out.mono HB3.out⟩ ⟨C, k, ck, rfl, L3.out⟩ (isNil w3) rfl HCC.out HLL.out true A2.out).mono ?_
      rintro _ w4 ⟨_, rfl, hb4, rfl⟩
      have HBK := Lib.hid (HB.out.le (HB3.out.le hb4))
      clear hb4 L3 HB3 x0 x1
      go_wp2_with fail
      refine (known_ _).mono ?_
      rintro _ w9 ⟨_, rfl, hb9, rfl⟩
      have HB9 := Lib.hid (HBK.out.le hb9)
      clear hb9
      go_wp2
      go_ret
      exact retB rfl HB9.out
    | true =>
      have A1 := Lib.hid (addR_yes (c := ([], [])) (l := l) rfl hvl)
      have HVL := Lib.hid hvl
      clear hvl
      cases hvc : validC c with
      | false =>
        have A2 := Lib.hid (addR_no (c := c) (l := l) (by rw [hvc]; simp))
        have HVC := Lib.hid hvc
        clear hvc
        go_enter Try.func5, Try.ntmps5
        go_wp2_with fail
        refine F.out.mono ?_
        rintro _ w1 ⟨_, rfl, hb1, rfl⟩
        have L1 := Lib.hid (L0.out.mono hb1); have HB1 := Lib.hid hb1
        clear hb1 F
        go_wp2_with fail
        refine (rdotsI ⟨C, k, ck, rfl, L1.out⟩ true HVL.out).mono ?_
        rintro _ w2 ⟨_, rfl, hb2, rfl⟩
        have L2 := Lib.hid (L1.out.mono hb2); have HB2 := Lib.hid (HB1.out.le hb2)
        clear hb2 L1 HB1
        go_wp2_with fail
        refine (raddI (isNil w2) ⟨C, k, ck, rfl, L2.out⟩ (by simp) HLL.out rfl HVL.out).mono ?_
        rintro _ w3 ⟨v3, rfl, hb3, hv3⟩
        have L3 := Lib.hid (L2.out.mono hb3); have HB3 := Lib.hid (HB2.out.le hb3); have V3 := Lib.hid hv3
        clear hb3 L2 HB2 hv3
        go_wp2_with fail
        refine (lmadeI ⟨C, k, ck, rfl, L3.out⟩ V3.out rfl HLL.out true A1.out).mono ?_
        rintro _ w4 ⟨_, rfl, hb4, rfl⟩
        have L4 := Lib.hid (L3.out.mono hb4); have HB4 := Lib.hid (HB3.out.le hb4)
        have x0 := cellKeep HB4.out Y0.out; have x1 := cellKeep HB4.out Y1.out
        clear hb4 L3 HB3 V3
        go_wp2_with fail
        refine (rvalidI ⟨A, n, ca, B, m, cb, rfl, H0.out.mono HB4.out⟩ false HVC.out).mono ?_
        rintro _ w5 ⟨_, rfl, hb5, rfl⟩
        have L5 := Lib.hid (L4.out.mono hb5); have HB5 := Lib.hid (HB4.out.le hb5)
        clear hb5 L4 HB4 x0 x1
        have x0 := cellKeep HB5.out Y0.out; have x1 := cellKeep HB5.out Y1.out
        go_wp2_with fail
        refine (laddedI ⟨A, n, ca, B, m, cb, rfl, H0.out.mono HB5.out⟩ ⟨C, k, ck, rfl, L5.out⟩ (isNil w5) rfl HCC.out HLL.out true A2.out).mono ?_
        rintro _ w6 ⟨_, rfl, hb6, rfl⟩
        have HBK := Lib.hid (HB.out.le (HB5.out.le hb6))
        clear hb6 L5 HB5 x0 x1
        go_wp2_with fail
        refine (known_ _).mono ?_
        rintro _ w9 ⟨_, rfl, hb9, rfl⟩
        have HB9 := Lib.hid (HBK.out.le hb9)
        clear hb9
        go_wp2
        go_ret
        exact retB rfl HB9.out
      | true =>
        have A2 := Lib.hid (addR_yes (c := c) (l := l) hvc HVL.out)
        have HVC := Lib.hid hvc
        clear hvc
        go_enter Try.func5, Try.ntmps5
        go_wp2_with fail
        refine F.out.mono ?_
        rintro _ w1 ⟨_, rfl, hb1, rfl⟩
        have L1 := Lib.hid (L0.out.mono hb1); have HB1 := Lib.hid hb1
        clear hb1 F
        go_wp2_with fail
        refine (rdotsI ⟨C, k, ck, rfl, L1.out⟩ true HVL.out).mono ?_
        rintro _ w2 ⟨_, rfl, hb2, rfl⟩
        have L2 := Lib.hid (L1.out.mono hb2); have HB2 := Lib.hid (HB1.out.le hb2)
        clear hb2 L1 HB1
        go_wp2_with fail
        refine (raddI (isNil w2) ⟨C, k, ck, rfl, L2.out⟩ (by simp) HLL.out rfl HVL.out).mono ?_
        rintro _ w3 ⟨v3, rfl, hb3, hv3⟩
        have L3 := Lib.hid (L2.out.mono hb3); have HB3 := Lib.hid (HB2.out.le hb3); have V3 := Lib.hid hv3
        clear hb3 L2 HB2 hv3
        go_wp2_with fail
        refine (lmadeI ⟨C, k, ck, rfl, L3.out⟩ V3.out rfl HLL.out true A1.out).mono ?_
        rintro _ w4 ⟨_, rfl, hb4, rfl⟩
        have L4 := Lib.hid (L3.out.mono hb4); have HB4 := Lib.hid (HB3.out.le hb4)
        have x0 := cellKeep HB4.out Y0.out; have x1 := cellKeep HB4.out Y1.out
        clear hb4 L3 HB3 V3
        go_wp2_with fail
        refine (rvalidI ⟨A, n, ca, B, m, cb, rfl, H0.out.mono HB4.out⟩ true HVC.out).mono ?_
        rintro _ w5 ⟨_, rfl, hb5, rfl⟩
        have L5 := Lib.hid (L4.out.mono hb5); have HB5 := Lib.hid (HB4.out.le hb5)
        clear hb5 L4 HB4 x0 x1
        have x0 := cellKeep HB5.out Y0.out; have x1 := cellKeep HB5.out Y1.out
        go_wp2_with fail
        refine (lown A B n ca m cb c w5 (H0.out.mono HB5.out) (by have := HG.out; have := LN.out; unfold Small; omega) (by have := HG.out; have := LM.out; unfold Small; omega)).mono ?_
        rintro _ w6 ⟨_, rfl, hb6, A6, n6, c6, B6, m6, d6, rfl, hc6, _, _⟩
        have L6 := Lib.hid (L5.out.mono hb6); have HB6 := Lib.hid (HB5.out.le hb6); have C6 := Lib.hid hc6
        clear hb6 L5 HB5 x0 x1 hc6
        go_wp2_with (at_builtin; refine wpList_app (B := w6.heap.size) (v := .slice none 0 0) (l := []) (k := l) rfl rfl Try.underlying22 rfl rfl (Row.nil_ _ _) L6.out (by have := HLL.out; simp; omega) (Nat.le_refl _) ?_; intro v7 w7 hr7 hg7; obtain ⟨E, j, cj, ev, hd7⟩ := IsRow.dots hr7; subst ev; have hb7 : Below w6.heap.size w6 w7 := (Below.refl _ _).grown hg7 (Nat.le_refl _) (fun q hq => by simp [Value.ownBlock] at hq); have L7 := Lib.hid (L6.out.mono hb7); have HB7 := Lib.hid (HB6.out.le hb7); have C7 := Lib.hid (C6.out.mono hb7); have D7 := Lib.hid (show Dots w7 E j cj l from hd7); clear hr7 hg7 hd7 hb7 L6 HB6 C6; simp only [Act.put, List.setIfInBounds_toArray, List.set_cons_zero, List.set_cons_succ])
        have hal : Below w7.heap.size w7 (w7.alloc (conBox A6 n6 c6 B6 m6 d6)) := (Below.refl _ _).alloc (Nat.le_refl _) _
        have q0 : (w7.alloc (conBox A6 n6 c6 B6 m6 d6)).cell? ⟨w7.heap.size, 0, none⟩ = some (.slice A6 n6 c6) := by simp [go_sem]
        have q1 : (w7.alloc (conBox A6 n6 c6 B6 m6 d6)).cell? ⟨w7.heap.size, 1, none⟩ = some (.slice B6 m6 d6) := by simp [go_sem]
        have hb8 := HB7.out.le hal
        have Q0 := Lib.hid q0; have Q1 := Lib.hid q1; have X0 := Lib.hid (cellKeep hb8 Y0.out); have X1 := Lib.hid (cellKeep hb8 Y1.out)
        have C8 := Lib.hid (C7.out.mono hal); have D8 := Lib.hid (D7.out.mono hal); have L8 := Lib.hid (L7.out.mono hal); have H8 := Lib.hid (H0.out.mono hb8)
        have HB8 := Lib.hid (HB.out.le hb8)
        clear hal q0 q1 hb8 C7 D7 L7 HB7
        refine wp_region_M mixed (by kernel_rfl) ?_
        refine MDerR.step (Ob.load (F := IsCon c) Wanted.free Has.oldIs (fun w1 v hb1 hv => ⟨_, by rw [show v = _ from hv]; exact load_con hb1 Q0.out Q1.out, A6, n6, c6, B6, m6, d6, rfl, C8.out.mono hb1⟩)) ?_
        refine MDerR.step (Ob.move Wanted.free Has.oldIs) ?_
        refine MDerR.step (Ob.load (F := IsCon c) Wanted.free Has.oldIs (fun w1 v hb1 hv => ⟨_, by rw [show v = _ from hv]; exact load_con hb1 X0.out X1.out, A, n, ca, B, m, cb, rfl, H8.out.mono hb1⟩)) ?_
        refine MDerR.step (Ob.move Wanted.free Has.oldIs) ?_
        refine MDerR.step (Ob.call2 Wanted.free entRAdd (Has.new 2 1) (Has.new 3 0) (fun w1 u v hb1 (hu : IsCon c w1 u) (hv : Is (.slice C k ck) w1 v) => raddI hu ⟨C, k, ck, hv, L8.out.mono hb1⟩ HCC.out HLL.out HVC.out HVL.out)) ?_
        refine MDerR.step (Ob.call4 Wanted.free entLadded (Has.new 0 4) (Has.new 1 3) (Has.new 4 0) (Has.cst _) (fun w1 q u v s hb1 (hq : IsCon c w1 q) (hu : Is (.slice E j cj) w1 u) (hv : IsCon (addC c l) w1 v) (hs : IsI 0 w1 s) => laddedI hq ⟨E, j, cj, hu, D8.out.mono hb1⟩ hv hs HCC.out HLL.out true A2.out)) ?_
        refine MDerR.step (Ob.move Wanted.free (Has.new 5 0)) ?_
        refine MDerR.step (Ob.load (F := IsCon c) (Wanted.on 6 0) Has.oldIs (fun w1 v hb1 hv => ⟨_, by rw [show v = _ from hv]; exact load_con hb1 Q0.out Q1.out, A6, n6, c6, B6, m6, d6, rfl, C8.out.mono hb1⟩)) ?_
        refine MDerR.step (Ob.load (F := IsCon c) (Wanted.on 6 1) Has.oldIs (fun w1 v hb1 hv => ⟨_, by rw [show v = _ from hv]; exact load_con hb1 X0.out X1.out, A, n, ca, B, m, cb, rfl, H8.out.mono hb1⟩)) ?_
        refine MDerR.step (Ob.call2 (Wanted.on 6 2) entRceq (Has.new 7 1) (Has.new 8 0) (fun w1 u v hb1 (hu : IsCon c w1 u) (hv : IsCon c w1 v) => rceqI hu hv true (eqC_self c))) ?_
        refine MDerR.step (Ob.pickT Wanted.free (Has.new 6 3) (Has.new 9 0)) ?_
        refine MDerR.step (Ob.move Wanted.free (Has.new 10 0)) ?_
        refine MDerR.step (Ob.move (Wanted.on 11 0) Has.oldIs) ?_
        refine MDerR.step (Ob.move (Wanted.on 11 1) Has.oldIs) ?_
        refine MDerR.step (Ob.call2 (Wanted.on 11 2) entSame (Has.new 12 1) (Has.new 13 0) (fun w1 u v hb1 (hu : Is (.slice E j cj) w1 u) (hv : Is (.slice C k ck) w1 v) => sameI ⟨E, j, cj, hu, D8.out.mono hb1⟩ ⟨C, k, ck, hv, L8.out.mono hb1⟩ true (eqL_iff.2 rfl))) ?_
        refine MDerR.step (Ob.pickT Wanted.free (Has.new 11 3) (Has.new 14 0)) ?_
        refine MDerR.step (Ob.move Wanted.free (Has.new 15 0)) ?_
        refine MDerR.step (Ob.call0 (Wanted.on 16 0) entKnown  (fun w1 hb1 => known_ w1)) ?_
        refine MDerR.step (Ob.pickT Wanted.free (Has.new 16 1) (Has.new 17 0)) ?_
        refine MDerR.step (Ob.assign Wanted.free (Has.new 18 0)) ?_
        simp only [MDerR, dstsOf, List.map, EndM, List.reverse_cons, List.reverse_nil, List.nil_append, List.cons_append]
        intro wE hE
        rintro _ _h0
        iterate 1 (rintro _ rfl)
        rintro _ _h2
        iterate 1 (rintro _ rfl)
        rintro _ _h4
        iterate 2 (rintro _ rfl)
        rintro _ _h7
        rintro _ _h8
        iterate 11 (rintro _ rfl)
        simp only [Act.put, List.setIfInBounds_toArray, List.set_cons_zero, List.set_cons_succ]
        have HB9 := Lib.hid (HB8.out.le hE)
        clear hE
        go_wp2
        go_ret
        exact retB rfl HB9.out
end Go.Proofs.Ytdngechnelemlaa

/-
  ContextMakes: of any context, any dot and any list of dots, with no condition, the law returns true, and its arguments read afterwards as before.
-/
namespace Go.Proofs.Ytdngechnelemlaa
open Go.ChangeShapes Go.WideShapes Go.ChangeAt Go.RowKit Go.Deep Go.Joins

set_option maxRecDepth 100000 in
theorem contextMakes_lifted (os : Os) (started : os.Started) (H : Type) (enc : TypeId × Value → H) :
    ReturnsInHanded {} Try.checked os 5 .any (Rows.contextMakesSpec.pre6 enc Try.prog Try.f5 Rows.contextMakesRow.domain false) (Rows.contextMakesSpec.post enc Try.prog Try.f5 false true false false) := by
  refine returnsInHanded_of_change (C := Try.checked) own_none started (by kernel_rfl) Try.func5
    (ChangeSpec.witness6 (enc := enc) (C := Try.checked) false ⟨#[], #[.agg #[.slice none 0 0, .slice none 0 0], .slice none 0 0], []⟩ 8 (by kernel_rfl) (by kernel_rfl) (by kernel_rfl) (by kernel_rfl)) ?_
  intro W base args ds gs before hval0 hW hcnd _
  have hval : ∀ (j : Nat) t v, Try.f5.params[j]? = some t → args[j]? = some v → Value.okWide Try.prog W .any base t v := hval0
  have hW' := hW
  obtain ⟨p, q, hA0, hV, rfl, hfz, hnd⟩ := hW
  have hA : DataW.TrodAll enc Try.prog W 0 (fun _ => true) true Try.f5.params.toList args.toList ds p := hA0
  rw [Try.params5] at hA hval
  obtain ⟨v0, v1, d0, d1, p0, p1, rfl, rfl, rfl, h0, h1⟩ := trodAll_two hA
  obtain ⟨rfl, rfl⟩ := trodVars_none hV
  obtain ⟨A, n, ca, B, m, cb, c, rfl, hc⟩ := read_con (hval 0 25 v0 rfl rfl) h0
  obtain ⟨C, k, ck, l, rfl, hl⟩ := read_list (hval 1 22 v1 rfl rfl) h1
  clear hA0 hval0
  refine (lawMakes A B C n ca m cb k ck c l W hc hl).mono fun e W' ⟨_, he, hb, rfl⟩ => ?_
  subst he
  exact ⟨_, rfl, law_post laid_out (by kernel_rfl) (by kernel_rfl) Try.underlying4 rfl rfl hW' hb⟩

theorem contextMakes_holds : Rows.ContextMakesSaid :=
  OpenClaim.holds_of_wide 5 Try.f5 rfl rfl rfl rfl rfl rfl rfl ⟨rfl, rfl, rfl, rfl, rfl⟩ rfl rfl rfl rfl rfl (by kernel_rfl) Try.func5 (by kernel_rfl)
    (of_decide_eq_true (by kernel_rfl)) (by unfold Func.isWrapper; first | (rw [if_pos (by decide +kernel)]; kernel_rfl) | (rw [if_neg (by decide +kernel)]; exact ⟨rfl, rfl⟩))
    (fun os started H enc _ => contextMakes_lifted os started H enc)
end Go.Proofs.Ytdngechnelemlaa
