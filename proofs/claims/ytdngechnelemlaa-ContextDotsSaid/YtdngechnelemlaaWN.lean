/-
  ContextDots: for any context, any dot and any list of dots, with no further condition, the law returns true, and its arguments read afterwards as they read before.
-/
import Derived.Test.YtdngechnelemlaaWL
import Derived.Test.YtdngechnelemlaaWM
namespace Go.Proofs.Ytdngechnelemlaa
open Go.RowKit

set_option maxRecDepth 100000 in
set_option maxHeartbeats 4000000 in
theorem lawDots (A B C : Option Addr) (n ca m cb k ck : Nat) (c : Ctx) (x y : Int) (l : List Dot) (w : World) (h : Con w A n ca B m cb c) (hl : Dots w C k ck l) :
    Calls Try.prog 4 #[.agg #[.slice A n ca, .slice B m cb], .agg #[.int .i64 x, .int .i64 y], .slice C k ck] w (Ret w (IsB true)) := by
  have hb0 : Below w.heap.size w ((w.alloc (conBox A n ca B m cb)).alloc (.cells #[.int .i64 x, .int .i64 y] 38)) := by go_grown
  have y0 : ((w.alloc (conBox A n ca B m cb)).alloc (.cells #[.int .i64 x, .int .i64 y] 38)).cell? ⟨w.heap.size, 0, none⟩ = some (.slice A n ca) := by simp [go_sem]
  have y1 : ((w.alloc (conBox A n ca B m cb)).alloc (.cells #[.int .i64 x, .int .i64 y] 38)).cell? ⟨w.heap.size, 1, none⟩ = some (.slice B m cb) := by simp [go_sem]
  have z0 : ((w.alloc (conBox A n ca B m cb)).alloc (.cells #[.int .i64 x, .int .i64 y] 38)).cell? ⟨w.heap.size + 1, 0, none⟩ = some (.int .i64 x) := by simp [go_sem]
  have z1 : ((w.alloc (conBox A n ca B m cb)).alloc (.cells #[.int .i64 x, .int .i64 y] 38)).cell? ⟨w.heap.size + 1, 1, none⟩ = some (.int .i64 y) := by simp [go_sem]
  have hk := hl.big
  have H0 := Lib.hid (h.mono hb0); have L0 := Lib.hid (hl.mono hb0); have HB := Lib.hid hb0; have Y0 := Lib.hid y0; have Y1 := Lib.hid y1; have Z0 := Lib.hid z0; have Z1 := Lib.hid z1
  have LK := Lib.hid hl.len
  clear hb0 y0 y1 z0 z1 h hl
  have F := Lib.hid (lightI ⟨A, n, ca, B, m, cb, rfl, H0.out⟩ (lightB c) rfl)
  cases hg : lightB c with
  | false =>
    rw [hg] at F
    clear hg
    go_enter Try.func4, Try.ntmps4
    go_wp2_with fail
    refine F.out.mono ?_
    rintro _ w1 ⟨_, rfl, hb1, rfl⟩
    go_wp2_with fail
    refine (known_ w1).mono ?_
    rintro _ w2 ⟨_, rfl, hb2, rfl⟩
    have HB2 := Lib.hid ((HB.out.le hb1).le hb2); clear hb1 hb2 F
    go_wp2
    go_ret
    exact retB rfl HB2.out
  | true =>
    rw [hg] at F
    have HG := Lib.hid (lightB_len hg)
    clear hg
    by_cases hk40 : k ≤ 40
    · have hd : decide ((40 : Int) < (k : Int)) = false := by rw [decide_eq_false_iff_not]; omega
      go_enter Try.func4, Try.ntmps4
      go_wp2_with fail
      refine F.out.mono ?_
      rintro _ w1 ⟨_, rfl, hb1, rfl⟩
      have H1 := Lib.hid (H0.out.mono hb1); have L1 := Lib.hid (L0.out.mono hb1)
      have K0 := Lib.hid (cellKeep hb1 Y0.out); have K1 := Lib.hid (cellKeep hb1 Y1.out); have J0 := Lib.hid (cellKeep hb1 Z0.out); have J1 := Lib.hid (cellKeep hb1 Z1.out)
      have HB1 := Lib.hid (HB.out.le hb1)
      have hll : l.length ≤ 1000 := by rw [← LK.out]; omega
      have HLL := Lib.hid hll
      clear hb1 F H0 L0 Y0 Y1 Z0 Z1 HB hll
      go_wp2_with fail
      refine wp_region_M mixed (by kernel_rfl) ?_
      refine MDerR.step (Ob.load (F := IsCon c) Wanted.free Has.oldIs (fun w1 v hb1 hv => ⟨_, by rw [show v = _ from hv]; exact load_con hb1 K0.out K1.out, A, n, ca, B, m, cb, rfl, H1.out.mono hb1⟩)) ?_
      refine MDerR.step (Ob.loadV Wanted.free Has.oldIs (fun w1 hb1 => load_dot hb1 J0.out J1.out)) ?_
      refine MDerR.step (Ob.call2 Wanted.free entHas (Has.new 0 1) (Has.new 1 0) (fun w1 u v hb1 (hu : IsCon c w1 u) (hv : IsDot (x, y) w1 v) => chasI hu hv (hasC c (x, y)) rfl)) ?_
      refine MDerR.step (Ob.load (F := IsCon c) Wanted.free Has.oldIs (fun w1 v hb1 hv => ⟨_, by rw [show v = _ from hv]; exact load_con hb1 K0.out K1.out, A, n, ca, B, m, cb, rfl, H1.out.mono hb1⟩)) ?_
      refine MDerR.step (Ob.loadV Wanted.free Has.oldIs (fun w1 hb1 => load_dot hb1 J0.out J1.out)) ?_
      refine MDerR.step (Ob.call2 Wanted.free entRHas (Has.new 3 1) (Has.new 4 0) (fun w1 u v hb1 (hu : IsCon c w1 u) (hv : IsDot (x, y) w1 v) => rchasI hu hv (hasC c (x, y)) rfl)) ?_
      refine MDerR.step (Ob.binV Wanted.free (Has.new 2 3) (Has.new 5 0) (fun w1 => bool_eql true (by simp))) ?_
      refine MDerR.step (Ob.move Wanted.free (Has.new 6 0)) ?_
      refine MDerR.step (Ob.load (F := IsCon c) (Wanted.on 7 0) Has.oldIs (fun w1 v hb1 hv => ⟨_, by rw [show v = _ from hv]; exact load_con hb1 K0.out K1.out, A, n, ca, B, m, cb, rfl, H1.out.mono hb1⟩)) ?_
      refine MDerR.step (Ob.move (Wanted.on 7 1) Has.oldIs) ?_
      refine MDerR.step (Ob.call2 (Wanted.on 7 2) entMissing (Has.new 8 1) (Has.new 9 0) (fun w1 u v hb1 (hu : IsCon c w1 u) (hv : Is (.slice C k ck) w1 v) => imissingI hu ⟨C, k, ck, hv, L1.out.mono hb1⟩ HLL.out (missC c l) rfl)) ?_
      refine MDerR.step (Ob.load (F := IsCon c) (Wanted.on 7 3) Has.oldIs (fun w1 v hb1 hv => ⟨_, by rw [show v = _ from hv]; exact load_con hb1 K0.out K1.out, A, n, ca, B, m, cb, rfl, H1.out.mono hb1⟩)) ?_
      refine MDerR.step (Ob.move (Wanted.on 7 4) Has.oldIs) ?_
      refine MDerR.step (Ob.call2 (Wanted.on 7 5) entRMissing (Has.new 11 1) (Has.new 12 0) (fun w1 u v hb1 (hu : IsCon c w1 u) (hv : Is (.slice C k ck) w1 v) => rmissingI hu ⟨C, k, ck, hv, L1.out.mono hb1⟩ HLL.out (missC c l) rfl)) ?_
      refine MDerR.step (Ob.call2 (Wanted.on 7 6) entSame (Has.new 10 3) (Has.new 13 0) (fun w1 u v hb1 (hu : IsDots (missC c l) w1 u) (hv : IsDots (missC c l) w1 v) => sameI hu hv true (eqL_iff.2 rfl))) ?_
      refine MDerR.step (Ob.pickT Wanted.free (Has.new 7 7) (Has.new 14 0)) ?_
      refine MDerR.step (Ob.move Wanted.free (Has.new 15 0)) ?_
      refine MDerR.step (Ob.call0 (Wanted.on 16 0) entKnown  (fun w1 hb1 => known_ w1)) ?_
      refine MDerR.step (Ob.pickT Wanted.free (Has.new 16 1) (Has.new 17 0)) ?_
      refine MDerR.step (Ob.assign Wanted.free (Has.new 18 0)) ?_
      simp only [MDerR, dstsOf, List.map, EndM, List.reverse_cons, List.reverse_nil, List.nil_append, List.cons_append]
      intro wE hE
      rintro _ _h0
      iterate 2 (rintro _ rfl)
      rintro _ _h3
      iterate 4 (rintro _ rfl)
      rintro _ _h8
      iterate 1 (rintro _ rfl)
      rintro _ _h10
      rintro _ _h11
      iterate 1 (rintro _ rfl)
      rintro _ _h13
      iterate 6 (rintro _ rfl)
      simp only [Act.put, List.setIfInBounds_toArray, List.set_cons_zero, List.set_cons_succ]
      have HB2 := Lib.hid (HB1.out.le hE)
      clear hE
      go_wp2
      go_ret
      exact retB rfl HB2.out
    · have hd : decide ((40 : Int) < (k : Int)) = true := by rw [decide_eq_true_iff]; omega
      go_enter Try.func4, Try.ntmps4
      go_wp2_with fail
      refine F.out.mono ?_
      rintro _ w1 ⟨_, rfl, hb1, rfl⟩
      go_wp2_with fail
      refine (known_ w1).mono ?_
      rintro _ w2 ⟨_, rfl, hb2, rfl⟩
      have HB2 := Lib.hid ((HB.out.le hb1).le hb2); clear hb1 hb2 F
      go_wp2
      go_ret
      exact retB rfl HB2.out
end Go.Proofs.Ytdngechnelemlaa

/-
  ContextDots: of any context, any dot and any list of dots, with no condition, the law returns true, and its arguments read afterwards as before.
-/
namespace Go.Proofs.Ytdngechnelemlaa
open Go.ChangeShapes Go.WideShapes Go.ChangeAt Go.RowKit Go.Deep Go.Joins

set_option maxRecDepth 100000 in
theorem contextDots_lifted (os : Os) (started : os.Started) (H : Type) (enc : TypeId × Value → H) :
    ReturnsInHanded {} Try.checked os 4 .any (Rows.contextDotsSpec.pre6 enc Try.prog Try.f4 Rows.contextDotsRow.domain false) (Rows.contextDotsSpec.post enc Try.prog Try.f4 false true false false) := by
  refine returnsInHanded_of_change (C := Try.checked) own_none started (by kernel_rfl) Try.func4
    (ChangeSpec.witness6 (enc := enc) (C := Try.checked) false ⟨#[], #[.agg #[.slice none 0 0, .slice none 0 0], .agg #[.int .i64 0, .int .i64 0], .slice none 0 0], []⟩ 8 (by kernel_rfl) (by kernel_rfl) (by kernel_rfl) (by kernel_rfl)) ?_
  intro W base args ds gs before hval0 hW hcnd _
  have hval : ∀ (j : Nat) t v, Try.f4.params[j]? = some t → args[j]? = some v → Value.okWide Try.prog W .any base t v := hval0
  have hW' := hW
  obtain ⟨p, q, hA0, hV, rfl, hfz, hnd⟩ := hW
  have hA : DataW.TrodAll enc Try.prog W 0 (fun _ => true) true Try.f4.params.toList args.toList ds p := hA0
  rw [Try.params4] at hA hval
  obtain ⟨v0, v1, v2, d0, d1, d2, p0, p1, p2, rfl, rfl, rfl, h0, h1, h2⟩ := trodAll_three hA
  obtain ⟨rfl, rfl⟩ := trodVars_none hV
  obtain ⟨A, n, ca, B, m, cb, c, rfl, hc⟩ := read_con (hval 0 25 v0 rfl rfl) h0
  obtain ⟨x, y, rfl, _, _⟩ := read_dot (hval 1 38 v1 rfl rfl) h1
  obtain ⟨C, k, ck, l, rfl, hl⟩ := read_list (hval 2 22 v2 rfl rfl) h2
  clear hA0 hval0
  refine (lawDots A B C n ca m cb k ck c x y l W hc hl).mono fun e W' ⟨_, he, hb, rfl⟩ => ?_
  subst he
  exact ⟨_, rfl, law_post laid_out (by kernel_rfl) (by kernel_rfl) Try.underlying4 rfl rfl hW' hb⟩

theorem contextDots_holds : Rows.ContextDotsSaid :=
  OpenClaim.holds_of_wide 4 Try.f4 rfl rfl rfl rfl rfl rfl rfl ⟨rfl, rfl, rfl, rfl, rfl⟩ rfl rfl rfl rfl rfl (by kernel_rfl) Try.func4 (by kernel_rfl)
    (of_decide_eq_true (by kernel_rfl)) (by unfold Func.isWrapper; first | (rw [if_pos (by decide +kernel)]; kernel_rfl) | (rw [if_neg (by decide +kernel)]; exact ⟨rfl, rfl⟩))
    (fun os started H enc _ => contextDots_lifted os started H enc)
end Go.Proofs.Ytdngechnelemlaa
