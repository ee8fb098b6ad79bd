/-
  SessionNone: for any context and any dot, with no further condition, the law returns true, and its arguments read afterwards as they read before.
-/
import Derived.Test.YtjbakmmmgejhlaaWR
import Derived.Test.YtjbakmmmgejhlaaWM
namespace Go.Proofs.Ytjbakmmmgejhlaa
open Go.RowKit

theorem nreads {x : Ctx} {w : World} {A B : Option Addr} {n ca m cb : Nat} (_ : Con w A n ca B m cb x) :
    Calls Try.prog 17 #[.pointer none, .agg #[.slice A n ca, .slice B m cb], .int .i64 0, .int .i64 1] w (Ret w (IsB true)) := by
  have hb : Below w.heap.size w (w.alloc (conBox A n ca B m cb)) := (Below.refl _ _).alloc (Nat.le_refl _) _
  refine (lreads (fun w' => Below w.heap.size w w') (.pointer none) 0 1 0 1 A B n ca m cb w ?_).mono (by rintro _ _ ⟨rfl, h⟩; exact ⟨_, rfl, h, by simp [Is]⟩)
  exact (snilRead A B n ca m cb _).mono (by rintro _ _ ⟨_, rfl, h1, rfl⟩; exact ⟨rfl, hb.le h1⟩)
theorem nwrites {x : Ctx} {p q : Int} {w : World} {A B : Option Addr} {n ca m cb : Nat} (_ : Con w A n ca B m cb x) :
    Calls Try.prog 19 #[.pointer none, .agg #[.slice A n ca, .slice B m cb], .agg #[.int .i64 p, .int .i64 q], .int .i64 0, .int .i64 1] w (Ret w (IsB true)) := by
  have hb : Below w.heap.size w ((w.alloc (conBox A n ca B m cb)).alloc (.cells #[.int .i64 p, .int .i64 q] 27)) := by go_grown
  refine (lwrites (fun w' => Below w.heap.size w w') p q (.pointer none) 0 1 0 1 A B n ca m cb w ?_).mono (by rintro _ _ ⟨rfl, h⟩; exact ⟨_, rfl, h, by simp [Is]⟩)
  exact (snilWrite A B n ca m cb p q _).mono (by rintro _ _ ⟨_, rfl, h1, rfl⟩; exact ⟨rfl, hb.le h1⟩)
theorem nsafe {x : Ctx} {w : World} {A B : Option Addr} {n ca m cb : Nat} (_ : Con w A n ca B m cb x) :
    Calls Try.prog 24 #[.pointer none, .agg #[.slice A n ca, .slice B m cb], .int .i64 0, .int .i64 1] w (Ret w (IsB true)) := by
  refine (lsafe (.pointer none) 0 1 0 1 A B n ca m cb w (snilSafe A B n ca m cb _)).mono (by rintro _ _ ⟨_, rfl, h, rfl⟩; exact ⟨_, rfl, h, by simp [Is]⟩)
theorem isNilC (w : World) : IsCon ([], []) w (.agg #[.slice none 0 0, .slice none 0 0]) := ⟨none, 0, 0, none, 0, 0, rfl, ⟨Dots.nil_, Dots.nil_⟩⟩
set_option maxRecDepth 100000 in
set_option maxHeartbeats 4000000 in
theorem lawNone (A B : Option Addr) (n ca m cb : Nat) (c : Ctx) (x y : Int) (w : World) (h : Con w A n ca B m cb c) :
    Calls Try.prog 6 #[.agg #[.slice A n ca, .slice B m cb], .agg #[.int .i64 x, .int .i64 y]] w (Ret w (IsB true)) := by
  obtain ⟨W, hW⟩ : ∃ W, W = (w.alloc (conBox A n ca B m cb)).alloc (.cells #[.int .i64 x, .int .i64 y] 27) := ⟨_, rfl⟩
  have hb0 : Below w.heap.size w W := by rw [hW]; go_grown
  have bx : Boxed w.heap.size A B n ca m cb c W := ⟨by rw [hW]; simp [go_sem], by rw [hW]; simp [go_sem], h.mono hb0⟩
  have d0 : W.cell? ⟨w.heap.size + 1, 0, none⟩ = some (.int .i64 x) := by rw [hW]; simp [go_sem]
  have d1 : W.cell? ⟨w.heap.size + 1, 1, none⟩ = some (.int .i64 y) := by rw [hW]; simp [go_sem]
  have BX := Lib.hid bx; have HB := Lib.hid hb0; have HW := Lib.hid hW; have D0 := Lib.hid d0; have D1 := Lib.hid d1
  have F := Lib.hid (sSmall A B n ca m cb c W BX.out.con)
  clear bx hb0 hW h d0 d1
  cases hg : smallB c with
  | false =>
    rw [hg] at F
    clear hg
    go_enter Try.func6, Try.ntmps6
    go_wp2_with fail
    rw [← HW.out]
    refine F.out.mono ?_
    rintro _ w1 ⟨_, rfl, hb1, rfl⟩
    have HBK := Lib.hid (HB.out.le hb1)
    clear hb1 F
    go_wp2_with fail
    refine (known43 _).mono ?_
    rintro _ w9 ⟨_, rfl, hb9, rfl⟩
    have HB9 := Lib.hid (HBK.out.le hb9)
    clear hb9
    go_wp2
    go_ret
    exact retB rfl HB9.out
  | true =>
    rw [hg] at F
    clear hg
    go_enter Try.func6, Try.ntmps6
    go_wp2_with fail
    rw [← HW.out]
    refine F.out.mono ?_
    rintro _ w1 ⟨_, rfl, hb1, rfl⟩
    have HB1 := Lib.hid (HB.out.le hb1); have BX1 := Lib.hid (BX.out.mono hb1); have E0 := Lib.hid (cellKeep hb1 D0.out); have E1 := Lib.hid (cellKeep hb1 D1.out)
    have x0 := BX1.out.c0; have x1 := BX1.out.c1
    clear hb1 F HB BX HW D0 D1
    go_wp2_with fail
    refine (nreads BX1.out.con).mono ?_
    rintro _ w2 ⟨_, rfl, hb2, rfl⟩
    have HB2 := Lib.hid (HB1.out.le hb2); have BX2 := Lib.hid (BX1.out.mono hb2)
    have y0 := BX2.out.c0; have y1 := BX2.out.c1; have y2 := cellKeep hb2 E0.out; have y3 := cellKeep hb2 E1.out
    clear hb2 HB1 BX1 E0 E1 x0 x1
    go_wp2_with fail
    refine (nwrites BX2.out.con).mono ?_
    rintro _ w3 ⟨_, rfl, hb3, rfl⟩
    have HB3 := Lib.hid (HB2.out.le hb3); have BX3 := Lib.hid (BX2.out.mono hb3)
    have z0 := BX3.out.c0; have z1 := BX3.out.c1
    clear hb3 HB2 BX2 y0 y1 y2 y3
    go_wp2_with fail
    refine (nsafe BX3.out.con).mono ?_
    rintro _ w4 ⟨_, rfl, hb4, rfl⟩
    have HB4 := Lib.hid (HB3.out.le hb4)
    clear hb4 HB3 BX3 z0 z1
    go_wp2_with fail
    refine (snilHas w4).mono ?_
    rintro _ w5 ⟨_, rfl, hb5, A5, n5, c5, B5, m5, e5, rfl, hc5⟩
    have HB5 := Lib.hid (HB4.out.le hb5); have C5 := Lib.hid hc5
    clear hb5 HB4 hc5
    go_wp2_with fail
    refine (ceqI (IsCon_of C5.out) (isNilC _) true (by kernel_rfl)).mono ?_
    rintro _ w6 ⟨_, rfl, hb6, rfl⟩
    have HB6 := Lib.hid (HB5.out.le hb6)
    clear hb6 HB5 C5
    go_wp2_with fail
    refine (snilWrote w6).mono ?_
    rintro _ w7 ⟨_, rfl, hb7, A7, n7, c7, B7, m7, e7, rfl, hc7⟩
    have HB7 := Lib.hid (HB6.out.le hb7); have C7 := Lib.hid hc7
    clear hb7 HB6 hc7
    go_wp2_with fail
    refine (ceqI (IsCon_of C7.out) (isNilC _) true (by kernel_rfl)).mono ?_
    rintro _ w8 ⟨_, rfl, hb8, rfl⟩
    have HB8 := Lib.hid (HB7.out.le hb8)
    clear hb8 HB7 C7
    go_wp2_with fail
    refine (snilCopy w8).mono ?_
    rintro _ wK ⟨_, rfl, hbK, rfl⟩
    have HBK := Lib.hid (HB8.out.le hbK)
    clear hbK HB8
    go_wp2_with fail
    refine (known43 _).mono ?_
    rintro _ w9 ⟨_, rfl, hb9, rfl⟩
    have HB9 := Lib.hid (HBK.out.le hb9)
    clear hb9
    go_wp2
    go_ret
    exact retB rfl HB9.out
end Go.Proofs.Ytjbakmmmgejhlaa

/-
  SessionNone: of any context and any dot, with no condition, the law returns true, and its arguments read afterwards as before.
-/
namespace Go.Proofs.Ytjbakmmmgejhlaa
open Go.ChangeShapes Go.WideShapes Go.ChangeAt Go.RowKit Go.Deep Go.Joins

set_option maxRecDepth 100000 in
theorem sessionNone_lifted (os : Os) (started : os.Started) (H : Type) (enc : TypeId × Value → H) :
    ReturnsInHanded {} Try.checked os 6 .any (Rows.sessionNoneSpec.pre6 enc Try.prog Try.f6 Rows.sessionNoneRow.domain false) (Rows.sessionNoneSpec.post enc Try.prog Try.f6 false true false false) := by
  refine returnsInHanded_of_change (C := Try.checked) own_none started (by kernel_rfl) Try.func6
    (ChangeSpec.witness6 (enc := enc) (C := Try.checked) false ⟨#[], #[.agg #[.slice none 0 0, .slice none 0 0], .agg #[.int .i64 0, .int .i64 0]], []⟩ 8 (by kernel_rfl) (by kernel_rfl) (by kernel_rfl) (by kernel_rfl)) ?_
  intro W base args ds gs before hval0 hW hcnd _
  have hval : ∀ (j : Nat) t v, Try.f6.params[j]? = some t → args[j]? = some v → Value.okWide Try.prog W .any base t v := hval0
  have hW' := hW
  obtain ⟨p, q, hA0, hV, rfl, hfz, hnd⟩ := hW
  have hA : DataW.TrodAll enc Try.prog W 0 (fun _ => true) true Try.f6.params.toList args.toList ds p := hA0
  rw [Try.params6] at hA hval
  obtain ⟨v0, v1, d0, d1, p0, p1, rfl, rfl, rfl, h0, h1⟩ := trodAll_two hA
  obtain ⟨rfl, rfl⟩ := trodVars_none hV
  obtain ⟨A, n, ca, B, m, cb, c, rfl, hc⟩ := read_con (hval 0 31 v0 rfl rfl) h0
  obtain ⟨x, y, rfl, _, _⟩ := read_dot (hval 1 27 v1 rfl rfl) h1
  clear hA0 hval0
  refine (lawNone A B n ca m cb c x y W hc).mono fun e W' ⟨_, he, hb, rfl⟩ => ?_
  subst he
  exact ⟨_, rfl, law_post laid_out (by kernel_rfl) (by kernel_rfl) Try.underlying4 rfl rfl hW' hb⟩

theorem sessionNone_holds : Rows.SessionNoneSaid :=
  OpenClaim.holds_of_wide 6 Try.f6 rfl rfl rfl rfl rfl rfl rfl ⟨rfl, rfl, rfl, rfl, rfl⟩ rfl rfl rfl rfl rfl (by kernel_rfl) Try.func6 (by kernel_rfl)
    (of_decide_eq_true (by kernel_rfl)) (by unfold Func.isWrapper; first | (rw [if_pos (by decide +kernel)]; kernel_rfl) | (rw [if_neg (by decide +kernel)]; exact ⟨rfl, rfl⟩))
    (fun os started H enc _ => sessionNone_lifted os started H enc)
end Go.Proofs.Ytjbakmmmgejhlaa
