/-
  Visits in memory; which visits are none: in the code and in the statements.
-/
import Derived.Test.YtjbakmmmgejhlaaWP
namespace Go.Proofs.Ytjbakmmmgejhlaa
open Go.RowKit

structure Vis where
  c : Int
  w : Bool
  d : Dot
  x : Ctx
abbrev visV (v : Vis) (A : Option Addr) (n ca : Nat) (B : Option Addr) (m cb : Nat) : Value := .agg #[.int .i64 v.c, .bool v.w, .int .i64 v.d.1, .int .i64 v.d.2, .slice A n ca, .slice B m cb]
abbrev visBox (v : Vis) (A : Option Addr) (n ca : Nat) (B : Option Addr) (m cb : Nat) : Obj := .cells #[.int .i64 v.c, .bool v.w, .int .i64 v.d.1, .int .i64 v.d.2, .slice A n ca, .slice B m cb] 33
/-- A visit at a place. -/
structure VisAt (b o : Nat) (A : Option Addr) (n ca : Nat) (B : Option Addr) (m cb : Nat) (v : Vis) (w : World) : Prop where
  c0 : w.cell? ⟨b, o, none⟩ = some (.int .i64 v.c)
  c1 : w.cell? ⟨b, o + 1, none⟩ = some (.bool v.w)
  c2 : w.cell? ⟨b, o + 2, none⟩ = some (.int .i64 v.d.1)
  c3 : w.cell? ⟨b, o + 3, none⟩ = some (.int .i64 v.d.2)
  c4 : w.cell? ⟨b, o + 4, none⟩ = some (.slice A n ca)
  c5 : w.cell? ⟨b, o + 5, none⟩ = some (.slice B m cb)
  con : Con w A n ca B m cb v.x
section
variable {b o n ca m cb k c : Nat} {A B C : Option Addr} {v : Vis} {w w' : World} {l : List Vis}
theorem VisAt.mono (h : VisAt b o A n ca B m cb v w) (hb : Below w.heap.size w w') : VisAt b o A n ca B m cb v w' := ⟨cellKeep hb h.c0, cellKeep hb h.c1, cellKeep hb h.c2, cellKeep hb h.c3, cellKeep hb h.c4, cellKeep hb h.c5, h.con.mono hb⟩
theorem VisAt.size (h : VisAt b o A n ca B m cb v w) : b < w.heap.size := World.block_lt_of_cell? w _ h.c0
theorem VisAt.load (h : VisAt b o A n ca B m cb v w) : (Instr.loadAt 33 (.pointer (some ⟨b, o, none⟩))).run Try.prog w = .ok (visV v A n ca B m cb) w := by
  have h0 := h.c0; have h1 := h.c1; have h2 := h.c2; have h3 := h.c3; have h4 := h.c4; have h5 := h.c5
  simp [go_sem, h0, h1, h2, h3, h4, h5]
/-- A value that reads as a visit. -/
def IsVis (v : Vis) (w : World) (u : Value) : Prop := ∃ A n ca B m cb, u = visV v A n ca B m cb ∧ Con w A n ca B m cb v.x
instance (v : Vis) : Grows (IsVis v) := ⟨fun hb ⟨A, n, ca, B, m, cb, e, h⟩ => ⟨A, n, ca, B, m, cb, e, h.mono hb⟩⟩
theorem VisAt.new (h : Con w A n ca B m cb v.x) : VisAt w.heap.size 0 A n ca B m cb v (w.alloc (visBox v A n ca B m cb)) :=
  ⟨by simp [go_sem], by simp [go_sem], by simp [go_sem], by simp [go_sem], by simp [go_sem], by simp [go_sem], h.mono ((Below.refl _ _).alloc (Nat.le_refl _) _)⟩
/-- A slice whose cells read as a list of visits. -/
structure Visits (w : World) (C : Option Addr) (k c : Nat) (l : List Vis) : Prop where
  len : k = l.length
  cap : k ≤ c
  max : c ≤ maxLen
  nil : C = none → c = 0
  cell : ∀ i v, l[i]? = some v → ∃ b o A n ca B m cb, C = some ⟨b, o, none⟩ ∧ VisAt b (o + i * 6) A n ca B m cb v w
theorem Visits.mono (h : Visits w C k c l) (hb : Below w.heap.size w w') : Visits w' C k c l :=
  ⟨h.len, h.cap, h.max, h.nil, fun i v hi => by
    obtain ⟨b, o, A, n, ca, B, m, cb, e, hv⟩ := h.cell i v hi
    exact ⟨b, o, A, n, ca, B, m, cb, e, hv.mono hb⟩⟩
theorem Visits.big (h : Visits w C k c l) : k ≤ 9223372036854775807 := by have := h.cap; have := h.max; unfold maxLen at this; omega
theorem Visits.nil_ : Visits w none 0 0 [] := ⟨rfl, Nat.le_refl _, by unfold maxLen; omega, fun _ => rfl, fun i d h => by simp at h⟩
theorem Visits.at_ (h : Visits w C k c l) {i : Nat} (hi : i < k) : ∃ b o A n ca B m cb v, C = some ⟨b, o, none⟩ ∧ VisAt b (o + i * 6) A n ca B m cb v w ∧ l[i]? = some v ∧ l.drop i = v :: l.drop (i + 1) := by
  have hl : i < l.length := by have := h.len; omega
  obtain ⟨b, o, A, n, ca, B, m, cb, e, hv⟩ := h.cell i l[i] (List.getElem?_eq_getElem hl)
  exact ⟨b, o, A, n, ca, B, m, cb, l[i], e, hv, List.getElem?_eq_getElem hl, by rw [List.drop_eq_getElem_cons hl]⟩
theorem index_vis {b o k c i : Nat} {w : World} (h : i < k) : (Instr.indexAt 22 (.slice (some ⟨b, o, none⟩) k c) (.int .i64 (i : Int))).run Try.prog w = .ok (.pointer (some ⟨b, o + i * 6, none⟩)) w := by
  simp [go_sem, h]
end

def badS (v : Vis) : Bool := !validC v.x || v.w && (!validD v.d || hasC v.x v.d)

set_option maxRecDepth 100000 in
set_option maxHeartbeats 2000000 in
theorem judge1 (v : Vis) (A B : Option Addr) (n ca m cb : Nat) (w : World) (hc : Con w A n ca B m cb v.x) : Calls Try.prog 47 #[visV v A n ca B m cb] w (Ret w (IsB (badS v))) := by
  obtain ⟨W, hWdef⟩ : ∃ W, W = w.alloc (visBox v A n ca B m cb) := ⟨_, rfl⟩
  have hb0 : Below w.heap.size w W := by rw [hWdef]; go_grown
  have hv0 : VisAt w.heap.size 0 A n ca B m cb v W := by rw [hWdef]; exact VisAt.new hc
  obtain ⟨cl, wr, ⟨p, q⟩, x⟩ := v
  have VA := Lib.hid hv0; have HB := Lib.hid hb0; have DEF := Lib.hid hWdef
  have x4 := hv0.c4; have x5 := hv0.c5
  clear hv0 hb0 hWdef
  cases hvx : validC x with
  | false =>
    have HV := Lib.hid hvx; clear hvx
    go_enter Try.func47, Try.ntmps47
    go_wp2_with fail
    rw [← DEF.out]
    refine (cvalidI (IsCon_of VA.out.con) false HV.out).mono ?_
    rintro _ w1 ⟨_, rfl, hb1, rfl⟩
    have HB1 := Lib.hid (HB.out.le hb1)
    clear hb1
    go_wp2
    go_ret
    exact ⟨_, rfl, HB1.out, by simp [Is, badS, HV.out]⟩
  | true =>
    have HV := Lib.hid hvx; clear hvx
    cases wr with
    | false =>
      go_enter Try.func47, Try.ntmps47
      go_wp2_with fail
      rw [← DEF.out]
      refine (cvalidI (IsCon_of VA.out.con) true HV.out).mono ?_
      rintro _ w1 ⟨_, rfl, hb1, rfl⟩
      have HB1 := Lib.hid (HB.out.le hb1)
      have y1 := (VA.out.mono hb1).c1
      clear hb1
      go_wp2
      go_ret
      exact ⟨_, rfl, HB1.out, by simp [Is, badS, HV.out]⟩
    | true =>
      cases hd : validD (p, q) with
      | false =>
        have HD := Lib.hid hd; clear hd
        go_enter Try.func47, Try.ntmps47
        go_wp2_with fail
        rw [← DEF.out]
        refine (cvalidI (IsCon_of VA.out.con) true HV.out).mono ?_
        rintro _ w1 ⟨_, rfl, hb1, rfl⟩
        have HB1 := Lib.hid (HB.out.le hb1)
        have y1 := (VA.out.mono hb1).c1; have y2 := (VA.out.mono hb1).c2; have y3 := (VA.out.mono hb1).c3
        clear hb1
        go_wp2_with fail
        refine (dvalid p q w1).mono ?_
        rw [HD.out]
        rintro _ w2 ⟨_, rfl, hb2, rfl⟩
        have HB2 := Lib.hid (HB1.out.le hb2)
        clear hb2
        go_wp2
        go_ret
        exact ⟨_, rfl, HB2.out, by simp [Is, badS, HV.out, HD.out]⟩
      | true =>
        have HD := Lib.hid hd; clear hd
        have HH := Lib.hid (show hasC x (p, q) = hasC x (p, q) from rfl)
        generalize hh : hasC x (p, q) = r at HH
        have HR := Lib.hid hh; clear hh HH
        go_enter Try.func47, Try.ntmps47
        go_wp2_with fail
        rw [← DEF.out]
        refine (cvalidI (IsCon_of VA.out.con) true HV.out).mono ?_
        rintro _ w1 ⟨_, rfl, hb1, rfl⟩
        have HB1 := Lib.hid (HB.out.le hb1)
        have VA1 := Lib.hid (VA.out.mono hb1)
        have y1 := VA1.out.c1; have y2 := VA1.out.c2; have y3 := VA1.out.c3
        clear hb1
        go_wp2_with fail
        refine (dvalid p q w1).mono ?_
        rw [HD.out]
        rintro _ w2 ⟨_, rfl, hb2, rfl⟩
        have HB2 := Lib.hid (HB1.out.le hb2)
        have VA2 := Lib.hid (VA1.out.mono hb2)
        have z2 := VA2.out.c2; have z3 := VA2.out.c3; have z4 := VA2.out.c4; have z5 := VA2.out.c5
        clear hb2
        go_wp2_with fail
        refine (chasI (IsCon_of VA2.out.con) rfl r HR.out).mono ?_
        rintro _ w3 ⟨_, rfl, hb3, rfl⟩
        have HB3 := Lib.hid (HB2.out.le hb3)
        clear hb3
        go_wp2
        go_ret
        exact ⟨_, rfl, HB3.out, by simp [Is, badS, HV.out, HD.out, HR.out]⟩
set_option maxRecDepth 100000 in
set_option maxHeartbeats 2000000 in
theorem badV (v : Vis) (A B : Option Addr) (n ca m cb : Nat) (w : World) (hc : Con w A n ca B m cb v.x) : Calls Try.prog 10 #[visV v A n ca B m cb] w (Ret w (IsB (badS v))) := by
  obtain ⟨W, hWdef⟩ : ∃ W, W = w.alloc (visBox v A n ca B m cb) := ⟨_, rfl⟩
  have hb0 : Below w.heap.size w W := by rw [hWdef]; go_grown
  have hv0 : VisAt w.heap.size 0 A n ca B m cb v W := by rw [hWdef]; exact VisAt.new hc
  obtain ⟨cl, wr, ⟨p, q⟩, x⟩ := v
  have VA := Lib.hid hv0; have HB := Lib.hid hb0; have DEF := Lib.hid hWdef
  have x4 := hv0.c4; have x5 := hv0.c5
  clear hv0 hb0 hWdef
  cases hvx : validC x with
  | false =>
    have HV := Lib.hid hvx; clear hvx
    go_enter Try.func10, Try.ntmps10
    go_wp2_with fail
    rw [← DEF.out]
    refine (cvalidI (IsCon_of VA.out.con) false HV.out).mono ?_
    rintro _ w1 ⟨_, rfl, hb1, rfl⟩
    have HB1 := Lib.hid (HB.out.le hb1)
    clear hb1
    go_wp2
    go_ret
    exact ⟨_, rfl, HB1.out, by simp [Is, badS, HV.out]⟩
  | true =>
    have HV := Lib.hid hvx; clear hvx
    cases wr with
    | false =>
      go_enter Try.func10, Try.ntmps10
      go_wp2_with fail
      rw [← DEF.out]
      refine (cvalidI (IsCon_of VA.out.con) true HV.out).mono ?_
      rintro _ w1 ⟨_, rfl, hb1, rfl⟩
      have HB1 := Lib.hid (HB.out.le hb1)
      have y1 := (VA.out.mono hb1).c1
      clear hb1
      go_wp2
      go_ret
      exact ⟨_, rfl, HB1.out, by simp [Is, badS, HV.out]⟩
    | true =>
      cases hd : validD (p, q) with
      | false =>
        have HD := Lib.hid hd; clear hd
        go_enter Try.func10, Try.ntmps10
        go_wp2_with fail
        rw [← DEF.out]
        refine (cvalidI (IsCon_of VA.out.con) true HV.out).mono ?_
        rintro _ w1 ⟨_, rfl, hb1, rfl⟩
        have HB1 := Lib.hid (HB.out.le hb1)
        have y1 := (VA.out.mono hb1).c1; have y2 := (VA.out.mono hb1).c2; have y3 := (VA.out.mono hb1).c3
        clear hb1
        go_wp2_with fail
        refine (dvalid p q w1).mono ?_
        rw [HD.out]
        rintro _ w2 ⟨_, rfl, hb2, rfl⟩
        have HB2 := Lib.hid (HB1.out.le hb2)
        clear hb2
        go_wp2
        go_ret
        exact ⟨_, rfl, HB2.out, by simp [Is, badS, HV.out, HD.out]⟩
      | true =>
        have HD := Lib.hid hd; clear hd
        have HH := Lib.hid (show hasC x (p, q) = hasC x (p, q) from rfl)
        generalize hh : hasC x (p, q) = r at HH
        have HR := Lib.hid hh; clear hh HH
        go_enter Try.func10, Try.ntmps10
        go_wp2_with fail
        rw [← DEF.out]
        refine (cvalidI (IsCon_of VA.out.con) true HV.out).mono ?_
        rintro _ w1 ⟨_, rfl, hb1, rfl⟩
        have HB1 := Lib.hid (HB.out.le hb1)
        have VA1 := Lib.hid (VA.out.mono hb1)
        have y1 := VA1.out.c1; have y2 := VA1.out.c2; have y3 := VA1.out.c3
        clear hb1
        go_wp2_with fail
        refine (dvalid p q w1).mono ?_
        rw [HD.out]
        rintro _ w2 ⟨_, rfl, hb2, rfl⟩
        have HB2 := Lib.hid (HB1.out.le hb2)
        have VA2 := Lib.hid (VA1.out.mono hb2)
        have z2 := VA2.out.c2; have z3 := VA2.out.c3; have z4 := VA2.out.c4; have z5 := VA2.out.c5
        clear hb2
        go_wp2_with fail
        refine (chasI (IsCon_of VA2.out.con) rfl r HR.out).mono ?_
        rintro _ w3 ⟨_, rfl, hb3, rfl⟩
        have HB3 := Lib.hid (HB2.out.le hb3)
        clear hb3
        go_wp2
        go_ret
        exact ⟨_, rfl, HB3.out, by simp [Is, badS, HV.out, HD.out, HR.out]⟩
theorem badI {v : Vis} {w : World} {u : Value} (hu : IsVis v w u) (r : Bool) (hr : badS v = r) : Calls Try.prog 10 #[u] w (Ret w (IsB r)) := by
  obtain ⟨A, n, ca, B, m, cb, rfl, hc⟩ := hu
  subst hr
  exact badV v A B n ca m cb w hc
theorem entBad : Enters Try.prog 10 := enters_of Try.func10 (by kernel_rfl) rfl
theorem entJudge1 : Enters Try.prog 47 := enters_of Try.func47 (by kernel_rfl) rfl

/-! ### IndexFunc, ContainsFunc at visits -/
def idxV (p : Vis → Bool) : Nat → List Vis → Int
  | _, [] => -1
  | k, a :: t => if p a then k else idxV p (k + 1) t
theorem idxV_any (p : Vis → Bool) : ∀ (l : List Vis) (k : Nat), decide (0 ≤ idxV p k l) = l.any p
  | [], _ => rfl
  | a :: t, k => by
    simp only [idxV, List.any_cons]
    by_cases h : p a = true
    · simp [h]
    · simpa [h] using idxV_any p t (k + 1)
def IdxRelV (w : World) (n : Nat) (l : List Vis) (p : Vis → Bool) (i : Value) (wr : World) : Prop :=
  ∃ k : Nat, i = .int .i64 k ∧ k ≤ n ∧ Below w.heap.size w wr ∧ idxV p 0 l = idxV p k (l.drop k)
set_option maxRecDepth 100000 in
set_option maxHeartbeats 1000000 in
theorem vindex (A : Option Addr) (n c : Nat) (l : List Vis) (w : World) (h : Visits w A n c l) :
    Calls Try.prog 63 #[.slice A n c, .func (.func 47) #[] #[]] w (Ret w (IsI (idxV badS 0 l))) := by
  have hn := h.big
  have eg : ∀ args w, (callFunc 47 args).run Try.prog w = .ok (.enter 47 args) w := entJudge1
  go_enter Try.func63, Try.ntmps63
  go_wp2
  go_loopw [8] (fun i wr => IdxRelV w n l badS i wr) (fun i _ => n - (intOf i).toNat)
  case atStart => exact ⟨0, rfl, by omega, Below.refl _ _, by simp⟩
  case round =>
    obtain ⟨k, rfl, hk, hb, hs⟩ := hrel
    by_cases hlt : k < n
    · obtain ⟨b, o, A1, n1, ca1, B1, m1, cb1, v, rfl, hv, hm, d1⟩ := (h.mono hb).at_ (k := n) (i := k) hlt
      have D1 := Lib.hid d1; have HS := Lib.hid hs
      have e0 := hv.c0; have e1 := hv.c1; have e2 := hv.c2; have e3 := hv.c3; have e4 := hv.c4; have e5 := hv.c5
      have CP := Lib.hid (judge1 v A1 B1 n1 ca1 m1 cb1 wr hv.con)
      obtain ⟨cl, wrt, ⟨p, q⟩, x⟩ := v
      clear d1 hs hm hv
      cases hl : badS ⟨cl, wrt, (p, q), x⟩ with
      | true =>
        rw [hl] at CP
        have HL := Lib.hid hl; clear hl
        go_wp2_with (first | ((with_reducible refine CP.out.mono ?_); rintro e w1 ⟨_, rfl, hb1, rfl⟩))
        go_ret
        exact ⟨_, rfl, hb.le hb1, by rw [HS.out, D1.out, idxV, HL.out]; rfl⟩
      | false =>
        rw [hl] at CP
        have HL := Lib.hid hl; clear hl
        go_wp2_with (first | ((with_reducible refine CP.out.mono ?_); rintro e w1 ⟨_, rfl, hb1, rfl⟩))
        go_roundw
        case rel => exact ⟨k + 1, by simp, hlt, hb.le hb1, by rw [HS.out, D1.out, idxV, HL.out]; rfl⟩
        case measure => simp [intOf]; omega
    · have HS := Lib.hid hs; clear hs
      go_wp2
      go_ret
      exact ⟨_, rfl, hb, by rw [HS.out, List.drop_of_length_le (by rw [← h.len]; omega)]; rfl⟩
theorem vcontains (A : Option Addr) (n c : Nat) (l : List Vis) (w : World) (h : Visits w A n c l) :
    Calls Try.prog 46 #[.slice A n c, .func (.func 47) #[] #[]] w (Ret w (IsB (l.any badS))) := by
  have C := Lib.hid (vindex A n c l w h)
  have hx := idxV_any badS l 0
  generalize idxV badS 0 l = i at *
  generalize l.any badS = r at *
  have HX := Lib.hid hx
  clear hx h
  go_enter Try.func46, Try.ntmps46
  go_wp2_with (go_at_call 63; ((with_reducible refine C.out.mono ?_); rintro e w1 ⟨_, rfl, hb1, rfl⟩))
  go_ret
  exact retB HX.out hb1
end Go.Proofs.Ytjbakmmmgejhlaa

/-
  What Judge reckons, in plain terms; sessions kept side by side; a map of sessions.
-/
namespace Go.Proofs.Ytjbakmmmgejhlaa
open Go.RowKit Go.Maps

/-! ### What Judge reckons -/
abbrev St := Ctx × Ctx
def st0 : St := (([], []), ([], []))
def stepS (s : St) (v : Vis) : St := if v.w then (s.1, addC s.2 [v.d]) else (unionC s.1 v.x, s.2)
def brokS (s : St) (v : Vis) : Int := if v.w then winS s.1 v.x 4 + winS s.2 v.x 8 else winS s.2 v.x 1 + winS s.1 v.x 2
def stOf (l : List Vis) (c : Int) : St := (l.filter fun v => v.c == c).foldl stepS st0
theorem stOf_nil (c : Int) : stOf [] c = st0 := rfl
theorem stOf_snoc (l : List Vis) (v : Vis) (c : Int) : stOf (l ++ [v]) c = if v.c = c then stepS (stOf l c) v else stOf l c := by
  unfold stOf
  rw [List.filter_append, List.foldl_append]
  by_cases h : v.c = c
  · rw [if_pos h, List.filter_cons_of_pos (by simp [h])]; rfl
  · rw [if_neg h, List.filter_cons_of_neg (by simp [h])]; rfl
def andI (a b : Int) : Int := Go.bits .and .i64 a b
def judgeS (asked : Int) : List Vis → List Vis → Int × Int
  | _, [] => (-1, 0)
  | pre, v :: t => if andI (brokS (stOf pre v.c) v) asked = 0 then judgeS asked (pre ++ [v]) t else (pre.length, andI (brokS (stOf pre v.c) v) asked)
/-- A state that the walks can take. -/
structure OkS (s : St) : Prop where
  v1 : validC s.1 = true
  v2 : validC s.2 = true
  l1 : s.1.1.length + s.1.2.length ≤ 1000
  l2 : s.2.1.length + s.2.2.length ≤ 1000
/-- .. at each step, for each client. -/
def Fits (l : List Vis) : Prop := ∀ k c, OkS (stOf (l.take k) c)
theorem ok0 : OkS st0 := ⟨rfl, rfl, by simp [st0], by simp [st0]⟩
theorem valid_one {d : Dot} (h : validD d = true) : validL [d] = true := validL_of fun x hx => by rw [List.mem_singleton.1 hx]; exact h
theorem add_valid {c : Ctx} {l : List Dot} (h : validC c = true) (hl : validL l = true) : validC (addC c l) = true := ok_iff.2 (add_spec (ok_iff.1 h) hl).1.ok

/-! ### Worlds that differ at one block -/
section
variable {N M : Nat} {w w' : World}
theorem Hole.cell (h : Hole N w w') {p : Addr} (hp : p.block < w.heap.size) (hn : p.block ≠ N) : w'.cell? p = w.cell? p := World.cell?_of_block (w := w) (h.block p.block hp hn)
theorem Hole.frozen (h : Hole N w w') {p : Addr} (hp : p.block < w.heap.size) (hn : p.block ≠ N) : w'.frozen? p = w.frozen? p := World.frozen?_of_block (w := w) (h.block p.block hp hn)
theorem Hole.keep (h : Hole N w w') {p : Addr} {u : Value} (hn : p.block ≠ N) (hc : w.cell? p = some u) : w'.cell? p = some u := (h.cell (World.block_lt_of_cell? w p hc) hn).trans hc
theorem Hole.int (h : Hole N w w') (ni : NoInt w N) {b o : Nat} {x : Int} (hc : w.cell? ⟨b, o, none⟩ = some (.int .i64 x)) : w'.cell? ⟨b, o, none⟩ = some (.int .i64 x) :=
  h.keep (p := ⟨b, o, none⟩) (fun e => by have e : b = N := e; subst e; exact ni o x hc) hc
theorem Dots.hole {A : Option Addr} {n c : Nat} {l : List Dot} (d : Dots w A n c l) (ni : NoInt w N) (h : Hole N w w') : Dots w' A n c l :=
  ⟨d.len, d.cap, d.max, d.nil, fun i x hi => by
    obtain ⟨b, o, e, hb, h1, h2⟩ := d.cell i x hi
    exact ⟨b, o, e, Nat.lt_of_lt_of_le hb h.size, h.int ni h1, h.int ni h2⟩⟩
theorem Con.hole {A B : Option Addr} {n ca m cb : Nat} {c : Ctx} (k : Con w A n ca B m cb c) (ni : NoInt w N) (h : Hole N w w') : Con w' A n ca B m cb c := ⟨k.v.hole ni h, k.k.hole ni h⟩
theorem NoInt.hole (h : Hole N w w') (hM : M < w.heap.size) (hn : M ≠ N) (ni : NoInt w M) : NoInt w' M := fun o x e => ni o x ((h.cell (p := ⟨M, o, none⟩) hM hn).symm.trans e)
theorem SessAt.ni {h r : Ctx} (s : SessAt N h r w) : NoInt w N := let ⟨_, _, _, _, _, _, _, _, _, _, _, _, _, _, _, _, _, _, _, n⟩ := s; n
theorem SessAt.hole {a b : Ctx} (s : SessAt M a b w) (ni : NoInt w N) (h : Hole N w w') (hn : M ≠ N) : SessAt M a b w' := by
  have hz := s.size
  obtain ⟨A, n, ca, B, m, cb, A2, n2, ca2, B2, m2, cb2, c0, c1, c2, c3, k1, k2, f, nM⟩ := s
  exact ⟨A, n, ca, B, m, cb, A2, n2, ca2, B2, m2, cb2, h.keep (p := ⟨M, 0, none⟩) hn c0, h.keep (p := ⟨M, 1, none⟩) hn c1, h.keep (p := ⟨M, 2, none⟩) hn c2, h.keep (p := ⟨M, 3, none⟩) hn c3, k1.hole ni h, k2.hole ni h, fun o => (h.frozen (p := ⟨M, o, none⟩) hz hn).trans (f o), nM.hole h hz hn⟩
end
/-- The zero session, new. -/
theorem SessAt.new (w : World) : SessAt w.heap.size ([], []) ([], []) (w.alloc (.cells #[.slice none 0 0, .slice none 0 0, .slice none 0 0, .slice none 0 0] 46)) :=
  ⟨none, 0, 0, none, 0, 0, none, 0, 0, none, 0, 0, by simp [go_sem], by simp [go_sem], by simp [go_sem], by simp [go_sem], ⟨Dots.nil_, Dots.nil_⟩, ⟨Dots.nil_, Dots.nil_⟩, fun o => by simp [go_sem], fun o x e => by
    simp only [World.cell?, World.alloc] at e
    simp at e
    match o, e with
    | 0, e => simp at e
    | 1, e => simp at e
    | 2, e => simp at e
    | 3, e => simp at e
    | n + 4, e => simp at e⟩

/-! ### A map of sessions -/
/-- How a pointer to a block reads. -/
def ptrR (v : Value) : Option (DU × List MemPlace) :=
  match v with
  | .pointer none => some (.nil, [])
  | .pointer (some ⟨b, 0, none⟩) => some (.lit (.int .i64 b), [])
  | _ => none
def ptrV (r : Option Nat) : Value := .pointer (r.map fun N => ⟨N, 0, none⟩)
def ptrD (r : Option Nat) : DU := match r with | none => .nil | some N => .lit (.int .i64 N)
theorem ptrR_inv {v : Value} {r : Option Nat} {ps : List MemPlace} (h : ptrR v = some (ptrD r, ps)) : v = ptrV r := by
  unfold ptrR at h
  split at h
  · cases r with
    | none => rfl
    | some N => simp [ptrD] at h
  · cases r with
    | none => simp [ptrD] at h
    | some N =>
      simp only [ptrD, Option.some.injEq, Prod.mk.injEq, DataW.lit.injEq, Lit.int.injEq, true_and] at h
      have := h.1
      have := Int.ofNat.inj this
      subst this; rfl
  · cases h
/-- The map's entries: for each client, its session's block. -/
def KeyAt (D : DU) (f : Int → Option Nat) : Prop := ∀ c, D.atKey (.int .i64 c) .nil = ptrD (f c)
theorem KeyAt.put {D : DU} {f : Int → Option Nat} (h : KeyAt D f) (hm : Maps.IsMap D) (c : Int) (N : Nat) : KeyAt (D.put (.int .i64 c) (ptrD (some N))) (fun x => if x = c then some N else f x) := fun x => by
  by_cases e : x = c
  · subst e; simp only [if_pos]; exact Maps.atKey_put_same hm (key_int x) _ _
  · simp only [if_neg e]; rw [Maps.atKey_put_other (fun h => e (by cases h; rfl))]; exact h x
/-- The sessions of the clients. -/
structure Keeps (B mb : Nat) (f : Int → Option Nat) (s : Int → St) (w : World) : Prop where
  at_ : ∀ {c N}, f c = some N → B ≤ N ∧ N ≠ mb ∧ SessAt N (s c).1 (s c).2 w
  no : ∀ {c}, f c = none → s c = st0
  inj : ∀ {c c' N}, f c = some N → f c' = some N → c = c'
section
variable {B mb N : Nat} {f : Int → Option Nat} {s : Int → St} {w w' : World}
theorem Keeps.mono (h : Keeps B mb f s w) (hb : Below w.heap.size w w') : Keeps B mb f s w' := ⟨fun e => let ⟨a, b, c⟩ := h.at_ e; ⟨a, b, c.mono hb⟩, h.no, h.inj⟩
theorem Keeps.step (h : Keeps B mb f s w) {c : Int} (hf : f c = some N) {a b : Ctx} (hh : Hole N w w') (hs : SessAt N a b w') : Keeps B mb f (fun x => if x = c then (a, b) else s x) w' := by
  obtain ⟨h1, h2, h3⟩ := h.at_ hf
  refine ⟨fun {c' M} e => ?_, fun {c'} e => ?_, h.inj⟩
  · by_cases hc : c' = c
    · subst hc
      rw [hf] at e; cases e
      simp only [if_pos]; exact ⟨h1, h2, hs⟩
    · obtain ⟨a1, a2, a3⟩ := h.at_ e
      simp only [if_neg hc]
      exact ⟨a1, a2, a3.hole h3.ni hh (fun e2 => hc (h.inj e (e2 ▸ hf)))⟩
  · have hc : c' ≠ c := fun e2 => by subst e2; rw [hf] at e; cases e
    simp only [if_neg hc]; exact h.no e
theorem Keeps.new (h : Keeps B mb f s w) {c : Int} (hf : f c = none) (hb : Below w.heap.size w w') (h1 : B ≤ N) (h2 : N ≠ mb) (h3 : w.heap.size ≤ N) (hs : SessAt N ([], []) ([], []) w') : Keeps B mb (fun x => if x = c then some N else f x) s w' := by
  refine ⟨fun {c' M} e => ?_, fun {c'} e => ?_, fun {c1 c2 M} e1 e2 => ?_⟩
  · by_cases hc : c' = c
    · subst hc
      simp only [if_pos, Option.some.injEq] at e
      subst e
      rw [h.no hf]
      exact ⟨h1, h2, hs⟩
    · simp only [if_neg hc] at e
      obtain ⟨a1, a2, a3⟩ := h.at_ e
      exact ⟨a1, a2, a3.mono hb⟩
  · by_cases hc : c' = c
    · simp [hc] at e
    · simp only [if_neg hc] at e; exact h.no e
  · by_cases k1 : c1 = c <;> by_cases k2 : c2 = c
    · rw [k1, k2]
    · simp only [if_pos k1, if_neg k2, Option.some.injEq] at e1 e2
      subst e1
      have := (h.at_ e2).2.2.size; omega
    · simp only [if_neg k1, if_pos k2, Option.some.injEq] at e1 e2
      subst e2
      have := (h.at_ e1).2.2.size; omega
    · simp only [if_neg k1, if_neg k2] at e1 e2; exact h.inj e1 e2
end
theorem ownsMap_hole {b n N : Nat} {D : DU} {w w' : World} (h : w.ownsMap Try.prog 3 ptrR b n D) (hh : Hole N w w') (hn : b ≠ N) : w'.ownsMap Try.prog 3 ptrR b n D := by
  have hlt := h.lt
  obtain ⟨es, clock, hb, F, hs, hD⟩ := h
  exact ⟨es, clock, (hh.block b hlt hn).trans hb, F, hs, hD⟩
theorem ownsMap_below {b n : Nat} {D : DU} {w w' : World} (h : w.ownsMap Try.prog 3 ptrR b n D) (hb : Below w.heap.size w w') : w'.ownsMap Try.prog 3 ptrR b n D := by
  have hlt := h.lt
  obtain ⟨es, clock, hb0, F, hs, hD⟩ := h
  exact ⟨es, clock, (hb.block b hlt).trans hb0, F, hs, hD⟩
theorem zeroP (w : World) : (zeroValue 44).run Try.prog w = .ok (.pointer none) w := by kernel_rfl
theorem lawInt : Keyed Try.prog 3 := int_keyed Try.underlying3
/-- The look-up at the operation. -/
theorem wpList_lookup_ptr (w : World) {ops : Array Oper} {rest : List Oper} {o : Oper} {a : Act} {Q : Exit → Act → World → Prop} (hg : o.guard = none) (m x : Operand) (t : TypeId) (hop : o.op = Op.lookup t m x false)
    (ht : Try.prog.underlying t = some (.map 3 44)) (b n : Nat) (D : DU) (f : Int → Option Nat) (hm : a.eval m = .map (some b)) (hown : w.ownsMap Try.prog 3 ptrR b n D) (hf : KeyAt D f) (c : Int) (hx : a.eval x = .int .i64 c) (hw : (Lit.int .i64 c).wf = true) (r : Option Nat) (hr : f c = r)
    (hK : wpList Try.prog ops Q rest (a.put o.dst (ptrV r)) w) : wpList Try.prog ops Q (o :: rest) a w := by
  refine wpList_plain hg fun K' hK' => ?_
  obtain ⟨v, ps, hrun, hv⟩ := hown.lookup lawInt ht (zeroP w) (zd := .nil) (zp := []) rfl (keyOf_int_mk Try.underlying3 hw)
  rw [hf c, hr] at hv
  have hv' := ptrR_inv hv
  subst hv'
  unfold Oper.wp
  simp [execOp, hop, hm, hx, hrun, Result.andThen]
  exact hK' _ _ hK
/-- What Judge carries from round to round. -/
def JRel (w : World) (mb n : Nat) (l : List Vis) (asked : Int) (i : Value) (wr : World) : Prop :=
  ∃ (k nm : Nat) (D : DU) (f : Int → Option Nat), i = .int .i64 k ∧ k ≤ n ∧ nm ≤ k ∧ Below w.heap.size w wr ∧ wr.ownsMap Try.prog 3 ptrR mb nm D ∧ Maps.IsMap D ∧ KeyAt D f ∧ Keeps w.heap.size mb f (stOf (l.take k)) wr ∧ mb < wr.heap.size ∧ judgeS asked [] l = judgeS asked (l.take k) (l.drop k)

theorem take_snocV {l : List Vis} {k : Nat} {v : Vis} (h : l[k]? = some v) : l.take (k + 1) = l.take k ++ [v] := by rw [List.take_add_one, h]; rfl
theorem judge_next {l : List Vis} {k : Nat} {v : Vis} {asked : Int} (hm : l[k]? = some v) (hd : l.drop k = v :: l.drop (k + 1)) (h : andI (brokS (stOf (l.take k) v.c) v) asked = 0) : judgeS asked (l.take k) (l.drop k) = judgeS asked (l.take (k + 1)) (l.drop (k + 1)) := by
  rw [hd, judgeS, if_pos h, take_snocV hm]
theorem judge_stop {l : List Vis} {k : Nat} {v : Vis} {asked : Int} (hk : k ≤ l.length) (hd : l.drop k = v :: l.drop (k + 1)) (h : ¬ andI (brokS (stOf (l.take k) v.c) v) asked = 0) : judgeS asked (l.take k) (l.drop k) = ((k : Int), andI (brokS (stOf (l.take k) v.c) v) asked) := by
  rw [hd, judgeS, if_neg h, List.length_take, Nat.min_eq_left hk]
theorem stOf_next {l : List Vis} {k : Nat} {v : Vis} (hm : l[k]? = some v) : stOf (l.take (k + 1)) = fun x => if x = v.c then stepS (stOf (l.take k) v.c) v else stOf (l.take k) x := by
  funext x
  rw [take_snocV hm, stOf_snoc]
  by_cases h : v.c = x
  · subst h; simp
  · rw [if_neg h, if_neg (fun e => h e.symm)]
theorem Hole.ofGrown {b : Nat} {w w' : World} (h : w.grownBy w' (some b)) : Hole b w w' := ⟨h.os, h.tape, h.output, h.size, fun k hk hn => h.block k hk (fun e => hn (by cases e; rfl))⟩
theorem ownsMap_noInt {b n : Nat} {D : DU} {w : World} (h : w.ownsMap Try.prog 3 ptrR b n D) : NoInt w b := fun o x e => by
  obtain ⟨es, clock, hb, _⟩ := h
  simp [World.cell?, hb] at e
theorem Keeps.hole {B mb : Nat} {f : Int → Option Nat} {s : Int → St} {w w' : World} (h : Keeps B mb f s w) (ni : NoInt w mb) (hh : Hole mb w w') : Keeps B mb f s w' := ⟨fun e => let ⟨a, b, c⟩ := h.at_ e; ⟨a, b, c.hole ni hh b⟩, h.no, h.inj⟩
theorem VisAt.hole {b o n ca m cb N : Nat} {A B : Option Addr} {v : Vis} {w w' : World} (h : VisAt b o A n ca B m cb v w) (ni : NoInt w N) (hh : Hole N w w') (hn : b ≠ N) : VisAt b o A n ca B m cb v w' :=
  ⟨hh.keep (p := ⟨b, _, none⟩) hn h.c0, hh.keep (p := ⟨b, _, none⟩) hn h.c1, hh.keep (p := ⟨b, _, none⟩) hn h.c2, hh.keep (p := ⟨b, _, none⟩) hn h.c3, hh.keep (p := ⟨b, _, none⟩) hn h.c4, hh.keep (p := ⟨b, _, none⟩) hn h.c5, h.con.hole ni hh⟩
theorem _root_.Go.RowKit.Below.hole {B N : Nat} {a w w' : World} (h : Below B a w) (hh : Hole N w w') (hB : B ≤ N) (hs : B ≤ w.heap.size) : Below B a w' := h.trans (hh.below hB hs)

/-! ### Guarantees -/
theorem not_small {x : BitVec 64} : (x &&& ~~~15#64 = 0#64) ↔ x.toNat < 16 := by
  constructor
  · intro h
    have h1 : x >>> 4 = 0#64 := by
      apply BitVec.eq_of_getLsbD_eq
      intro i hi
      rw [BitVec.getLsbD_ushiftRight]
      by_cases hlt : 4 + i < 64
      · have h2 : (x &&& ~~~15#64).getLsbD (4 + i) = false := by rw [h]; simp
        rw [BitVec.getLsbD_and, BitVec.getLsbD_not] at h2
        have h3 : (15#64).getLsbD (4 + i) = false := by
          show Nat.testBit 15 (4 + i) = false
          exact Nat.testBit_lt_two_pow (Nat.lt_of_lt_of_le (by decide : 15 < 2 ^ 4) (Nat.pow_le_pow_right (by decide) (by omega)))
        rw [h3] at h2
        simpa [hlt] using h2
      · have : x.getLsbD (4 + i) = false := BitVec.getLsbD_of_ge x _ (by omega)
        rw [this]; simp
    have h2 := congrArg BitVec.toNat h1
    rw [BitVec.toNat_ushiftRight, Nat.shiftRight_eq_div_pow] at h2
    have h3 : (0#64).toNat = 0 := rfl
    rw [h3] at h2
    omega
  · intro h
    have hx : x = BitVec.ofNat 64 x.toNat := by simp
    have hall : ∀ n : Fin 16, (BitVec.ofNat 64 n.val &&& ~~~15#64) = 0#64 := by decide
    have := hall ⟨x.toNat, h⟩
    rw [hx]; exact this
def restI (a : Int) : Int := Go.bits .andNot .i64 a 15
theorem rest_zero {a : Int} (h : (Lit.int .i64 a).wf = true) : restI a = 0 ↔ 0 ≤ a ∧ a ≤ 15 := by
  have hr : -9223372036854775808 ≤ a ∧ a ≤ 9223372036854775807 := by
    have := h
    simp only [Lit.wf, Bool.and_eq_true, decide_eq_true_eq] at this
    exact this
  have e : restI a = IntKind.i64.wrap ((BitVec.ofInt 64 a &&& ~~~15#64).toNat : Int) := rfl
  have wz : ∀ n : Nat, n < 18446744073709551616 → (IntKind.i64.wrap (n : Int) = 0 ↔ n = 0) := fun n hn => by
    have h1 : ((n : Int) % 2 ^ IntKind.i64.bits) = n := Int.emod_eq_of_lt (by omega) (by show (n : Int) < 18446744073709551616; omega)
    have hp : (2 : Int) ^ IntKind.i64.bits = 18446744073709551616 := rfl
    unfold IntKind.wrap
    simp only [h1]
    have hq : (2 : Int) ^ (IntKind.i64.bits - 1) = 9223372036854775808 := rfl
    split
    · rename_i h3
      rw [Bool.and_eq_true, decide_eq_true_iff, hq] at h3
      rw [hp]; omega
    · omega
  rw [e, wz _ (BitVec.isLt _)]
  have hz : (BitVec.ofInt 64 a &&& ~~~15#64).toNat = 0 ↔ (BitVec.ofInt 64 a &&& ~~~15#64) = 0#64 := by
    constructor
    · intro h1; exact BitVec.eq_of_toNat_eq (by rw [h1]; rfl)
    · intro h1; rw [h1]; rfl
  rw [hz, not_small, BitVec.toNat_ofInt]
  have : ((a % (2 ^ 64 : Nat)).toNat : Int) = a % 18446744073709551616 := by
    rw [Int.toNat_of_nonneg (Int.emod_nonneg _ (by decide))]; rfl
  omega
end Go.Proofs.Ytjbakmmmgejhlaa

/-
  session.Judge: what it refuses.
-/
namespace Go.Proofs.Ytjbakmmmgejhlaa
open Go.RowKit Go.Maps

def IsThree (i g e : Int) (_ : World) (v : Value) : Prop := v = .tuple #[.int .i64 i, .int .i64 g, .int .i64 e]
instance (i g e : Int) : Grows (IsThree i g e) := ⟨fun _ h => h⟩
set_option maxRecDepth 100000 in
set_option maxHeartbeats 1000000 in
theorem sjudgeLong (A : Option Addr) (n c : Nat) (asked : Int) (w : World) (hn : 1000 < n) (hb : n ≤ 9223372036854775807) :
    Calls Try.prog 30 #[.slice A n c, .int .i64 asked] w (Ret w (IsThree 0 0 5)) := by
  have hd : decide ((1000 : Int) < (n : Int)) = true := by rw [decide_eq_true_iff]; omega
  clear hn
  go_enter Try.func30, Try.ntmps30
  go_wp2
  refine bodyPost_ret (v := .tuple #[.int .i64 0, .int .i64 0, .int .i64 5]) (by simp [results, Try.results30, go_sem]) rfl ?_
  exact ⟨_, rfl, Below.refl _ _, rfl⟩
set_option maxRecDepth 100000 in
set_option maxHeartbeats 1000000 in
theorem sjudgeArg (A : Option Addr) (n c : Nat) (l : List Vis) (asked : Int) (w : World) (h : Visits w A n c l) (hn : n ≤ 1000) (hw : (Lit.int .i64 asked).wf = true) (hno : (0 ≤ asked ∧ asked ≤ 15) → l.any badS = true) :
    Calls Try.prog 30 #[.slice A n c, .int .i64 asked] w (Ret w (IsThree 0 0 2)) := by
  have hd : decide ((1000 : Int) < (n : Int)) = false := by rw [decide_eq_false_iff_not]; omega
  have hbig := h.big
  have C := Lib.hid (vcontains A n c l w h)
  by_cases ha : 0 ≤ asked ∧ asked ≤ 15
  · have HB := Lib.hid (hno ha)
    have hz : Go.bits .andNot .i64 asked 15 = 0 := (rest_zero hw).2 ha
    rw [HB.out] at C
    clear hno hn h hw ha HB
    go_enter Try.func30, Try.ntmps30
    go_wp2_with (go_at_call 46; ((with_reducible refine C.out.mono ?_); rintro e w1 ⟨_, rfl, hb1, rfl⟩; have HB1 := Lib.hid hb1; clear hb1))
    refine bodyPost_ret (v := .tuple #[.int .i64 0, .int .i64 0, .int .i64 2]) (by simp [results, Try.results30, go_sem]) rfl ?_
    exact ⟨_, rfl, HB1.out, rfl⟩
  · have hz : ¬ Go.bits .andNot .i64 asked 15 = 0 := fun e => ha ((rest_zero hw).1 e)
    have hz2 : decide (Go.bits .andNot .i64 asked 15 = 0) = false := decide_eq_false hz
    clear hno hn h hw ha C
    go_enter Try.func30, Try.ntmps30
    go_wp2
    refine bodyPost_ret (v := .tuple #[.int .i64 0, .int .i64 0, .int .i64 2]) (by simp [results, Try.results30, go_sem]) rfl ?_
    exact ⟨_, rfl, Below.refl _ _, rfl⟩
end Go.Proofs.Ytjbakmmmgejhlaa

/-
  session.Judge.
-/
namespace Go.Proofs.Ytjbakmmmgejhlaa
open Go.RowKit Go.Maps

set_option maxRecDepth 100000 in
set_option maxHeartbeats 8000000 in
theorem sjudge (A : Option Addr) (n c : Nat) (l : List Vis) (asked : Int) (w : World) (h : Visits w A n c l) (hn : n ≤ 1000) (ha : 0 ≤ asked ∧ asked ≤ 15) (hb : l.any badS = false) (hf : Fits l) (hs : ∀ v ∈ l, v.x.1.length + v.x.2.length ≤ 1000) (hw : ∀ v ∈ l, (Lit.int .i64 v.c).wf = true) :
    Calls Try.prog 30 #[.slice A n c, .int .i64 asked] w (Ret w (IsThree (judgeS asked [] l).1 (judgeS asked [] l).2 0)) := by
  have hmm := @run_makeMap Try.prog
  have hd : decide ((1000 : Int) < (n : Int)) = false := by rw [decide_eq_false_iff_not]; omega
  have hz : Go.bits .andNot .i64 asked 15 = 0 := (rest_zero (WalkArith.wf_i64 (by omega))).2 ha
  have hbig := h.big
  have C := Lib.hid (vcontains A n c l w h)
  rw [hb] at C
  have H := Lib.hid h; have HF := Lib.hid hf; have HS := Lib.hid hs; have HW := Lib.hid hw; have HN := Lib.hid hn; have HBAD := Lib.hid hb
  clear hb hn h hw hf hs ha
  go_enter Try.func30, Try.ntmps30
  go_wp2_with (go_at_call 46; ((with_reducible refine C.out.mono ?_); rintro e w1 ⟨_, rfl, hb1, rfl⟩; have HB1 := Lib.hid hb1; clear hb1))
  have hw1 := HB1.out.size
  have hb2 : Below w.heap.size w (w1.alloc (.map #[] 0)) := HB1.out.alloc hw1 _
  have start : JRel w w1.heap.size n l asked (.int .i64 ((0 : Nat) : Int)) (w1.alloc (.map #[] 0)) :=
    ⟨0, 0, .map [], fun _ => none, rfl, Nat.zero_le _, Nat.le_refl _, hb2, World.ownsMap_made _ _ _ _, Maps.isMap_empty, fun _ => rfl, ⟨(fun e => nomatch e), fun _ => rfl, (fun e => nomatch e)⟩, by simp, rfl⟩
  have START := Lib.hid start; have MB := Lib.hid hw1
  clear start hw1 hb2 HB1 C
  generalize w1.heap.size = mb at *
  go_loopw [25] (fun i wr => JRel w mb n l asked i wr) (fun i _ => n - (intOf i).toNat)
  case atStart => exact START.out
  case round =>
    clear START
    obtain ⟨k, nm, D, f, rfl, hk, hnm, hbl, hown, him, hka, hks, hmb, hj⟩ := hrel
    by_cases hlt : k < n
    · obtain ⟨b, o, A1, n1, ca1, B1, m1, cb1, v, rfl, hv, hm, d1⟩ := (H.out.mono hbl).at_ (k := n) (i := k) hlt
      have e0 := hv.c0; have e1 := hv.c1; have e2 := hv.c2; have e3 := hv.c3; have e4 := hv.c4; have e5 := hv.c5
      have hvl := List.mem_of_getElem? hm
      have okv := HF.out k v.c
      have CON := Lib.hid hv.con; have LV := Lib.hid (HS.out v hvl); have WF := Lib.hid (HW.out v hvl); have OKV := Lib.hid okv
      have hbv : badS v = false := by
        have := HBAD.out
        rw [List.any_eq_false] at this
        have := this v hvl
        simpa using this
      have BV := Lib.hid hbv
      have OWN := Lib.hid hown; have IM := Lib.hid him; have KA := Lib.hid hka; have KS := Lib.hid hks; have HJ := Lib.hid hj; have HM := Lib.hid hm; have D1 := Lib.hid d1; have HBL := Lib.hid hbl; have HNM := Lib.hid hnm; have MB0 := Lib.hid hmb
      clear hown him hka hks hj hm d1 hbl hnm hbv okv hvl hv
      generalize hfc : f v.c = r at *
      have FC := Lib.hid hfc
      clear hfc
      obtain ⟨cl, wrt, ⟨p, q⟩, x⟩ := v
      have hal : Below wr.heap.size wr (wr.alloc (visBox ⟨cl, wrt, (p, q), x⟩ A1 n1 ca1 B1 m1 cb1)) := (Below.refl _ _).alloc (Nat.le_refl _) _
      have VA := Lib.hid (VisAt.new (v := ⟨cl, wrt, (p, q), x⟩) CON.out)
      have HAL := Lib.hid hal
      have hzA : (wr.alloc (visBox ⟨cl, wrt, (p, q), x⟩ A1 n1 ca1 B1 m1 cb1)).heap.size = wr.heap.size + 1 := by simp
      have HZA := Lib.hid hzA
      clear hal hzA
      cases r with
      | some N =>
        obtain ⟨nm2, hnm2⟩ : ∃ x, x = nm := ⟨_, rfl⟩
        obtain ⟨D2, hD2⟩ : ∃ x, x = D := ⟨_, rfl⟩
        obtain ⟨f2, hf2⟩ : ∃ x, x = f := ⟨_, rfl⟩
        have KA2 := Lib.hid (show KeyAt D2 f2 by rw [hD2, hf2]; exact KA.out); have IM2 := Lib.hid (show Maps.IsMap D2 by rw [hD2]; exact IM.out); have FC2 := Lib.hid (show f2 cl = some N by rw [hf2]; exact FC.out)
        have OWN2 := Lib.hid (OWN.out.alloc (visBox ⟨cl, wrt, (p, q), x⟩ A1 n1 ca1 B1 m1 cb1)); have KS2 := Lib.hid (KS.out.mono HAL.out); have HB2 := Lib.hid (HBL.out.le HAL.out)
        have NM2 := Lib.hid (show nm2 ≤ k + 1 by have := HNM.out; omega)
        rw [← hnm2, ← hD2] at OWN2
        rw [← hf2] at KS2
        clear KA IM FC KS OWN HBL HNM hnm2 hD2 hf2
        cases wrt with
        | true =>
          go_wp2_with (first
            | (at_lookup; refine wpList_lookup_ptr _ rfl _ _ 82 rfl Try.underlying82 mb nm2 D2 f2 rfl OWN2.out KA2.out cl rfl WF.out (some N) FC2.out ?_; simp only [ptrV, Option.map, Act.put, List.setIfInBounds_toArray, List.set_cons_zero, List.set_cons_succ]; generalize wr.alloc (visBox ⟨cl, _, (p, q), x⟩ A1 n1 ca1 B1 m1 cb1) = w2 at *; have y1 := VA.out.c1; have y2 := VA.out.c2; have y3 := VA.out.c3; have y4 := VA.out.c4; have y5 := VA.out.c5)
            | fail)
          have hst := (KS2.out.at_ FC2.out)
          obtain ⟨hN1, hN2, hsess⟩ := hst
          have SS := Lib.hid hsess; have HN1 := Lib.hid hN1; have HN2 := Lib.hid hN2
          clear hsess hN1 hN2
          have hvx : validC x = true := by
            have := BV.out
            simp only [badS, Bool.or_eq_false_iff, Bool.not_eq_false'] at this
            exact this.1
          have hbad : validD (p, q) = true ∧ hasC x (p, q) = false := by
            have := BV.out
            simp only [badS, Bool.or_eq_false_iff, Bool.true_and, Bool.not_eq_false'] at this
            exact this.2
          obtain ⟨g, hg0⟩ : ∃ g, brokS (stOf (l.take k) cl) ⟨cl, true, (p, q), x⟩ = g := ⟨_, rfl⟩
          have CALL := Lib.hid (swrite p q N A1 B1 n1 ca1 m1 cb1 (stOf (l.take k) cl).1 (stOf (l.take k) cl).2 x w2 SS.out VA.out.con OKV.out.l1 OKV.out.l2 LV.out OKV.out.v1 OKV.out.v2 hvx hbad.1 hbad.2)
          have hgg : winS (stOf (l.take k) cl).1 x 4 + winS (stOf (l.take k) cl).2 x 8 = g := hg0
          clear hbad
          rw [hgg] at CALL
          clear hgg hvx
          refine CALL.out.mono ?_
          rintro e w3 ⟨rfl, hh3, hs3⟩
          have HH := Lib.hid hh3; have SS3 := Lib.hid hs3; clear hh3 hs3 CALL
          have HB3 := Lib.hid (HB2.out.hole HH.out HN1.out HB2.out.size)
          have OWN3 := Lib.hid (ownsMap_hole OWN2.out HH.out (fun e => HN2.out e.symm))
          have KS3 := Lib.hid (show Keeps w.heap.size mb f2 (stOf (l.take (k + 1))) w3 by rw [stOf_next HM.out]; exact KS2.out.step FC2.out HH.out SS3.out)
          have MB3 := Lib.hid (Nat.lt_of_lt_of_le OWN2.out.lt HH.out.size)
          clear KS2 HB2 OWN2 SS SS3 HH VA
          clear y1 y2 y3 y4 y5
          have HG0 := Lib.hid hg0
          clear hg0
          have hdec := Lib.hid (rfl : decide (Go.bits .and .i64 g asked = 0) = decide (Go.bits .and .i64 g asked = 0))
          by_cases hq : Go.bits .and .i64 g asked = 0
          · have hq2 : decide (Go.bits .and .i64 g asked = 0) = true := decide_eq_true hq
            have JN := Lib.hid (judge_next HM.out D1.out (by rw [HG0.out]; exact hq))
            have HQ := Lib.hid hq
            clear hdec
            go_wp2
            go_roundw
            case rel => exact ⟨k + 1, nm2, D2, f2, by simp, hlt, NM2.out, HB3.out, OWN3.out, IM2.out, KA2.out, KS3.out, MB3.out, HJ.out.trans JN.out⟩
            case measure => simp [intOf]; omega
          · have hq2 : decide (Go.bits .and .i64 g asked = 0) = false := decide_eq_false hq
            have hq3 : (Go.bits .and .i64 g asked != 0) = true := by simp [hq]
            have JS := Lib.hid (HJ.out.trans (judge_stop (by have := H.out.len; omega) D1.out (by rw [HG0.out]; exact hq)))
            have e1 : (judgeS asked [] l).1 = k := by rw [JS.out]
            have e2 : (judgeS asked [] l).2 = Go.bits .and .i64 g asked := by rw [JS.out, HG0.out]; rfl
            have E1 := Lib.hid e1; have E2 := Lib.hid e2
            clear hdec e1 e2 hq
            go_wp2
            refine bodyPost_ret (v := .tuple #[.int .i64 k, .int .i64 (Go.bits .and .i64 g asked), .int .i64 0]) (by simp [results, Try.results30, go_sem]) rfl ?_
            exact ⟨_, rfl, HB3.out, by rw [E1.out, E2.out]; rfl⟩
        | false =>
          go_wp2_with (first
            | (at_lookup; refine wpList_lookup_ptr _ rfl _ _ 82 rfl Try.underlying82 mb nm2 D2 f2 rfl OWN2.out KA2.out cl rfl WF.out (some N) FC2.out ?_; simp only [ptrV, Option.map, Act.put, List.setIfInBounds_toArray, List.set_cons_zero, List.set_cons_succ]; generalize wr.alloc (visBox ⟨cl, _, (p, q), x⟩ A1 n1 ca1 B1 m1 cb1) = w2 at *; have y1 := VA.out.c1; have y2 := VA.out.c2; have y3 := VA.out.c3; have y4 := VA.out.c4; have y5 := VA.out.c5)
            | fail)
          have hst := (KS2.out.at_ FC2.out)
          obtain ⟨hN1, hN2, hsess⟩ := hst
          have SS := Lib.hid hsess; have HN1 := Lib.hid hN1; have HN2 := Lib.hid hN2
          clear hsess hN1 hN2
          have hvx : validC x = true := by
            have := BV.out
            simp only [badS, Bool.or_eq_false_iff, Bool.not_eq_false'] at this
            exact this.1
          obtain ⟨g, hg0⟩ : ∃ g, brokS (stOf (l.take k) cl) ⟨cl, false, (p, q), x⟩ = g := ⟨_, rfl⟩
          have CALL := Lib.hid (sread N A1 B1 n1 ca1 m1 cb1 (stOf (l.take k) cl).1 (stOf (l.take k) cl).2 x w2 SS.out VA.out.con OKV.out.l1 OKV.out.l2 LV.out OKV.out.v1 OKV.out.v2 hvx)
          have hgg : winS (stOf (l.take k) cl).2 x 1 + winS (stOf (l.take k) cl).1 x 2 = g := hg0
          rw [hgg] at CALL
          clear hgg hvx
          refine CALL.out.mono ?_
          rintro e w3 ⟨rfl, hh3, hs3⟩
          have HH := Lib.hid hh3; have SS3 := Lib.hid hs3; clear hh3 hs3 CALL
          have HB3 := Lib.hid (HB2.out.hole HH.out HN1.out HB2.out.size)
          have OWN3 := Lib.hid (ownsMap_hole OWN2.out HH.out (fun e => HN2.out e.symm))
          have KS3 := Lib.hid (show Keeps w.heap.size mb f2 (stOf (l.take (k + 1))) w3 by rw [stOf_next HM.out]; exact KS2.out.step FC2.out HH.out SS3.out)
          have MB3 := Lib.hid (Nat.lt_of_lt_of_le OWN2.out.lt HH.out.size)
          clear KS2 HB2 OWN2 SS SS3 HH VA
          clear y1 y2 y3 y4 y5
          have HG0 := Lib.hid hg0
          clear hg0
          have hdec := Lib.hid (rfl : decide (Go.bits .and .i64 g asked = 0) = decide (Go.bits .and .i64 g asked = 0))
          by_cases hq : Go.bits .and .i64 g asked = 0
          · have hq2 : decide (Go.bits .and .i64 g asked = 0) = true := decide_eq_true hq
            have JN := Lib.hid (judge_next HM.out D1.out (by rw [HG0.out]; exact hq))
            have HQ := Lib.hid hq
            clear hdec
            go_wp2
            go_roundw
            case rel => exact ⟨k + 1, nm2, D2, f2, by simp, hlt, NM2.out, HB3.out, OWN3.out, IM2.out, KA2.out, KS3.out, MB3.out, HJ.out.trans JN.out⟩
            case measure => simp [intOf]; omega
          · have hq2 : decide (Go.bits .and .i64 g asked = 0) = false := decide_eq_false hq
            have hq3 : (Go.bits .and .i64 g asked != 0) = true := by simp [hq]
            have JS := Lib.hid (HJ.out.trans (judge_stop (by have := H.out.len; omega) D1.out (by rw [HG0.out]; exact hq)))
            have e1 : (judgeS asked [] l).1 = k := by rw [JS.out]
            have e2 : (judgeS asked [] l).2 = Go.bits .and .i64 g asked := by rw [JS.out, HG0.out]; rfl
            have E1 := Lib.hid e1; have E2 := Lib.hid e2
            clear hdec e1 e2 hq
            go_wp2
            refine bodyPost_ret (v := .tuple #[.int .i64 k, .int .i64 (Go.bits .and .i64 g asked), .int .i64 0]) (by simp [results, Try.results30, go_sem]) rfl ?_
            exact ⟨_, rfl, HB3.out, by rw [E1.out, E2.out]; rfl⟩
      | none =>
        have hnm1 : nm < maxLen := by have := HNM.out; unfold maxLen; omega
        have NMX := Lib.hid hnm1
        have SN := Lib.hid (SessAt.new (wr.alloc (visBox ⟨cl, wrt, (p, q), x⟩ A1 n1 ca1 B1 m1 cb1)))
        rw [HZA.out] at SN
        have hal2 : Below wr.heap.size wr ((wr.alloc (visBox ⟨cl, wrt, (p, q), x⟩ A1 n1 ca1 B1 m1 cb1)).alloc (.cells #[.slice none 0 0, .slice none 0 0, .slice none 0 0, .slice none 0 0] 46)) := HAL.out.alloc HAL.out.size _
        have VB := Lib.hid (VA.out.mono ((Below.refl _ _).alloc (o := .cells #[.slice none 0 0, .slice none 0 0, .slice none 0 0, .slice none 0 0] 46) (Nat.le_refl _)))
        have KB := Lib.hid (KS.out.new (N := wr.heap.size + 1) FC.out hal2 (by have := HBL.out.size; omega) (by have := MB0.out; omega) (by omega) SN.out)
        have OWA := Lib.hid (OWN.out.alloc (visBox ⟨cl, wrt, (p, q), x⟩ A1 n1 ca1 B1 m1 cb1))
        have OWB := Lib.hid (OWA.out.alloc (.cells #[.slice none 0 0, .slice none 0 0, .slice none 0 0, .slice none 0 0] 46))
        have HBB := Lib.hid (HBL.out.le hal2)
        clear hal2 hnm1
        cases wrt with
        | true =>
          go_wp2_with (first
            | (at_lookup; refine wpList_lookup_ptr _ rfl _ _ 82 rfl Try.underlying82 mb nm D f rfl OWA.out KA.out cl rfl WF.out none FC.out ?_; simp only [ptrV, Option.map, Act.put, List.setIfInBounds_toArray, List.set_cons_zero, List.set_cons_succ])
            | (at_mapUpdate; refine wpList_mapUpdate_own _ rfl _ _ _ 82 rfl 3 44 lawInt Try.underlying82 ptrR mb nm D rfl OWB.out NMX.out _ _ _ rfl rfl (keyOf_int_mk Try.underlying3 WF.out) (ptrD (some (wr.heap.size + 1))) [] rfl ?_; intro w2 hown2 hgr2; have HH2 := Lib.hid (Hole.ofGrown hgr2); have OWN2 := Lib.hid hown2; clear hown2 hgr2; have VA2 := Lib.hid (VB.out.hole (ownsMap_noInt OWB.out) HH2.out (by have := MB0.out; omega)); have y1 := VA2.out.c1; have y2 := VA2.out.c2; have y3 := VA2.out.c3; have y4 := VA2.out.c4; have y5 := VA2.out.c5)
            | fail)
          have KA2 := Lib.hid (KA.out.put IM.out cl (wr.heap.size + 1))
          have IM2 := Lib.hid (IM.out.put (.int .i64 cl) (ptrD (some (wr.heap.size + 1))))
          have KS2 := Lib.hid (KB.out.hole (ownsMap_noInt OWB.out) HH2.out)
          have HB2 := Lib.hid (HBB.out.hole HH2.out MB.out HBB.out.size)
          have NM2 := Lib.hid (show nm + 1 ≤ k + 1 by have := HNM.out; omega)
          have FC2 := Lib.hid (show (fun y => if y = cl then some (wr.heap.size + 1) else f y) cl = some (wr.heap.size + 1) by simp)
          clear VA
          have VA := VA2
          generalize (fun y => if y = cl then some (wr.heap.size + 1) else f y) = f2 at *
          generalize D.put (.int .i64 cl) (ptrD (some (wr.heap.size + 1))) = D2 at *
          generalize nm + 1 = nm2 at *
          generalize wr.heap.size + 1 = N at *
          have hst := (KS2.out.at_ FC2.out)
          obtain ⟨hN1, hN2, hsess⟩ := hst
          have SS := Lib.hid hsess; have HN1 := Lib.hid hN1; have HN2 := Lib.hid hN2
          clear hsess hN1 hN2
          have hvx : validC x = true := by
            have := BV.out
            simp only [badS, Bool.or_eq_false_iff, Bool.not_eq_false'] at this
            exact this.1
          have hbad : validD (p, q) = true ∧ hasC x (p, q) = false := by
            have := BV.out
            simp only [badS, Bool.or_eq_false_iff, Bool.true_and, Bool.not_eq_false'] at this
            exact this.2
          obtain ⟨g, hg0⟩ : ∃ g, brokS (stOf (l.take k) cl) ⟨cl, true, (p, q), x⟩ = g := ⟨_, rfl⟩
          have CALL := Lib.hid (swrite p q N A1 B1 n1 ca1 m1 cb1 (stOf (l.take k) cl).1 (stOf (l.take k) cl).2 x w2 SS.out VA.out.con OKV.out.l1 OKV.out.l2 LV.out OKV.out.v1 OKV.out.v2 hvx hbad.1 hbad.2)
          have hgg : winS (stOf (l.take k) cl).1 x 4 + winS (stOf (l.take k) cl).2 x 8 = g := hg0
          clear hbad
          rw [hgg] at CALL
          clear hgg hvx
          refine CALL.out.mono ?_
          rintro e w3 ⟨rfl, hh3, hs3⟩
          have HH := Lib.hid hh3; have SS3 := Lib.hid hs3; clear hh3 hs3 CALL
          have HB3 := Lib.hid (HB2.out.hole HH.out HN1.out HB2.out.size)
          have OWN3 := Lib.hid (ownsMap_hole OWN2.out HH.out (fun e => HN2.out e.symm))
          have KS3 := Lib.hid (show Keeps w.heap.size mb f2 (stOf (l.take (k + 1))) w3 by rw [stOf_next HM.out]; exact KS2.out.step FC2.out HH.out SS3.out)
          have MB3 := Lib.hid (Nat.lt_of_lt_of_le OWN2.out.lt HH.out.size)
          clear KS2 HB2 OWN2 SS SS3 HH VA
          clear y1 y2 y3 y4 y5
          have HG0 := Lib.hid hg0
          clear hg0
          have hdec := Lib.hid (rfl : decide (Go.bits .and .i64 g asked = 0) = decide (Go.bits .and .i64 g asked = 0))
          by_cases hq : Go.bits .and .i64 g asked = 0
          · have hq2 : decide (Go.bits .and .i64 g asked = 0) = true := decide_eq_true hq
            have JN := Lib.hid (judge_next HM.out D1.out (by rw [HG0.out]; exact hq))
            have HQ := Lib.hid hq
            clear hdec
            go_wp2
            go_roundw
            case rel => exact ⟨k + 1, nm2, D2, f2, by simp, hlt, NM2.out, HB3.out, OWN3.out, IM2.out, KA2.out, KS3.out, MB3.out, HJ.out.trans JN.out⟩
            case measure => simp [intOf]; omega
          · have hq2 : decide (Go.bits .and .i64 g asked = 0) = false := decide_eq_false hq
            have hq3 : (Go.bits .and .i64 g asked != 0) = true := by simp [hq]
            have JS := Lib.hid (HJ.out.trans (judge_stop (by have := H.out.len; omega) D1.out (by rw [HG0.out]; exact hq)))
            have e1 : (judgeS asked [] l).1 = k := by rw [JS.out]
            have e2 : (judgeS asked [] l).2 = Go.bits .and .i64 g asked := by rw [JS.out, HG0.out]; rfl
            have E1 := Lib.hid e1; have E2 := Lib.hid e2
            clear hdec e1 e2 hq
            go_wp2
            refine bodyPost_ret (v := .tuple #[.int .i64 k, .int .i64 (Go.bits .and .i64 g asked), .int .i64 0]) (by simp [results, Try.results30, go_sem]) rfl ?_
            exact ⟨_, rfl, HB3.out, by rw [E1.out, E2.out]; rfl⟩
        | false =>
          go_wp2_with (first
            | (at_lookup; refine wpList_lookup_ptr _ rfl _ _ 82 rfl Try.underlying82 mb nm D f rfl OWA.out KA.out cl rfl WF.out none FC.out ?_; simp only [ptrV, Option.map, Act.put, List.setIfInBounds_toArray, List.set_cons_zero, List.set_cons_succ])
            | (at_mapUpdate; refine wpList_mapUpdate_own _ rfl _ _ _ 82 rfl 3 44 lawInt Try.underlying82 ptrR mb nm D rfl OWB.out NMX.out _ _ _ rfl rfl (keyOf_int_mk Try.underlying3 WF.out) (ptrD (some (wr.heap.size + 1))) [] rfl ?_; intro w2 hown2 hgr2; have HH2 := Lib.hid (Hole.ofGrown hgr2); have OWN2 := Lib.hid hown2; clear hown2 hgr2; have VA2 := Lib.hid (VB.out.hole (ownsMap_noInt OWB.out) HH2.out (by have := MB0.out; omega)); have y1 := VA2.out.c1; have y2 := VA2.out.c2; have y3 := VA2.out.c3; have y4 := VA2.out.c4; have y5 := VA2.out.c5)
            | fail)
          have KA2 := Lib.hid (KA.out.put IM.out cl (wr.heap.size + 1))
          have IM2 := Lib.hid (IM.out.put (.int .i64 cl) (ptrD (some (wr.heap.size + 1))))
          have KS2 := Lib.hid (KB.out.hole (ownsMap_noInt OWB.out) HH2.out)
          have HB2 := Lib.hid (HBB.out.hole HH2.out MB.out HBB.out.size)
          have NM2 := Lib.hid (show nm + 1 ≤ k + 1 by have := HNM.out; omega)
          have FC2 := Lib.hid (show (fun y => if y = cl then some (wr.heap.size + 1) else f y) cl = some (wr.heap.size + 1) by simp)
          clear VA
          have VA := VA2
          generalize (fun y => if y = cl then some (wr.heap.size + 1) else f y) = f2 at *
          generalize D.put (.int .i64 cl) (ptrD (some (wr.heap.size + 1))) = D2 at *
          generalize nm + 1 = nm2 at *
          generalize wr.heap.size + 1 = N at *
          have hst := (KS2.out.at_ FC2.out)
          obtain ⟨hN1, hN2, hsess⟩ := hst
          have SS := Lib.hid hsess; have HN1 := Lib.hid hN1; have HN2 := Lib.hid hN2
          clear hsess hN1 hN2
          have hvx : validC x = true := by
            have := BV.out
            simp only [badS, Bool.or_eq_false_iff, Bool.not_eq_false'] at this
            exact this.1
          obtain ⟨g, hg0⟩ : ∃ g, brokS (stOf (l.take k) cl) ⟨cl, false, (p, q), x⟩ = g := ⟨_, rfl⟩
          have CALL := Lib.hid (sread N A1 B1 n1 ca1 m1 cb1 (stOf (l.take k) cl).1 (stOf (l.take k) cl).2 x w2 SS.out VA.out.con OKV.out.l1 OKV.out.l2 LV.out OKV.out.v1 OKV.out.v2 hvx)
          have hgg : winS (stOf (l.take k) cl).2 x 1 + winS (stOf (l.take k) cl).1 x 2 = g := hg0
          rw [hgg] at CALL
          clear hgg hvx
          refine CALL.out.mono ?_
          rintro e w3 ⟨rfl, hh3, hs3⟩
          have HH := Lib.hid hh3; have SS3 := Lib.hid hs3; clear hh3 hs3 CALL
          have HB3 := Lib.hid (HB2.out.hole HH.out HN1.out HB2.out.size)
          have OWN3 := Lib.hid (ownsMap_hole OWN2.out HH.out (fun e => HN2.out e.symm))
          have KS3 := Lib.hid (show Keeps w.heap.size mb f2 (stOf (l.take (k + 1))) w3 by rw [stOf_next HM.out]; exact KS2.out.step FC2.out HH.out SS3.out)
          have MB3 := Lib.hid (Nat.lt_of_lt_of_le OWN2.out.lt HH.out.size)
          clear KS2 HB2 OWN2 SS SS3 HH VA
          clear y1 y2 y3 y4 y5
          have HG0 := Lib.hid hg0
          clear hg0
          have hdec := Lib.hid (rfl : decide (Go.bits .and .i64 g asked = 0) = decide (Go.bits .and .i64 g asked = 0))
          by_cases hq : Go.bits .and .i64 g asked = 0
          · have hq2 : decide (Go.bits .and .i64 g asked = 0) = true := decide_eq_true hq
            have JN := Lib.hid (judge_next HM.out D1.out (by rw [HG0.out]; exact hq))
            have HQ := Lib.hid hq
            clear hdec
            go_wp2
            go_roundw
            case rel => exact ⟨k + 1, nm2, D2, f2, by simp, hlt, NM2.out, HB3.out, OWN3.out, IM2.out, KA2.out, KS3.out, MB3.out, HJ.out.trans JN.out⟩
            case measure => simp [intOf]; omega
          · have hq2 : decide (Go.bits .and .i64 g asked = 0) = false := decide_eq_false hq
            have hq3 : (Go.bits .and .i64 g asked != 0) = true := by simp [hq]
            have JS := Lib.hid (HJ.out.trans (judge_stop (by have := H.out.len; omega) D1.out (by rw [HG0.out]; exact hq)))
            have e1 : (judgeS asked [] l).1 = k := by rw [JS.out]
            have e2 : (judgeS asked [] l).2 = Go.bits .and .i64 g asked := by rw [JS.out, HG0.out]; rfl
            have E1 := Lib.hid e1; have E2 := Lib.hid e2
            clear hdec e1 e2 hq
            go_wp2
            refine bodyPost_ret (v := .tuple #[.int .i64 k, .int .i64 (Go.bits .and .i64 g asked), .int .i64 0]) (by simp [results, Try.results30, go_sem]) rfl ?_
            exact ⟨_, rfl, HB3.out, by rw [E1.out, E2.out]; rfl⟩
    · have e : judgeS asked [] l = (-1, 0) := by rw [hj, List.drop_of_length_le (by have := H.out.len; omega)]; rfl
      have E1 := Lib.hid e; have HBL := Lib.hid hbl
      clear e hj hbl hks hka him hown
      go_wp2
      refine bodyPost_ret (v := .tuple #[.int .i64 (-1), .int .i64 0, .int .i64 0]) (by simp [results, Try.results30, go_sem]) rfl ?_
      exact ⟨_, rfl, HBL.out, by rw [E1.out]; rfl⟩
end Go.Proofs.Ytjbakmmmgejhlaa
