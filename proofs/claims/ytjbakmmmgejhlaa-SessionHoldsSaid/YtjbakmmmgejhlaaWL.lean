/-
  The statements' helpers: gives, compacts, made, added, united, within.
-/
import Derived.Test.YtjbakmmmgejhlaaWK
namespace Go.Proofs.Ytjbakmmmgejhlaa
open Go.RowKit

def compR (c : Ctx) : Ctx × Int := if validC c then (passC c, 0) else (([], []), 2)
def addR (c : Ctx) (l : List Dot) : Ctx × Int := if validC c && validL l then (addC c l, 0) else (([], []), 2)
def uniR (a b : Ctx) : Ctx × Int := if validC a && validC b then (unionC a b, 0) else (([], []), 2)
def winR (a b : Ctx) : Bool × Int := if validC a && validC b then (inC a b, 0) else (false, 2)
theorem icompactR (A B : Option Addr) (n ca m cb : Nat) (c : Ctx) (w : World) (h : Con w A n ca B m cb c) (hs : Small (n + m + 1)) :
    Calls Try.prog 37 #[.agg #[.slice A n ca, .slice B m cb]] w (Ret w (IsPair (IsConA w.heap.size (compR c).1) (compR c).2)) := by
  unfold compR
  cases hv : validC c with
  | true => exact icompact A B n ca m cb c w h hs hv
  | false => exact icompact_no A B n ca m cb c w h hv
theorem iaddR (A B C : Option Addr) (n ca m cb k ck : Nat) (c : Ctx) (l : List Dot) (w : World) (h : Con w A n ca B m cb c) (hl : Dots w C k ck l) (hs : Small (n + (m + k) + 1)) :
    Calls Try.prog 20 #[.agg #[.slice A n ca, .slice B m cb], .slice C k ck] w (Ret w (IsPair (IsConA w.heap.size (addR c l).1) (addR c l).2)) := by
  unfold addR
  cases hv : validC c && validL l with
  | true => rw [Bool.and_eq_true] at hv; exact iadd A B C n ca m cb k ck c l w h hl hs hv.1 hv.2
  | false => exact iadd_no A B C n ca m cb k ck c l w h hl hv
theorem iunionR (A B A' B' : Option Addr) (n ca m cb n' ca' m' cb' : Nat) (a b : Ctx) (w : World) (ha : Con w A n ca B m cb a) (hb : Con w A' n' ca' B' m' cb' b) (hs : Small (n + n' + (m + m') + 1)) :
    Calls Try.prog 15 #[.agg #[.slice A n ca, .slice B m cb], .agg #[.slice A' n' ca', .slice B' m' cb']] w (Ret w (IsPair (IsConA w.heap.size (uniR a b).1) (uniR a b).2)) := by
  unfold uniR
  cases hv : validC a && validC b with
  | true => rw [Bool.and_eq_true] at hv; exact iunion A B A' B' n ca m cb n' ca' m' cb' a b w ha hb hs hv.1 hv.2
  | false => exact iunion_no A B A' B' n ca m cb n' ca' m' cb' a b w ha hb hv
theorem iwithinR (A B A' B' : Option Addr) (n ca m cb n' ca' m' cb' : Nat) (a b : Ctx) (w : World) (ha : Con w A n ca B m cb a) (hb : Con w A' n' ca' B' m' cb' b) (hs : Small (n + n' + (m + m') + 1)) :
    Calls Try.prog 60 #[.agg #[.slice A n ca, .slice B m cb], .agg #[.slice A' n' ca', .slice B' m' cb']] w (Ret w (IsPair (IsB (winR a b).1) (winR a b).2)) := by
  unfold winR
  cases hv : validC a && validC b with
  | true => rw [Bool.and_eq_true] at hv; exact iwithin A B A' B' n ca m cb n' ca' m' cb' a b w ha hb hs hv.1 hv.2
  | false => exact iwithin_no A B A' B' n ca m cb n' ca' m' cb' a b w ha hb hv
set_option maxRecDepth 100000 in
set_option maxHeartbeats 1000000 in
theorem iofR (C : Option Addr) (k ck : Nat) (l : List Dot) (w : World) (hl : Dots w C k ck l) (hs : Small (k + 1)) :
    Calls Try.prog 45 #[.slice C k ck] w (Ret w (IsPair (IsConA w.heap.size (addR ([], []) l).1) (addR ([], []) l).2)) := by
  have hb0 : Below w.heap.size w (w.alloc (conBox none 0 0 none 0 0)) := by go_grown
  have z0 : (w.alloc (conBox none 0 0 none 0 0)).cell? ⟨w.heap.size, 0, none⟩ = some (.slice none 0 0) := by simp [go_sem]
  have z1 : (w.alloc (conBox none 0 0 none 0 0)).cell? ⟨w.heap.size, 1, none⟩ = some (.slice none 0 0) := by simp [go_sem]
  have zf : ∀ o, (w.alloc (conBox none 0 0 none 0 0)).frozen? ⟨w.heap.size, o, none⟩ = false := fun o => by simp [go_sem]
  have f := iaddR none none C 0 0 0 0 k ck ([], []) l _ ⟨Dots.nil_, Dots.nil_⟩ (hl.mono hb0) (by have := hs.out; unfold Small; omega)
  generalize addR ([], []) l = r at *
  obtain ⟨c', e'⟩ := r
  have F := Lib.hid f; have HB := Lib.hid hb0; have Z0 := Lib.hid z0; have Z1 := Lib.hid z1; have ZF := Lib.hid zf
  clear f hb0 z0 z1 zf hl
  go_enter Try.func45, Try.ntmps45
  go_wp2_with fail
  refine F.out.mono ?_
  rintro e w1 ⟨_, rfl, hb1, _, rfl, A1, n1, c1, B1, m1, d1, rfl, r1, r2, hap⟩
  have x0 := cellKeep hb1 Z0.out
  have x1 := cellKeep hb1 Z1.out
  have yf0 : w1.frozen? ⟨w.heap.size, 0, none⟩ = false := (hb1.frozen (p := ⟨w.heap.size, 0, none⟩) (by simp)).trans (ZF.out 0)
  have yf1 : w1.frozen? ⟨w.heap.size, 1, none⟩ = false := (hb1.frozen (p := ⟨w.heap.size, 1, none⟩) (by simp)).trans (ZF.out 1)
  have hz : w.heap.size < w1.heap.size := World.block_lt_of_cell? w1 _ x0
  have s0 := cell_set (v := .slice A1 n1 c1) x0
  have s1 := cell_set (v := .slice B1 m1 d1) (cell_far (b := ⟨w.heap.size, 0, none⟩) (v := .slice A1 n1 c1) (by simp) x1)
  have HE2 := Lib.hid hb1; have R1 := Lib.hid r1; have R2 := Lib.hid r2; have HAP := Lib.hid hap
  clear hb1 r1 r2 hap F
  go_wp2
  refine bodyPost_ret (v := .tuple #[.agg #[.slice A1 n1 c1, .slice B1 m1 d1], .int .i64 e']) (by simp [results, Try.results45, go_sem, s0, s1]) rfl ?_
  have ho1 : ∀ j, (Value.slice A1 n1 c1).ownBlock = some j → j ≠ w.heap.size := fun j hj => by have h := Row.own _ R1.out j hj; simp at h; omega
  have ho2 : ∀ j, (Value.slice B1 m1 d1).ownBlock = some j → j ≠ w.heap.size := fun j hj => by have h := Row.own _ R2.out j hj; simp at h; omega
  exact ⟨_, rfl, ((HB.out.le HE2.out).setCell (p := ⟨w.heap.size, 0, none⟩) (by simp) _).setCell (p := ⟨w.heap.size, 1, none⟩) (by simp) _, _, rfl, _, _, _, _, _, _, rfl,
    Row.low (Row.set_ (Row.set_ R1.out (p := ⟨w.heap.size, 0, none⟩) ho1 _) (p := ⟨w.heap.size, 1, none⟩) ho1 _) (by simp), Row.low (Row.set_ (Row.set_ R2.out (p := ⟨w.heap.size, 0, none⟩) ho2 _) (p := ⟨w.heap.size, 1, none⟩) ho2 _) (by simp), HAP.out⟩

end Go.Proofs.Ytjbakmmmgejhlaa

/-
  The statements' helpers: compacts, made, added, united, within.
-/
namespace Go.Proofs.Ytjbakmmmgejhlaa
open Go.RowKit

end Go.Proofs.Ytjbakmmmgejhlaa

/-
  The contracts in a form for values that are known by what they read as.
-/
namespace Go.Proofs.Ytjbakmmmgejhlaa
open Go.RowKit

def IsInts (l : List Int) (w : World) (v : Value) : Prop := ∃ A n c, v = .slice A n c ∧ Ints w A n c l
instance (l : List Int) : Grows (IsInts l) := ⟨fun hb ⟨A, n, c, e, h⟩ => ⟨A, n, c, e, h.mono hb⟩⟩
theorem IsConA.isCon {b : Nat} {c : Ctx} {w : World} {v : Value} (h : IsConA b c w v) : IsCon c w v := h.con
theorem ints_new2 (w : World) (x0 x1 : Int) : Ints (w.alloc (.cells #[.int .i64 x0, .int .i64 x1] 3)) (some ⟨w.heap.size, 0, none⟩) 2 2 [x0, x1] :=
  ⟨rfl, fun i x hi => ⟨w.heap.size, 0, rfl, by simp, by
    have hl : i < [x0, x1].length := (List.getElem?_eq_some_iff.1 hi).1
    match i, hl with
    | 0, _ => simp at hi; subst hi; simp [go_sem]
    | 1, _ => simp at hi; subst hi; simp [go_sem]
    | 2, h => first | (simp at h; done) | (simp at hi; subst hi; simp [go_sem])
    | 3, h => first | (simp at h; done) | (simp at hi; subst hi; simp [go_sem])
    | 4, h => first | (simp at h; done) | (simp at hi; subst hi; simp [go_sem])
    | 5, h => first | (simp at h; done) | (simp at hi; subst hi; simp [go_sem])
    | 6, h => first | (simp at h; done) | (simp at hi; subst hi; simp [go_sem])
    | 7, h => first | (simp at h; done) | (simp at hi; subst hi; simp [go_sem])
    | n + 8, h => simp at h; omega⟩⟩
theorem ints_new4 (w : World) (x0 x1 x2 x3 : Int) : Ints (w.alloc (.cells #[.int .i64 x0, .int .i64 x1, .int .i64 x2, .int .i64 x3] 3)) (some ⟨w.heap.size, 0, none⟩) 4 4 [x0, x1, x2, x3] :=
  ⟨rfl, fun i x hi => ⟨w.heap.size, 0, rfl, by simp, by
    have hl : i < [x0, x1, x2, x3].length := (List.getElem?_eq_some_iff.1 hi).1
    match i, hl with
    | 0, _ => simp at hi; subst hi; simp [go_sem]
    | 1, _ => simp at hi; subst hi; simp [go_sem]
    | 2, h => first | (simp at h; done) | (simp at hi; subst hi; simp [go_sem])
    | 3, h => first | (simp at h; done) | (simp at hi; subst hi; simp [go_sem])
    | 4, h => first | (simp at h; done) | (simp at hi; subst hi; simp [go_sem])
    | 5, h => first | (simp at h; done) | (simp at hi; subst hi; simp [go_sem])
    | 6, h => first | (simp at h; done) | (simp at hi; subst hi; simp [go_sem])
    | 7, h => first | (simp at h; done) | (simp at hi; subst hi; simp [go_sem])
    | n + 8, h => simp at h; omega⟩⟩
theorem ints_new6 (w : World) (x0 x1 x2 x3 x4 x5 : Int) : Ints (w.alloc (.cells #[.int .i64 x0, .int .i64 x1, .int .i64 x2, .int .i64 x3, .int .i64 x4, .int .i64 x5] 3)) (some ⟨w.heap.size, 0, none⟩) 6 6 [x0, x1, x2, x3, x4, x5] :=
  ⟨rfl, fun i x hi => ⟨w.heap.size, 0, rfl, by simp, by
    have hl : i < [x0, x1, x2, x3, x4, x5].length := (List.getElem?_eq_some_iff.1 hi).1
    match i, hl with
    | 0, _ => simp at hi; subst hi; simp [go_sem]
    | 1, _ => simp at hi; subst hi; simp [go_sem]
    | 2, h => first | (simp at h; done) | (simp at hi; subst hi; simp [go_sem])
    | 3, h => first | (simp at h; done) | (simp at hi; subst hi; simp [go_sem])
    | 4, h => first | (simp at h; done) | (simp at hi; subst hi; simp [go_sem])
    | 5, h => first | (simp at h; done) | (simp at hi; subst hi; simp [go_sem])
    | 6, h => first | (simp at h; done) | (simp at hi; subst hi; simp [go_sem])
    | 7, h => first | (simp at h; done) | (simp at hi; subst hi; simp [go_sem])
    | n + 8, h => simp at h; omega⟩⟩
theorem ints_new8 (w : World) (x0 x1 x2 x3 x4 x5 x6 x7 : Int) : Ints (w.alloc (.cells #[.int .i64 x0, .int .i64 x1, .int .i64 x2, .int .i64 x3, .int .i64 x4, .int .i64 x5, .int .i64 x6, .int .i64 x7] 3)) (some ⟨w.heap.size, 0, none⟩) 8 8 [x0, x1, x2, x3, x4, x5, x6, x7] :=
  ⟨rfl, fun i x hi => ⟨w.heap.size, 0, rfl, by simp, by
    have hl : i < [x0, x1, x2, x3, x4, x5, x6, x7].length := (List.getElem?_eq_some_iff.1 hi).1
    match i, hl with
    | 0, _ => simp at hi; subst hi; simp [go_sem]
    | 1, _ => simp at hi; subst hi; simp [go_sem]
    | 2, h => first | (simp at h; done) | (simp at hi; subst hi; simp [go_sem])
    | 3, h => first | (simp at h; done) | (simp at hi; subst hi; simp [go_sem])
    | 4, h => first | (simp at h; done) | (simp at hi; subst hi; simp [go_sem])
    | 5, h => first | (simp at h; done) | (simp at hi; subst hi; simp [go_sem])
    | 6, h => first | (simp at h; done) | (simp at hi; subst hi; simp [go_sem])
    | 7, h => first | (simp at h; done) | (simp at hi; subst hi; simp [go_sem])
    | n + 8, h => simp at h; omega⟩⟩
section
variable {ops : List Oper} {Fs : List VT} {w0 : World} {a0 : Act} {i : Nat} {d : Option Tmp} {ty : TypeId} {pos : String} {after : Array Edge} {g : Option (Nat × Bool)}
theorem Ob.mkInts2 {x0 x1 : Int} (hw : Wanted ops Fs w0 a0 i ⟨d, .buildSlice 106 2 #[(0, .const (.int .i64 x0)), (1, .const (.int .i64 x1))], ty, pos, after, g⟩) : Ob Try.prog ops Fs w0 a0 i ⟨d, .buildSlice 106 2 #[(0, .const (.int .i64 x0)), (1, .const (.int .i64 x1))], ty, pos, after, g⟩ (IsInts [x0, x1]) :=
  Ob.buildSlice hw fun a w _ => ⟨.slice (some ⟨w.heap.size, 0, none⟩) 2 2, w.alloc (.cells #[.int .i64 x0, .int .i64 x1] 3), by
    simp [go_sem], by go_grown, _, _, _, rfl, ints_new2 w x0 x1⟩
theorem Ob.mkInts4 {x0 x1 x2 x3 : Int} (hw : Wanted ops Fs w0 a0 i ⟨d, .buildSlice 106 4 #[(0, .const (.int .i64 x0)), (1, .const (.int .i64 x1)), (2, .const (.int .i64 x2)), (3, .const (.int .i64 x3))], ty, pos, after, g⟩) : Ob Try.prog ops Fs w0 a0 i ⟨d, .buildSlice 106 4 #[(0, .const (.int .i64 x0)), (1, .const (.int .i64 x1)), (2, .const (.int .i64 x2)), (3, .const (.int .i64 x3))], ty, pos, after, g⟩ (IsInts [x0, x1, x2, x3]) :=
  Ob.buildSlice hw fun a w _ => ⟨.slice (some ⟨w.heap.size, 0, none⟩) 4 4, w.alloc (.cells #[.int .i64 x0, .int .i64 x1, .int .i64 x2, .int .i64 x3] 3), by
    simp [go_sem], by go_grown, _, _, _, rfl, ints_new4 w x0 x1 x2 x3⟩
theorem Ob.mkInts6 {x0 x1 x2 x3 x4 x5 : Int} (hw : Wanted ops Fs w0 a0 i ⟨d, .buildSlice 106 6 #[(0, .const (.int .i64 x0)), (1, .const (.int .i64 x1)), (2, .const (.int .i64 x2)), (3, .const (.int .i64 x3)), (4, .const (.int .i64 x4)), (5, .const (.int .i64 x5))], ty, pos, after, g⟩) : Ob Try.prog ops Fs w0 a0 i ⟨d, .buildSlice 106 6 #[(0, .const (.int .i64 x0)), (1, .const (.int .i64 x1)), (2, .const (.int .i64 x2)), (3, .const (.int .i64 x3)), (4, .const (.int .i64 x4)), (5, .const (.int .i64 x5))], ty, pos, after, g⟩ (IsInts [x0, x1, x2, x3, x4, x5]) :=
  Ob.buildSlice hw fun a w _ => ⟨.slice (some ⟨w.heap.size, 0, none⟩) 6 6, w.alloc (.cells #[.int .i64 x0, .int .i64 x1, .int .i64 x2, .int .i64 x3, .int .i64 x4, .int .i64 x5] 3), by
    simp [go_sem], by go_grown, _, _, _, rfl, ints_new6 w x0 x1 x2 x3 x4 x5⟩
theorem Ob.mkInts8 {x0 x1 x2 x3 x4 x5 x6 x7 : Int} (hw : Wanted ops Fs w0 a0 i ⟨d, .buildSlice 106 8 #[(0, .const (.int .i64 x0)), (1, .const (.int .i64 x1)), (2, .const (.int .i64 x2)), (3, .const (.int .i64 x3)), (4, .const (.int .i64 x4)), (5, .const (.int .i64 x5)), (6, .const (.int .i64 x6)), (7, .const (.int .i64 x7))], ty, pos, after, g⟩) : Ob Try.prog ops Fs w0 a0 i ⟨d, .buildSlice 106 8 #[(0, .const (.int .i64 x0)), (1, .const (.int .i64 x1)), (2, .const (.int .i64 x2)), (3, .const (.int .i64 x3)), (4, .const (.int .i64 x4)), (5, .const (.int .i64 x5)), (6, .const (.int .i64 x6)), (7, .const (.int .i64 x7))], ty, pos, after, g⟩ (IsInts [x0, x1, x2, x3, x4, x5, x6, x7]) :=
  Ob.buildSlice hw fun a w _ => ⟨.slice (some ⟨w.heap.size, 0, none⟩) 8 8, w.alloc (.cells #[.int .i64 x0, .int .i64 x1, .int .i64 x2, .int .i64 x3, .int .i64 x4, .int .i64 x5, .int .i64 x6, .int .i64 x7] 3), by
    simp [go_sem], by go_grown, _, _, _, rfl, ints_new8 w x0 x1 x2 x3 x4 x5 x6 x7⟩
end
def IsAt (d : Dot) (w : World) (v : Value) : Prop := ∃ b o, v = .pointer (some ⟨b, o, none⟩) ∧ w.cell? ⟨b, o, none⟩ = some (.int .i64 d.1) ∧ w.cell? ⟨b, o + 1, none⟩ = some (.int .i64 d.2)
instance (d : Dot) : Grows (IsAt d) := ⟨fun hb ⟨b, o, e, h1, h2⟩ => ⟨b, o, e, cellKeep hb h1, cellKeep hb h2⟩⟩
theorem at_head {p : Dot} {s : List Dot} {w : World} {u v : Value} (h : IsDots (p :: s) w u) (hv : Is (.int .i64 0) w v) : ∃ r, (Instr.indexAt 28 u v).run Try.prog w = .ok r w ∧ IsAt p w r := by
  obtain ⟨A, n, c, rfl, hd⟩ := h
  obtain ⟨b, o, rfl, hb, h1, h2, hn⟩ := hd.head
  cases hv
  exact ⟨_, index_head hn, b, o, rfl, h1, h2⟩
theorem load_at {p : Dot} {w : World} {v : Value} (h : IsAt p w v) : ∃ r, (Instr.loadAt 27 v).run Try.prog w = .ok r w ∧ IsDot p w r := by
  obtain ⟨b, o, rfl, h1, h2⟩ := h
  exact ⟨_, load_dot (Below.refl _ _) h1 h2, rfl⟩

/-! ### The contracts -/
theorem IsCon.small {c : Ctx} {w : World} {A B : Option Addr} {n ca m cb N : Nat} (h : Con w A n ca B m cb c) (hs : c.1.length + c.2.length ≤ N) : n + m ≤ N := by have := h.v.len; have := h.k.len; omega
theorem chasI {c : Ctx} {p : Dot} {w : World} {u v : Value} (hu : IsCon c w u) (hv : IsDot p w v) (r : Bool) (hr : hasC c p = r) : Calls Try.prog 18 #[u, v] w (Ret w (IsB r)) := by
  obtain ⟨A, n, ca, B, m, cb, rfl, hc⟩ := hu
  cases hv; subst hr
  exact chas p.1 p.2 A B n ca m cb c w hc
theorem cvalidI {c : Ctx} {w : World} {u : Value} (hu : IsCon c w u) (r : Bool) (hr : validC c = r) : Calls Try.prog 14 #[u] w (Ret w (IsB r)) := by
  obtain ⟨A, n, ca, B, m, cb, rfl, hc⟩ := hu
  subst hr
  exact cvalid14 A B n ca m cb c w hc
theorem entHas : Enters Try.prog 18 := enters_of Try.func18 (by kernel_rfl) rfl
theorem entValid : Enters Try.prog 14 := enters_of Try.func14 (by kernel_rfl) rfl
end Go.Proofs.Ytjbakmmmgejhlaa

/-
  known: the examples of the chapter.
-/
namespace Go.Proofs.Ytjbakmmmgejhlaa
open Go.RowKit

end Go.Proofs.Ytjbakmmmgejhlaa

/-
  More contracts for values that are known by what they read as: the reference's.
-/
namespace Go.Proofs.Ytjbakmmmgejhlaa
open Go.RowKit

theorem ceqI {c d : Ctx} {w : World} {u v : Value} (hu : IsCon c w u) (hv : IsCon d w v) (r : Bool) (hr : eqC c d = r) : Calls Try.prog 25 #[u, v] w (Ret w (IsB r)) := by
  obtain ⟨A, n, ca, B, m, cb, rfl, hc⟩ := hu
  obtain ⟨A', n', ca', B', m', cb', rfl, hd⟩ := hv
  subst hr
  exact ceq25 A B A' B' n ca m cb n' ca' m' cb' c d w hc hd
def lightB (c : Ctx) : Bool := decide (c.1.length ≤ 40 ∧ c.2.length ≤ 40)
theorem lightB_len {c : Ctx} (h : lightB c = true) : c.1.length ≤ 40 ∧ c.2.length ≤ 40 := of_decide_eq_true h
theorem entCeq : Enters Try.prog 25 := enters_of Try.func25 (by kernel_rfl) rfl
end Go.Proofs.Ytjbakmmmgejhlaa
