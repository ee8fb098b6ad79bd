/-
  The statements' helpers: gives, compacts, made, added, united, within.
-/
import Derived.Test.YtdngechnelemlaaGreatWK
namespace Go.Proofs.YtdngechnelemlaaGreat
open Go.RowKit

def compR (c : Ctx) : Ctx × Int := if validC c then (passC c, 0) else (([], []), 2)
def addR (c : Ctx) (l : List Dot) : Ctx × Int := if validC c && validL l then (addC c l, 0) else (([], []), 2)
def uniR (a b : Ctx) : Ctx × Int := if validC a && validC b then (unionC a b, 0) else (([], []), 2)
def winR (a b : Ctx) : Bool × Int := if validC a && validC b then (inC a b, 0) else (false, 2)
theorem icompactR (A B : Option Addr) (n ca m cb : Nat) (c : Ctx) (w : World) (h : Con w A n ca B m cb c) (hs : Small (n + m + 1)) :
    Calls Tryz.prog 35 #[.agg #[.slice A n ca, .slice B m cb]] w (Ret w (IsPair (IsConA w.heap.size (compR c).1) (compR c).2)) := by
  unfold compR
  cases hv : validC c with
  | true => exact icompact A B n ca m cb c w h hs hv
  | false => exact icompact_no A B n ca m cb c w h hv
theorem iaddR (A B C : Option Addr) (n ca m cb k ck : Nat) (c : Ctx) (l : List Dot) (w : World) (h : Con w A n ca B m cb c) (hl : Dots w C k ck l) (hs : Small (n + (m + k) + 1)) :
    Calls Tryz.prog 49 #[.agg #[.slice A n ca, .slice B m cb], .slice C k ck] w (Ret w (IsPair (IsConA w.heap.size (addR c l).1) (addR c l).2)) := by
  unfold addR
  cases hv : validC c && validL l with
  | true => rw [Bool.and_eq_true] at hv; exact iadd A B C n ca m cb k ck c l w h hl hs hv.1 hv.2
  | false => exact iadd_no A B C n ca m cb k ck c l w h hl hv
theorem iunionR (A B A' B' : Option Addr) (n ca m cb n' ca' m' cb' : Nat) (a b : Ctx) (w : World) (ha : Con w A n ca B m cb a) (hb : Con w A' n' ca' B' m' cb' b) (hs : Small (n + n' + (m + m') + 1)) :
    Calls Tryz.prog 27 #[.agg #[.slice A n ca, .slice B m cb], .agg #[.slice A' n' ca', .slice B' m' cb']] w (Ret w (IsPair (IsConA w.heap.size (uniR a b).1) (uniR a b).2)) := by
  unfold uniR
  cases hv : validC a && validC b with
  | true => rw [Bool.and_eq_true] at hv; exact iunion A B A' B' n ca m cb n' ca' m' cb' a b w ha hb hs hv.1 hv.2
  | false => exact iunion_no A B A' B' n ca m cb n' ca' m' cb' a b w ha hb hv
theorem iwithinR (A B A' B' : Option Addr) (n ca m cb n' ca' m' cb' : Nat) (a b : Ctx) (w : World) (ha : Con w A n ca B m cb a) (hb : Con w A' n' ca' B' m' cb' b) (hs : Small (n + n' + (m + m') + 1)) :
    Calls Tryz.prog 29 #[.agg #[.slice A n ca, .slice B m cb], .agg #[.slice A' n' ca', .slice B' m' cb']] w (Ret w (IsPair (IsB (winR a b).1) (winR a b).2)) := by
  unfold winR
  cases hv : validC a && validC b with
  | true => rw [Bool.and_eq_true] at hv; exact iwithin A B A' B' n ca m cb n' ca' m' cb' a b w ha hb hs hv.1 hv.2
  | false => exact iwithin_no A B A' B' n ca m cb n' ca' m' cb' a b w ha hb hv
set_option maxRecDepth 100000 in
set_option maxHeartbeats 1000000 in
theorem iofR (C : Option Addr) (k ck : Nat) (l : List Dot) (w : World) (hl : Dots w C k ck l) (hs : Small (k + 1)) :
    Calls Tryz.prog 48 #[.slice C k ck] w (Ret w (IsPair (IsConA w.heap.size (addR ([], []) l).1) (addR ([], []) l).2)) := by
  have hb0 : Below w.heap.size w (w.alloc (conBox none 0 0 none 0 0)) := by go_grown
  have z0 : (w.alloc (conBox none 0 0 none 0 0)).cell? ⟨w.heap.size, 0, none⟩ = some (.slice none 0 0) := by simp [go_sem]
  have z1 : (w.alloc (conBox none 0 0 none 0 0)).cell? ⟨w.heap.size, 1, none⟩ = some (.slice none 0 0) := by simp [go_sem]
  have zf : ∀ o, (w.alloc (conBox none 0 0 none 0 0)).frozen? ⟨w.heap.size, o, none⟩ = false := fun o => by simp [go_sem]
  have f := iaddR none none C 0 0 0 0 k ck ([], []) l _ ⟨Dots.nil_, Dots.nil_⟩ (hl.mono hb0) (by have := hs.out; unfold Small; omega)
  generalize addR ([], []) l = r at *
  obtain ⟨c', e'⟩ := r
  have F := Lib.hid f; have HB := Lib.hid hb0; have Z0 := Lib.hid z0; have Z1 := Lib.hid z1; have ZF := Lib.hid zf
  clear f hb0 z0 z1 zf hl
  go_enter Tryz.func48, Tryz.ntmps48
  go_wp2_with fail
  refine F.out.mono ?_
  rintro e w1 ⟨_, rfl, hb1, _, rfl, A1, n1, c1, B1, m1, d1, rfl, r1, r2, hap⟩
  have x0 := cellKeep hb1 Z0.out
  have x1 := cellKeep hb1 Z1.out
  have yf0 : w1.frozen? ⟨w.heap.size, 0, none⟩ = false := (hb1.frozen (p := ⟨w.heap.size, 0, none⟩) (by simp)).trans (ZF.out 0)
  have yf1 : w1.frozen? ⟨w.heap.size, 1, none⟩ = false := (hb1.frozen (p := ⟨w.heap.size, 1, none⟩) (by simp)).trans (ZF.out 1)
  have hz : w.heap.size < w1.heap.size := World.block_lt_of_cell? w1 _ x0
  have s0 := cell_set (v := .slice A1 n1 c1) x0
  have s1 := cell_set (v := .slice B1 m1 d1) (cell_far (b := ⟨w.heap.size, 0, none⟩) (v := .slice A1 n1 c1) (by simp) x1)
  have HE2 := Lib.hid hb1; have R1 := Lib.hid r1; have R2 := Lib.hid r2; have HAP := Lib.hid hap
  clear hb1 r1 r2 hap F
  go_wp2
  refine bodyPost_ret (v := .tuple #[.agg #[.slice A1 n1 c1, .slice B1 m1 d1], .int .i64 e']) (by simp [results, Tryz.results48, go_sem, s0, s1]) rfl ?_
  have ho1 : ∀ j, (Value.slice A1 n1 c1).ownBlock = some j → j ≠ w.heap.size := fun j hj => by have h := Row.own _ R1.out j hj; simp at h; omega
  have ho2 : ∀ j, (Value.slice B1 m1 d1).ownBlock = some j → j ≠ w.heap.size := fun j hj => by have h := Row.own _ R2.out j hj; simp at h; omega
  exact ⟨_, rfl, ((HB.out.le HE2.out).setCell (p := ⟨w.heap.size, 0, none⟩) (by simp) _).setCell (p := ⟨w.heap.size, 1, none⟩) (by simp) _, _, rfl, _, _, _, _, _, _, rfl,
    Row.low (Row.set_ (Row.set_ R1.out (p := ⟨w.heap.size, 0, none⟩) ho1 _) (p := ⟨w.heap.size, 1, none⟩) ho1 _) (by simp), Row.low (Row.set_ (Row.set_ R2.out (p := ⟨w.heap.size, 0, none⟩) ho2 _) (p := ⟨w.heap.size, 1, none⟩) ho2 _) (by simp), HAP.out⟩

set_option maxRecDepth 100000 in
set_option maxHeartbeats 1000000 in
theorem lgives (A B C D : Option Addr) (n ca m cb n' ca' m' cb' : Nat) (c d : Ctx) (e no : Int) (w : World) (h : Con w A n ca B m cb c) (k : Con w C n' ca' D m' cb' d) :
    Calls Tryz.prog 28 #[.agg #[.slice A n ca, .slice B m cb], .int .i64 e, .agg #[.slice C n' ca', .slice D m' cb'], .int .i64 no] w (Ret w (IsB (eqC c d && (e == no)))) := by
  have hb0 : Below w.heap.size w (winW w A B n ca m cb C D n' ca' m' cb') := by go_grown
  have f := rceq A B C D n ca m cb n' ca' m' cb' c d _ (h.mono hb0) (k.mono hb0)
  have HB := Lib.hid hb0
  clear hb0 h k
  cases hq : eqC c d with
  | true =>
    rw [hq] at f
    have F := Lib.hid f; clear f hq
    go_enter Tryz.func28, Tryz.ntmps28
    go_wp2_with fail
    refine F.out.mono ?_
    rintro _ w1 ⟨_, rfl, hb1, rfl⟩
    go_wp2
    go_ret
    exact retB (by simp) (HB.out.le hb1)
  | false =>
    rw [hq] at f
    have F := Lib.hid f; clear f hq
    go_enter Tryz.func28, Tryz.ntmps28
    go_wp2_with fail
    refine F.out.mono ?_
    rintro _ w1 ⟨_, rfl, hb1, rfl⟩
    go_wp2
    go_ret
    exact retB (by simp) (HB.out.le hb1)
end Go.Proofs.YtdngechnelemlaaGreat

/-
  The statements' helpers: compacts, made, added, united, within.
-/
namespace Go.Proofs.YtdngechnelemlaaGreat
open Go.RowKit

set_option maxRecDepth 100000 in
set_option maxHeartbeats 1000000 in
theorem lcompacts (A B C D : Option Addr) (n ca m cb n' ca' m' cb' : Nat) (c d : Ctx) (no : Int) (w : World) (h : Con w A n ca B m cb c) (k : Con w C n' ca' D m' cb' d) (hs : Small (n + m + 1)) :
    Calls Tryz.prog 14 #[.agg #[.slice A n ca, .slice B m cb], .agg #[.slice C n' ca', .slice D m' cb'], .int .i64 no] w (Ret w (IsB (eqC (compR c).1 d && ((compR c).2 == no)))) := by
  have hb0 : Below w.heap.size w (winW w A B n ca m cb C D n' ca' m' cb') := by go_grown
  have z0 : (winW w A B n ca m cb C D n' ca' m' cb').cell? ⟨w.heap.size + 1, 0, none⟩ = some (.slice C n' ca') := by simp [go_sem]
  have z1 : (winW w A B n ca m cb C D n' ca' m' cb').cell? ⟨w.heap.size + 1, 1, none⟩ = some (.slice D m' cb') := by simp [go_sem]
  have f := icompactR A B n ca m cb c _ (h.mono hb0) hs
  have K0 := Lib.hid (k.mono hb0)
  generalize compR c = r at *
  obtain ⟨c', e'⟩ := r
  have F := Lib.hid f; have HB := Lib.hid hb0; have Z0 := Lib.hid z0; have Z1 := Lib.hid z1
  clear f hb0 z0 z1 h k
  go_enter Tryz.func14, Tryz.ntmps14
  go_wp2_with fail
  refine F.out.mono ?_
  rintro _ w1 ⟨_, rfl, hb1, _, rfl, A1, n1, c1, B1, m1, d1, rfl, r1, r2, _⟩
  have hal : Below w1.heap.size w1 (w1.alloc (conBox A1 n1 c1 B1 m1 d1)) := (Below.refl _ _).alloc (Nat.le_refl _) _
  have hb2 := hb1.le hal
  have k0 := cellKeep hb1 Z0.out; have k1 := cellKeep hb1 Z1.out
  have hzk := World.block_lt_of_cell? w1 _ k0
  simp only at hzk
  have F2 := Lib.hid (lgives A1 B1 C D n1 c1 m1 d1 n' ca' m' cb' c' d e' no _ ⟨r1.asDots.mono hal, r2.asDots.mono hal⟩ (K0.out.mono hb2))
  have HB2 := Lib.hid (HB.out.le hb2)
  clear hb1 hb2 hal r1 r2 F
  go_wp2_with fail
  refine F2.out.mono ?_
  rintro _ w2 ⟨_, rfl, hb3, rfl⟩
  have HB3 := Lib.hid (HB2.out.le hb3)
  clear hb3 F2
  go_wp2
  go_ret
  exact retB rfl HB3.out

set_option maxRecDepth 100000 in
set_option maxHeartbeats 1000000 in
theorem lmade (E C D : Option Addr) (j cj n' ca' m' cb' : Nat) (l : List Dot) (d : Ctx) (no : Int) (w : World) (hl : Dots w E j cj l) (k : Con w C n' ca' D m' cb' d) (hs : Small (j + 1)) :
    Calls Tryz.prog 22 #[.slice E j cj, .agg #[.slice C n' ca', .slice D m' cb'], .int .i64 no] w (Ret w (IsB (eqC (addR ([], []) l).1 d && ((addR ([], []) l).2 == no)))) := by
  have hb0 : Below w.heap.size w (w.alloc (conBox C n' ca' D m' cb')) := by go_grown
  have z0 : (w.alloc (conBox C n' ca' D m' cb')).cell? ⟨w.heap.size, 0, none⟩ = some (.slice C n' ca') := by simp [go_sem]
  have z1 : (w.alloc (conBox C n' ca' D m' cb')).cell? ⟨w.heap.size, 1, none⟩ = some (.slice D m' cb') := by simp [go_sem]
  have f := iofR E j cj l _ (hl.mono hb0) hs
  have K0 := Lib.hid (k.mono hb0)
  generalize addR ([], []) l = r at *
  obtain ⟨c', e'⟩ := r
  have F := Lib.hid f; have HB := Lib.hid hb0; have Z0 := Lib.hid z0; have Z1 := Lib.hid z1
  clear f hb0 z0 z1 hl k
  go_enter Tryz.func22, Tryz.ntmps22
  go_wp2_with fail
  refine F.out.mono ?_
  rintro _ w1 ⟨_, rfl, hb1, _, rfl, A1, n1, c1, B1, m1, d1, rfl, r1, r2, _⟩
  have hal : Below w1.heap.size w1 (w1.alloc (conBox A1 n1 c1 B1 m1 d1)) := (Below.refl _ _).alloc (Nat.le_refl _) _
  have hb2 := hb1.le hal
  have k0 := cellKeep hb1 Z0.out; have k1 := cellKeep hb1 Z1.out
  have hzk := World.block_lt_of_cell? w1 _ k0
  simp only at hzk
  have F2 := Lib.hid (lgives A1 B1 C D n1 c1 m1 d1 n' ca' m' cb' c' d e' no _ ⟨r1.asDots.mono hal, r2.asDots.mono hal⟩ (K0.out.mono hb2))
  have HB2 := Lib.hid (HB.out.le hb2)
  clear hb1 hb2 hal r1 r2 F
  go_wp2_with fail
  refine F2.out.mono ?_
  rintro _ w2 ⟨_, rfl, hb3, rfl⟩
  have HB3 := Lib.hid (HB2.out.le hb3)
  clear hb3 F2
  go_wp2
  go_ret
  exact retB rfl HB3.out

set_option maxRecDepth 100000 in
set_option maxHeartbeats 1000000 in
theorem ladded (A B E C D : Option Addr) (n ca m cb j cj n' ca' m' cb' : Nat) (c : Ctx) (l : List Dot) (d : Ctx) (no : Int) (w : World) (h : Con w A n ca B m cb c) (hl : Dots w E j cj l) (k : Con w C n' ca' D m' cb' d) (hs : Small (n + (m + j) + 1)) :
    Calls Tryz.prog 23 #[.agg #[.slice A n ca, .slice B m cb], .slice E j cj, .agg #[.slice C n' ca', .slice D m' cb'], .int .i64 no] w (Ret w (IsB (eqC (addR c l).1 d && ((addR c l).2 == no)))) := by
  have hb0 : Below w.heap.size w (winW w A B n ca m cb C D n' ca' m' cb') := by go_grown
  have z0 : (winW w A B n ca m cb C D n' ca' m' cb').cell? ⟨w.heap.size + 1, 0, none⟩ = some (.slice C n' ca') := by simp [go_sem]
  have z1 : (winW w A B n ca m cb C D n' ca' m' cb').cell? ⟨w.heap.size + 1, 1, none⟩ = some (.slice D m' cb') := by simp [go_sem]
  have f := iaddR A B E n ca m cb j cj c l _ (h.mono hb0) (hl.mono hb0) hs
  have K0 := Lib.hid (k.mono hb0)
  generalize addR c l = r at *
  obtain ⟨c', e'⟩ := r
  have F := Lib.hid f; have HB := Lib.hid hb0; have Z0 := Lib.hid z0; have Z1 := Lib.hid z1
  clear f hb0 z0 z1 h hl k
  go_enter Tryz.func23, Tryz.ntmps23
  go_wp2_with fail
  refine F.out.mono ?_
  rintro _ w1 ⟨_, rfl, hb1, _, rfl, A1, n1, c1, B1, m1, d1, rfl, r1, r2, _⟩
  have hal : Below w1.heap.size w1 (w1.alloc (conBox A1 n1 c1 B1 m1 d1)) := (Below.refl _ _).alloc (Nat.le_refl _) _
  have hb2 := hb1.le hal
  have k0 := cellKeep hb1 Z0.out; have k1 := cellKeep hb1 Z1.out
  have hzk := World.block_lt_of_cell? w1 _ k0
  simp only at hzk
  have F2 := Lib.hid (lgives A1 B1 C D n1 c1 m1 d1 n' ca' m' cb' c' d e' no _ ⟨r1.asDots.mono hal, r2.asDots.mono hal⟩ (K0.out.mono hb2))
  have HB2 := Lib.hid (HB.out.le hb2)
  clear hb1 hb2 hal r1 r2 F
  go_wp2_with fail
  refine F2.out.mono ?_
  rintro _ w2 ⟨_, rfl, hb3, rfl⟩
  have HB3 := Lib.hid (HB2.out.le hb3)
  clear hb3 F2
  go_wp2
  go_ret
  exact retB rfl HB3.out

set_option maxRecDepth 100000 in
set_option maxHeartbeats 1000000 in
theorem lunited (A B A' B' C D : Option Addr) (n ca m cb i ci j cj n' ca' m' cb' : Nat) (a b d : Ctx) (no : Int) (w : World) (h : Con w A n ca B m cb a) (h' : Con w A' i ci B' j cj b) (k : Con w C n' ca' D m' cb' d) (hs : Small (n + i + (m + j) + 1)) :
    Calls Tryz.prog 7 #[.agg #[.slice A n ca, .slice B m cb], .agg #[.slice A' i ci, .slice B' j cj], .agg #[.slice C n' ca', .slice D m' cb'], .int .i64 no] w (Ret w (IsB (eqC (uniR a b).1 d && ((uniR a b).2 == no)))) := by
  have hb0 : Below w.heap.size w ((winW w A B n ca m cb A' B' i ci j cj).alloc (conBox C n' ca' D m' cb')) := by go_grown
  have z0 : ((winW w A B n ca m cb A' B' i ci j cj).alloc (conBox C n' ca' D m' cb')).cell? ⟨w.heap.size + 2, 0, none⟩ = some (.slice C n' ca') := by simp [go_sem]
  have z1 : ((winW w A B n ca m cb A' B' i ci j cj).alloc (conBox C n' ca' D m' cb')).cell? ⟨w.heap.size + 2, 1, none⟩ = some (.slice D m' cb') := by simp [go_sem]
  have f := iunionR A B A' B' n ca m cb i ci j cj a b _ (h.mono hb0) (h'.mono hb0) hs
  have K0 := Lib.hid (k.mono hb0)
  generalize uniR a b = r at *
  obtain ⟨c', e'⟩ := r
  have F := Lib.hid f; have HB := Lib.hid hb0; have Z0 := Lib.hid z0; have Z1 := Lib.hid z1
  clear f hb0 z0 z1 h h' k
  go_enter Tryz.func7, Tryz.ntmps7
  go_wp2_with fail
  refine F.out.mono ?_
  rintro _ w1 ⟨_, rfl, hb1, _, rfl, A1, n1, c1, B1, m1, d1, rfl, r1, r2, _⟩
  have hal : Below w1.heap.size w1 (w1.alloc (conBox A1 n1 c1 B1 m1 d1)) := (Below.refl _ _).alloc (Nat.le_refl _) _
  have hb2 := hb1.le hal
  have k0 := cellKeep hb1 Z0.out; have k1 := cellKeep hb1 Z1.out
  have hzk := World.block_lt_of_cell? w1 _ k0
  simp only at hzk
  have F2 := Lib.hid (lgives A1 B1 C D n1 c1 m1 d1 n' ca' m' cb' c' d e' no _ ⟨r1.asDots.mono hal, r2.asDots.mono hal⟩ (K0.out.mono hb2))
  have HB2 := Lib.hid (HB.out.le hb2)
  clear hb1 hb2 hal r1 r2 F
  go_wp2_with fail
  refine F2.out.mono ?_
  rintro _ w2 ⟨_, rfl, hb3, rfl⟩
  have HB3 := Lib.hid (HB2.out.le hb3)
  clear hb3 F2
  go_wp2
  go_ret
  exact retB rfl HB3.out

set_option maxRecDepth 100000 in
set_option maxHeartbeats 1000000 in
theorem lwithin (A B A' B' : Option Addr) (n ca m cb i ci j cj : Nat) (a b : Ctx) (want : Bool) (no : Int) (w : World) (h : Con w A n ca B m cb a) (h' : Con w A' i ci B' j cj b) (hs : Small (n + i + (m + j) + 1)) :
    Calls Tryz.prog 8 #[.agg #[.slice A n ca, .slice B m cb], .agg #[.slice A' i ci, .slice B' j cj], .bool want, .int .i64 no] w (Ret w (IsB ((winR a b).1 == want && ((winR a b).2 == no)))) := by
  have hb0 : Below w.heap.size w (winW w A B n ca m cb A' B' i ci j cj) := by go_grown
  have f := iwithinR A B A' B' n ca m cb i ci j cj a b _ (h.mono hb0) (h'.mono hb0) hs
  generalize winR a b = r at *
  obtain ⟨c', e'⟩ := r
  have F := Lib.hid f; have HB := Lib.hid hb0
  clear f hb0 h h'
  cases hq : (c' == want) with
  | true =>
    go_enter Tryz.func8, Tryz.ntmps8
    go_wp2_with fail
    refine F.out.mono ?_
    rintro _ w1 ⟨_, rfl, hb1, _, rfl, rfl⟩
    go_wp2
    go_ret
    exact retB (by simp) (HB.out.le hb1)
  | false =>
    go_enter Tryz.func8, Tryz.ntmps8
    go_wp2_with fail
    refine F.out.mono ?_
    rintro _ w1 ⟨_, rfl, hb1, _, rfl, rfl⟩
    go_wp2
    go_ret
    exact retB (by simp) (HB.out.le hb1)
end Go.Proofs.YtdngechnelemlaaGreat

/-
  The contracts in a form for values that are known by what they read as.
-/
namespace Go.Proofs.YtdngechnelemlaaGreat
open Go.RowKit

def IsInts (l : List Int) (w : World) (v : Value) : Prop := ∃ A n c, v = .slice A n c ∧ Ints w A n c l
instance (l : List Int) : Grows (IsInts l) := ⟨fun hb ⟨A, n, c, e, h⟩ => ⟨A, n, c, e, h.mono hb⟩⟩
theorem IsConA.isCon {b : Nat} {c : Ctx} {w : World} {v : Value} (h : IsConA b c w v) : IsCon c w v := h.con
theorem ints_new2 (w : World) (x0 x1 : Int) : Ints (w.alloc (.cells #[.int .i64 x0, .int .i64 x1] 3)) (some ⟨w.heap.size, 0, none⟩) 2 2 [x0, x1] :=
  ⟨rfl, fun i x hi => ⟨w.heap.size, 0, rfl, by simp, by
    have hl : i < [x0, x1].length := (List.getElem?_eq_some_iff.1 hi).1
    match i, hl with
    | 0, _ => simp at hi; subst hi; simp [go_sem]
    | 1, _ => simp at hi; subst hi; simp [go_sem]
    | 2, h => first | (simp at h; done) | (simp at hi; subst hi; simp [go_sem])
    | 3, h => first | (simp at h; done) | (simp at hi; subst hi; simp [go_sem])
    | 4, h => first | (simp at h; done) | (simp at hi; subst hi; simp [go_sem])
    | 5, h => first | (simp at h; done) | (simp at hi; subst hi; simp [go_sem])
    | 6, h => first | (simp at h; done) | (simp at hi; subst hi; simp [go_sem])
    | 7, h => first | (simp at h; done) | (simp at hi; subst hi; simp [go_sem])
    | n + 8, h => simp at h; omega⟩⟩
theorem ints_new4 (w : World) (x0 x1 x2 x3 : Int) : Ints (w.alloc (.cells #[.int .i64 x0, .int .i64 x1, .int .i64 x2, .int .i64 x3] 3)) (some ⟨w.heap.size, 0, none⟩) 4 4 [x0, x1, x2, x3] :=
  ⟨rfl, fun i x hi => ⟨w.heap.size, 0, rfl, by simp, by
    have hl : i < [x0, x1, x2, x3].length := (List.getElem?_eq_some_iff.1 hi).1
    match i, hl with
    | 0, _ => simp at hi; subst hi; simp [go_sem]
    | 1, _ => simp at hi; subst hi; simp [go_sem]
    | 2, h => first | (simp at h; done) | (simp at hi; subst hi; simp [go_sem])
    | 3, h => first | (simp at h; done) | (simp at hi; subst hi; simp [go_sem])
    | 4, h => first | (simp at h; done) | (simp at hi; subst hi; simp [go_sem])
    | 5, h => first | (simp at h; done) | (simp at hi; subst hi; simp [go_sem])
    | 6, h => first | (simp at h; done) | (simp at hi; subst hi; simp [go_sem])
    | 7, h => first | (simp at h; done) | (simp at hi; subst hi; simp [go_sem])
    | n + 8, h => simp at h; omega⟩⟩
theorem ints_new6 (w : World) (x0 x1 x2 x3 x4 x5 : Int) : Ints (w.alloc (.cells #[.int .i64 x0, .int .i64 x1, .int .i64 x2, .int .i64 x3, .int .i64 x4, .int .i64 x5] 3)) (some ⟨w.heap.size, 0, none⟩) 6 6 [x0, x1, x2, x3, x4, x5] :=
  ⟨rfl, fun i x hi => ⟨w.heap.size, 0, rfl, by simp, by
    have hl : i < [x0, x1, x2, x3, x4, x5].length := (List.getElem?_eq_some_iff.1 hi).1
    match i, hl with
    | 0, _ => simp at hi; subst hi; simp [go_sem]
    | 1, _ => simp at hi; subst hi; simp [go_sem]
    | 2, h => first | (simp at h; done) | (simp at hi; subst hi; simp [go_sem])
    | 3, h => first | (simp at h; done) | (simp at hi; subst hi; simp [go_sem])
    | 4, h => first | (simp at h; done) | (simp at hi; subst hi; simp [go_sem])
    | 5, h => first | (simp at h; done) | (simp at hi; subst hi; simp [go_sem])
    | 6, h => first | (simp at h; done) | (simp at hi; subst hi; simp [go_sem])
    | 7, h => first | (simp at h; done) | (simp at hi; subst hi; simp [go_sem])
    | n + 8, h => simp at h; omega⟩⟩
theorem ints_new8 (w : World) (x0 x1 x2 x3 x4 x5 x6 x7 : Int) : Ints (w.alloc (.cells #[.int .i64 x0, .int .i64 x1, .int .i64 x2, .int .i64 x3, .int .i64 x4, .int .i64 x5, .int .i64 x6, .int .i64 x7] 3)) (some ⟨w.heap.size, 0, none⟩) 8 8 [x0, x1, x2, x3, x4, x5, x6, x7] :=
  ⟨rfl, fun i x hi => ⟨w.heap.size, 0, rfl, by simp, by
    have hl : i < [x0, x1, x2, x3, x4, x5, x6, x7].length := (List.getElem?_eq_some_iff.1 hi).1
    match i, hl with
    | 0, _ => simp at hi; subst hi; simp [go_sem]
    | 1, _ => simp at hi; subst hi; simp [go_sem]
    | 2, h => first | (simp at h; done) | (simp at hi; subst hi; simp [go_sem])
    | 3, h => first | (simp at h; done) | (simp at hi; subst hi; simp [go_sem])
    | 4, h => first | (simp at h; done) | (simp at hi; subst hi; simp [go_sem])
    | 5, h => first | (simp at h; done) | (simp at hi; subst hi; simp [go_sem])
    | 6, h => first | (simp at h; done) | (simp at hi; subst hi; simp [go_sem])
    | 7, h => first | (simp at h; done) | (simp at hi; subst hi; simp [go_sem])
    | n + 8, h => simp at h; omega⟩⟩
section
variable {ops : List Oper} {Fs : List VT} {w0 : World} {a0 : Act} {i : Nat} {d : Option Tmp} {ty : TypeId} {pos : String} {after : Array Edge} {g : Option (Nat × Bool)}
theorem Ob.mkInts2 {x0 x1 : Int} (hw : Wanted ops Fs w0 a0 i ⟨d, .buildSlice 56 2 #[(0, .const (.int .i64 x0)), (1, .const (.int .i64 x1))], ty, pos, after, g⟩) : Ob Tryz.prog ops Fs w0 a0 i ⟨d, .buildSlice 56 2 #[(0, .const (.int .i64 x0)), (1, .const (.int .i64 x1))], ty, pos, after, g⟩ (IsInts [x0, x1]) :=
  Ob.buildSlice hw fun a w _ => ⟨.slice (some ⟨w.heap.size, 0, none⟩) 2 2, w.alloc (.cells #[.int .i64 x0, .int .i64 x1] 3), by
    simp [go_sem], by go_grown, _, _, _, rfl, ints_new2 w x0 x1⟩
theorem Ob.mkInts4 {x0 x1 x2 x3 : Int} (hw : Wanted ops Fs w0 a0 i ⟨d, .buildSlice 56 4 #[(0, .const (.int .i64 x0)), (1, .const (.int .i64 x1)), (2, .const (.int .i64 x2)), (3, .const (.int .i64 x3))], ty, pos, after, g⟩) : Ob Tryz.prog ops Fs w0 a0 i ⟨d, .buildSlice 56 4 #[(0, .const (.int .i64 x0)), (1, .const (.int .i64 x1)), (2, .const (.int .i64 x2)), (3, .const (.int .i64 x3))], ty, pos, after, g⟩ (IsInts [x0, x1, x2, x3]) :=
  Ob.buildSlice hw fun a w _ => ⟨.slice (some ⟨w.heap.size, 0, none⟩) 4 4, w.alloc (.cells #[.int .i64 x0, .int .i64 x1, .int .i64 x2, .int .i64 x3] 3), by
    simp [go_sem], by go_grown, _, _, _, rfl, ints_new4 w x0 x1 x2 x3⟩
theorem Ob.mkInts6 {x0 x1 x2 x3 x4 x5 : Int} (hw : Wanted ops Fs w0 a0 i ⟨d, .buildSlice 56 6 #[(0, .const (.int .i64 x0)), (1, .const (.int .i64 x1)), (2, .const (.int .i64 x2)), (3, .const (.int .i64 x3)), (4, .const (.int .i64 x4)), (5, .const (.int .i64 x5))], ty, pos, after, g⟩) : Ob Tryz.prog ops Fs w0 a0 i ⟨d, .buildSlice 56 6 #[(0, .const (.int .i64 x0)), (1, .const (.int .i64 x1)), (2, .const (.int .i64 x2)), (3, .const (.int .i64 x3)), (4, .const (.int .i64 x4)), (5, .const (.int .i64 x5))], ty, pos, after, g⟩ (IsInts [x0, x1, x2, x3, x4, x5]) :=
  Ob.buildSlice hw fun a w _ => ⟨.slice (some ⟨w.heap.size, 0, none⟩) 6 6, w.alloc (.cells #[.int .i64 x0, .int .i64 x1, .int .i64 x2, .int .i64 x3, .int .i64 x4, .int .i64 x5] 3), by
    simp [go_sem], by go_grown, _, _, _, rfl, ints_new6 w x0 x1 x2 x3 x4 x5⟩
theorem Ob.mkInts8 {x0 x1 x2 x3 x4 x5 x6 x7 : Int} (hw : Wanted ops Fs w0 a0 i ⟨d, .buildSlice 56 8 #[(0, .const (.int .i64 x0)), (1, .const (.int .i64 x1)), (2, .const (.int .i64 x2)), (3, .const (.int .i64 x3)), (4, .const (.int .i64 x4)), (5, .const (.int .i64 x5)), (6, .const (.int .i64 x6)), (7, .const (.int .i64 x7))], ty, pos, after, g⟩) : Ob Tryz.prog ops Fs w0 a0 i ⟨d, .buildSlice 56 8 #[(0, .const (.int .i64 x0)), (1, .const (.int .i64 x1)), (2, .const (.int .i64 x2)), (3, .const (.int .i64 x3)), (4, .const (.int .i64 x4)), (5, .const (.int .i64 x5)), (6, .const (.int .i64 x6)), (7, .const (.int .i64 x7))], ty, pos, after, g⟩ (IsInts [x0, x1, x2, x3, x4, x5, x6, x7]) :=
  Ob.buildSlice hw fun a w _ => ⟨.slice (some ⟨w.heap.size, 0, none⟩) 8 8, w.alloc (.cells #[.int .i64 x0, .int .i64 x1, .int .i64 x2, .int .i64 x3, .int .i64 x4, .int .i64 x5, .int .i64 x6, .int .i64 x7] 3), by
    simp [go_sem], by go_grown, _, _, _, rfl, ints_new8 w x0 x1 x2 x3 x4 x5 x6 x7⟩
end
def IsAt (d : Dot) (w : World) (v : Value) : Prop := ∃ b o, v = .pointer (some ⟨b, o, none⟩) ∧ w.cell? ⟨b, o, none⟩ = some (.int .i64 d.1) ∧ w.cell? ⟨b, o + 1, none⟩ = some (.int .i64 d.2)
instance (d : Dot) : Grows (IsAt d) := ⟨fun hb ⟨b, o, e, h1, h2⟩ => ⟨b, o, e, cellKeep hb h1, cellKeep hb h2⟩⟩
theorem at_head {p : Dot} {s : List Dot} {w : World} {u v : Value} (h : IsDots (p :: s) w u) (hv : Is (.int .i64 0) w v) : ∃ r, (Instr.indexAt 22 u v).run Tryz.prog w = .ok r w ∧ IsAt p w r := by
  obtain ⟨A, n, c, rfl, hd⟩ := h
  obtain ⟨b, o, rfl, hb, h1, h2, hn⟩ := hd.head
  cases hv
  exact ⟨_, index_head hn, b, o, rfl, h1, h2⟩
theorem load_at {p : Dot} {w : World} {v : Value} (h : IsAt p w v) : ∃ r, (Instr.loadAt 38 v).run Tryz.prog w = .ok r w ∧ IsDot p w r := by
  obtain ⟨b, o, rfl, h1, h2⟩ := h
  exact ⟨_, load_dot (Below.refl _ _) h1 h2, rfl⟩

/-! ### The contracts -/
theorem lofI {l : List Int} {k : List Dot} {w : World} {v : Value} (h : IsInts l w v) (hs : l.length ≤ 1000) (hk : pairs l = k) : Calls Tryz.prog 18 #[v] w (Ret w (IsDots k)) := by
  obtain ⟨A, n, c, rfl, hi⟩ := h
  subst hk
  exact (lof A n c l w hi (by have := hi.len; unfold Small; omega)).mono fun _ _ hr => hr.imp fun _ hx => IsRow.dots hx
theorem lconI {k : Int} {l : List Int} {c : Ctx} {w : World} {u v : Value} (hu : Is (.int .i64 k) w u) (h : IsInts l w v) (j : Nat) (hk : k = j) (hs : l.length ≤ 1000) (hj : j ≤ (pairs l).length) (hc : ((pairs l).take j, (pairs l).drop j) = c) :
    Calls Tryz.prog 13 #[u, v] w (Ret w (IsCon c)) := by
  obtain ⟨A, n, ca, rfl, hi⟩ := h
  cases hu; subst hk; subst hc
  exact lcon j A n ca l w hi (by have := hi.len; unfold Small; omega) hj
theorem IsCon.small {c : Ctx} {w : World} {A B : Option Addr} {n ca m cb N : Nat} (h : Con w A n ca B m cb c) (hs : c.1.length + c.2.length ≤ N) : n + m ≤ N := by have := h.v.len; have := h.k.len; omega
theorem lcompactsI {c d : Ctx} {no : Int} {w : World} {u v s : Value} (hu : IsCon c w u) (hv : IsCon d w v) (hs : Is (.int .i64 no) w s) (hl : c.1.length + c.2.length ≤ 1000) (r : Bool) (hr : (eqC (compR c).1 d && ((compR c).2 == no)) = r) :
    Calls Tryz.prog 14 #[u, v, s] w (Ret w (IsB r)) := by
  obtain ⟨A, n, ca, B, m, cb, rfl, hc⟩ := hu
  obtain ⟨A', n', ca', B', m', cb', rfl, hd⟩ := hv
  cases hs; subst hr
  exact lcompacts A B A' B' n ca m cb n' ca' m' cb' c d no w hc hd (by have := IsCon.small hc hl; unfold Small; omega)
theorem lmadeI {l : List Dot} {d : Ctx} {no : Int} {w : World} {u v s : Value} (hu : IsDots l w u) (hv : IsCon d w v) (hs : Is (.int .i64 no) w s) (hl : l.length ≤ 1000) (r : Bool) (hr : (eqC (addR ([], []) l).1 d && ((addR ([], []) l).2 == no)) = r) :
    Calls Tryz.prog 22 #[u, v, s] w (Ret w (IsB r)) := by
  obtain ⟨E, j, cj, rfl, hd0⟩ := hu
  obtain ⟨A', n', ca', B', m', cb', rfl, hd⟩ := hv
  cases hs; subst hr
  exact lmade E A' B' j cj n' ca' m' cb' l d no w hd0 hd (by have := hd0.len; unfold Small; omega)
theorem laddedI {c : Ctx} {l : List Dot} {d : Ctx} {no : Int} {w : World} {q u v s : Value} (hq : IsCon c w q) (hu : IsDots l w u) (hv : IsCon d w v) (hs : Is (.int .i64 no) w s) (hl : c.1.length + c.2.length ≤ 1000) (hl2 : l.length ≤ 1000) (r : Bool) (hr : (eqC (addR c l).1 d && ((addR c l).2 == no)) = r) :
    Calls Tryz.prog 23 #[q, u, v, s] w (Ret w (IsB r)) := by
  obtain ⟨A, n, ca, B, m, cb, rfl, hc⟩ := hq
  obtain ⟨E, j, cj, rfl, hd0⟩ := hu
  obtain ⟨A', n', ca', B', m', cb', rfl, hd⟩ := hv
  cases hs; subst hr
  exact ladded A B E A' B' n ca m cb j cj n' ca' m' cb' c l d no w hc hd0 hd (by have := hd0.len; have := IsCon.small hc hl; unfold Small; omega)
theorem lunitedI {a b d : Ctx} {no : Int} {w : World} {q u v s : Value} (hq : IsCon a w q) (hu : IsCon b w u) (hv : IsCon d w v) (hs : Is (.int .i64 no) w s) (hl : a.1.length + a.2.length ≤ 1000) (hl2 : b.1.length + b.2.length ≤ 1000) (r : Bool) (hr : (eqC (uniR a b).1 d && ((uniR a b).2 == no)) = r) :
    Calls Tryz.prog 7 #[q, u, v, s] w (Ret w (IsB r)) := by
  obtain ⟨A, n, ca, B, m, cb, rfl, hc⟩ := hq
  obtain ⟨A2, n2, ca2, B2, m2, cb2, rfl, hd0⟩ := hu
  obtain ⟨A', n', ca', B', m', cb', rfl, hd⟩ := hv
  cases hs; subst hr
  exact lunited A B A2 B2 A' B' n ca m cb n2 ca2 m2 cb2 n' ca' m' cb' a b d no w hc hd0 hd (by have := IsCon.small hc hl; have := IsCon.small hd0 hl2; unfold Small; omega)
theorem lwithinI {a b : Ctx} {want : Bool} {no : Int} {w : World} {q u v s : Value} (hq : IsCon a w q) (hu : IsCon b w u) (hv : Is (.bool want) w v) (hs : Is (.int .i64 no) w s) (hl : a.1.length + a.2.length ≤ 1000) (hl2 : b.1.length + b.2.length ≤ 1000) (r : Bool) (hr : ((winR a b).1 == want && ((winR a b).2 == no)) = r) :
    Calls Tryz.prog 8 #[q, u, v, s] w (Ret w (IsB r)) := by
  obtain ⟨A, n, ca, B, m, cb, rfl, hc⟩ := hq
  obtain ⟨A2, n2, ca2, B2, m2, cb2, rfl, hd0⟩ := hu
  cases hv; cases hs; subst hr
  exact lwithin A B A2 B2 n ca m cb n2 ca2 m2 cb2 a b want no w hc hd0 (by have := IsCon.small hc hl; have := IsCon.small hd0 hl2; unfold Small; omega)
theorem chasI {c : Ctx} {p : Dot} {w : World} {u v : Value} (hu : IsCon c w u) (hv : IsDot p w v) (r : Bool) (hr : hasC c p = r) : Calls Tryz.prog 17 #[u, v] w (Ret w (IsB r)) := by
  obtain ⟨A, n, ca, B, m, cb, rfl, hc⟩ := hu
  cases hv; subst hr
  exact chas p.1 p.2 A B n ca m cb c w hc
theorem ccompI {c : Ctx} {w : World} {u : Value} (hu : IsCon c w u) (r : Bool) (hr : compC c = r) : Calls Tryz.prog 15 #[u] w (Ret w (IsB r)) := by
  obtain ⟨A, n, ca, B, m, cb, rfl, hc⟩ := hu
  subst hr
  exact ccompact A B n ca m cb c w hc
theorem cvalidI {c : Ctx} {w : World} {u : Value} (hu : IsCon c w u) (r : Bool) (hr : validC c = r) : Calls Tryz.prog 16 #[u] w (Ret w (IsB r)) := by
  obtain ⟨A, n, ca, B, m, cb, rfl, hc⟩ := hu
  subst hr
  exact cvalid16 A B n ca m cb c w hc
theorem isizeI {c : Ctx} {w : World} {u : Value} (hu : IsCon c w u) (hl : c.1.length + c.2.length ≤ 1000) (r : Int) (hr : (if validC c then sizeR c else 0) = r) : Calls Tryz.prog 19 #[u] w (Ret w (IsU r)) := by
  obtain ⟨A, n, ca, B, m, cb, rfl, hc⟩ := hu
  subst hr
  exact isize A B n ca m cb c w hc (by have := IsCon.small hc hl; unfold Small; omega)
theorem imissingI {c : Ctx} {l : List Dot} {w : World} {u v : Value} (hu : IsCon c w u) (hv : IsDots l w v) (hl : l.length ≤ 1000) (k : List Dot) (hr : missC c l = k) : Calls Tryz.prog 21 #[u, v] w (Ret w (IsDots k)) := by
  obtain ⟨A, n, ca, B, m, cb, rfl, hc⟩ := hu
  obtain ⟨E, j, cj, rfl, hd0⟩ := hv
  subst hr
  exact (imissing A B E n ca m cb j cj c l w hc hd0 (by have := hd0.len; unfold Small; omega)).mono fun _ _ hr => hr.imp fun _ hx => IsRow.dots hx
theorem sameI {l k : List Dot} {w : World} {u v : Value} (hu : IsDots l w u) (hv : IsDots k w v) (r : Bool) (hr : eqL l k = r) : Calls Tryz.prog 20 #[u, v] w (Ret w (IsB r)) := by
  obtain ⟨A, n, ca, rfl, hc⟩ := hu
  obtain ⟨E, j, cj, rfl, hd0⟩ := hv
  subst hr
  exact same20 A E n j ca cj l k w hc hd0
theorem entLof : Enters Tryz.prog 18 := enters_of Tryz.func18 (by kernel_rfl) rfl
theorem entLcon : Enters Tryz.prog 13 := enters_of Tryz.func13 (by kernel_rfl) rfl
theorem entLcompacts : Enters Tryz.prog 14 := enters_of Tryz.func14 (by kernel_rfl) rfl
theorem entLmade : Enters Tryz.prog 22 := enters_of Tryz.func22 (by kernel_rfl) rfl
theorem entLadded : Enters Tryz.prog 23 := enters_of Tryz.func23 (by kernel_rfl) rfl
theorem entLunited : Enters Tryz.prog 7 := enters_of Tryz.func7 (by kernel_rfl) rfl
theorem entLwithin : Enters Tryz.prog 8 := enters_of Tryz.func8 (by kernel_rfl) rfl
theorem entHas : Enters Tryz.prog 17 := enters_of Tryz.func17 (by kernel_rfl) rfl
theorem entComp : Enters Tryz.prog 15 := enters_of Tryz.func15 (by kernel_rfl) rfl
theorem entValid : Enters Tryz.prog 16 := enters_of Tryz.func16 (by kernel_rfl) rfl
theorem entSize : Enters Tryz.prog 19 := enters_of Tryz.func19 (by kernel_rfl) rfl
theorem entMissing : Enters Tryz.prog 21 := enters_of Tryz.func21 (by kernel_rfl) rfl
theorem entSame : Enters Tryz.prog 20 := enters_of Tryz.func20 (by kernel_rfl) rfl
end Go.Proofs.YtdngechnelemlaaGreat

/-
  known: the examples of the chapter.
-/
namespace Go.Proofs.YtdngechnelemlaaGreat
open Go.RowKit

set_option maxRecDepth 100000 in
set_option maxHeartbeats 8000000 in
theorem known_ (w : World) : Calls Tryz.prog 5 #[] w (Ret w (IsB true)) := by
  go_enter Tryz.func5, Tryz.ntmps5
  go_wp2_with fail
  refine (lconI rfl ⟨_, _, _, rfl, ints_new4 w 1 2 1 4⟩ 1 rfl (by decide) (by decide) (c := ([(1, 2)], [(1, 4)])) rfl).mono ?_
  rintro _ w1 ⟨_, rfl, hb1, A, n, ca, B, m, cb, rfl, hc1⟩
  have q0 : ((w1.alloc (conBox A n ca B m cb)).alloc (conBox none 0 0 none 0 0)).cell? ⟨w1.heap.size, 0, none⟩ = some (.slice A n ca) := by simp [go_sem]
  have q1 : ((w1.alloc (conBox A n ca B m cb)).alloc (conBox none 0 0 none 0 0)).cell? ⟨w1.heap.size, 1, none⟩ = some (.slice B m cb) := by simp [go_sem]
  have q2 : ((w1.alloc (conBox A n ca B m cb)).alloc (conBox none 0 0 none 0 0)).cell? ⟨w1.heap.size + 1, 0, none⟩ = some (.slice none 0 0) := by simp [go_sem]
  have q3 : ((w1.alloc (conBox A n ca B m cb)).alloc (conBox none 0 0 none 0 0)).cell? ⟨w1.heap.size + 1, 1, none⟩ = some (.slice none 0 0) := by simp [go_sem]
  have hW : Below w1.heap.size w1 ((w1.alloc (conBox A n ca B m cb)).alloc (conBox none 0 0 none 0 0)) := by go_grown
  have HC1 := Lib.hid (hc1.mono hW)
  have HBW := Lib.hid ((((Below.refl _ w).alloc (Nat.le_refl _) _).le hb1).le hW)
  have Q0 := Lib.hid q0; have Q1 := Lib.hid q1; have Q2 := Lib.hid q2; have Q3 := Lib.hid q3
  have hsz : w1.heap.size + 1 + 1 = ((w1.alloc (conBox A n ca B m cb)).alloc (conBox none 0 0 none 0 0)).heap.size := by simp
  have HSZ := Lib.hid hsz
  clear hb1 hc1 q0 q1 q2 q3 hW hsz
  have g1 := Lib.hid (Below.refl ((w1.alloc (conBox A n ca B m cb)).alloc (conBox none 0 0 none 0 0)).heap.size ((w1.alloc (conBox A n ca B m cb)).alloc (conBox none 0 0 none 0 0)))
  go_wp2_with fail
  rw [HSZ.out]
  refine (lconI rfl ⟨_, _, _, rfl, ints_new8 ((w1.alloc (conBox A n ca B m cb)).alloc (conBox none 0 0 none 0 0)) 1 2 2 1 1 3 1 5⟩ 1 rfl (by decide) (by decide) (c := ([(1, 2)], [(2, 1), (1, 3), (1, 5)])) rfl).mono ?_
  rintro _ w2 ⟨v2, rfl, hb, h2⟩
  have hb' := ((Below.refl _ ((w1.alloc (conBox A n ca B m cb)).alloc (conBox none 0 0 none 0 0))).alloc (Nat.le_refl _) _).le hb
  have g2 := Lib.hid (g1.out.le hb')
  clear g1
  have H2 := Lib.hid h2; clear hb hb' h2
  go_wp2_with fail
  refine (lconI rfl ⟨_, _, _, rfl, ints_new6 w2 1 3 2 1 1 5⟩ 2 rfl (by decide) (by decide) (c := ([(1, 3), (2, 1)], [(1, 5)])) rfl).mono ?_
  rintro _ w3 ⟨v3, rfl, hb, h3⟩
  have hb' := ((Below.refl _ w2).alloc (Nat.le_refl _) _).le hb
  have g3 := Lib.hid (g2.out.le hb')
  have H2' := Lib.hid (Grows.up hb' H2.out); clear H2; have H2 := H2'; clear H2'
  clear g2
  have H3 := Lib.hid h3; clear hb hb' h3
  go_wp2_with fail
  refine (lcompactsI (c := ([(1, 2)], [(2, 1), (1, 3), (1, 5)])) (d := ([(1, 3), (2, 1)], [(1, 5)])) H2.out H3.out rfl (by decide) true (by kernel_rfl)).mono ?_
  rintro _ w4 ⟨_, rfl, hb, rfl⟩
  have g4 := Lib.hid (g3.out.le hb)
  clear g3
  clear hb
  go_wp2_with fail
  refine (lconI rfl ⟨_, _, _, rfl, ints_new4 w4 1 2 1 4⟩ 0 rfl (by decide) (by decide) (c := ([], [(1, 2), (1, 4)])) rfl).mono ?_
  rintro _ w5 ⟨v5, rfl, hb, h5⟩
  have hb' := ((Below.refl _ w4).alloc (Nat.le_refl _) _).le hb
  have g5 := Lib.hid (g4.out.le hb')
  clear g4
  have H5 := Lib.hid h5; clear hb hb' h5
  go_wp2_with fail
  refine (lconI rfl ⟨_, _, _, rfl, ints_new4 w5 1 2 1 4⟩ 0 rfl (by decide) (by decide) (c := ([], [(1, 2), (1, 4)])) rfl).mono ?_
  rintro _ w6 ⟨v6, rfl, hb, h6⟩
  have hb' := ((Below.refl _ w5).alloc (Nat.le_refl _) _).le hb
  have g6 := Lib.hid (g5.out.le hb')
  have H5' := Lib.hid (Grows.up hb' H5.out); clear H5; have H5 := H5'; clear H5'
  clear g5
  have H6 := Lib.hid h6; clear hb hb' h6
  go_wp2_with fail
  refine (lcompactsI (c := ([], [(1, 2), (1, 4)])) (d := ([], [(1, 2), (1, 4)])) H5.out H6.out rfl (by decide) true (by kernel_rfl)).mono ?_
  rintro _ w7 ⟨_, rfl, hb, rfl⟩
  have g7 := Lib.hid (g6.out.le hb)
  clear g6
  clear hb
  go_wp2_with fail
  refine (lconI rfl ⟨_, _, _, rfl, ints_new4 w7 1 5 1 3⟩ 1 rfl (by decide) (by decide) (c := ([(1, 5)], [(1, 3)])) rfl).mono ?_
  rintro _ w8 ⟨v8, rfl, hb, h8⟩
  have hb' := ((Below.refl _ w7).alloc (Nat.le_refl _) _).le hb
  have g8 := Lib.hid (g7.out.le hb')
  clear g7
  have H8 := Lib.hid h8; clear hb hb' h8
  go_wp2_with fail
  refine (lconI rfl ⟨_, _, _, rfl, ints_new2 w8 1 5⟩ 1 rfl (by decide) (by decide) (c := ([(1, 5)], [])) rfl).mono ?_
  rintro _ w9 ⟨v9, rfl, hb, h9⟩
  have hb' := ((Below.refl _ w8).alloc (Nat.le_refl _) _).le hb
  have g9 := Lib.hid (g8.out.le hb')
  have H8' := Lib.hid (Grows.up hb' H8.out); clear H8; have H8 := H8'; clear H8'
  clear g8
  have H9 := Lib.hid h9; clear hb hb' h9
  go_wp2_with fail
  refine (lcompactsI (c := ([(1, 5)], [(1, 3)])) (d := ([(1, 5)], [])) H8.out H9.out rfl (by decide) true (by kernel_rfl)).mono ?_
  rintro _ w10 ⟨_, rfl, hb, rfl⟩
  have g10 := Lib.hid (g9.out.le hb)
  clear g9
  clear hb
  have x0 := cellKeep g10.out Q0.out; have x1 := cellKeep g10.out Q1.out
  go_wp2_with fail
  refine (ccompI (c := ([(1, 2)], [(1, 4)])) ⟨A, n, ca, B, m, cb, rfl, HC1.out.mono g10.out⟩ true (by kernel_rfl)).mono ?_
  rintro _ w11 ⟨_, rfl, hb, rfl⟩
  have g11 := Lib.hid (g10.out.le hb)
  clear g10
  clear hb
  clear x0 x1
  go_wp2_with fail
  refine (lconI rfl ⟨_, _, _, rfl, ints_new4 w11 1 2 1 3⟩ 1 rfl (by decide) (by decide) (c := ([(1, 2)], [(1, 3)])) rfl).mono ?_
  rintro _ w12 ⟨v12, rfl, hb, h12⟩
  have hb' := ((Below.refl _ w11).alloc (Nat.le_refl _) _).le hb
  have g12 := Lib.hid (g11.out.le hb')
  clear g11
  have H12 := Lib.hid h12; clear hb hb' h12
  go_wp2_with fail
  refine (ccompI (c := ([(1, 2)], [(1, 3)])) H12.out false (by kernel_rfl)).mono ?_
  rintro _ w13 ⟨_, rfl, hb, rfl⟩
  have g13 := Lib.hid (g12.out.le hb)
  clear g12
  clear hb
  go_wp2_with fail
  refine (lconI rfl ⟨_, _, _, rfl, ints_new6 w13 1 2 1 4 1 3⟩ 1 rfl (by decide) (by decide) (c := ([(1, 2)], [(1, 4), (1, 3)])) rfl).mono ?_
  rintro _ w14 ⟨v14, rfl, hb, h14⟩
  have hb' := ((Below.refl _ w13).alloc (Nat.le_refl _) _).le hb
  have g14 := Lib.hid (g13.out.le hb')
  clear g13
  have H14 := Lib.hid h14; clear hb hb' h14
  go_wp2_with fail
  refine (cvalidI (c := ([(1, 2)], [(1, 4), (1, 3)])) H14.out false (by kernel_rfl)).mono ?_
  rintro _ w15 ⟨_, rfl, hb, rfl⟩
  have g15 := Lib.hid (g14.out.le hb)
  clear g14
  clear hb
  have X0 := Lib.hid (cellKeep g15.out Q0.out); have X1 := Lib.hid (cellKeep g15.out Q1.out); have X2 := Lib.hid (cellKeep g15.out Q2.out); have X3 := Lib.hid (cellKeep g15.out Q3.out)
  have HCW := Lib.hid (HC1.out.mono g15.out)
  have x0 := X0.out; have x1 := X1.out
  go_wp2_with fail
  clear x0 x1
  refine wp_region_M mixed (by kernel_rfl) ?_
  refine MDerR.step (Ob.load (F := IsCon ([(1, 2)], [(1, 4)])) Wanted.free Has.oldIs (fun w1 v hb1 hv => ⟨_, by rw [show v = _ from hv]; exact load_con hb1 X0.out X1.out, A, n, ca, B, m, cb, rfl, HCW.out.mono hb1⟩)) ?_
  refine MDerR.step (Ob.mkInts2 Wanted.free) ?_
  refine MDerR.step (Ob.call1 Wanted.free entLof (Has.new 1 0) (fun w1 v hb1 (hv : IsInts [1, 1] w1 v) => lofI hv (by decide) (k := [(1, 1)]) rfl)) ?_
  refine MDerR.step (Ob.indexAddr (F := IsAt (1, 1)) Wanted.free (Has.new 2 0) (Has.cst _) (fun w1 u v hb1 (hu : IsDots [(1, 1)] w1 u) (hv : IsI 0 w1 v) => at_head hu hv)) ?_
  refine MDerR.step (Ob.load (F := IsDot (1, 1)) Wanted.free (Has.new 3 0) (fun w1 v hb1 (hv : IsAt (1, 1) w1 v) => load_at hv)) ?_
  refine MDerR.step (Ob.call2 Wanted.free entHas (Has.new 0 4) (Has.new 4 0) (fun w1 u v hb1 (hu : IsCon ([(1, 2)], [(1, 4)]) w1 u) (hv : IsDot (1, 1) w1 v) => chasI hu hv true (by kernel_rfl))) ?_
  refine MDerR.step (Ob.not Wanted.free (Has.new 5 0)) ?_
  refine MDerR.step (Ob.move Wanted.free (Has.new 6 0)) ?_
  refine MDerR.step (Ob.load (F := IsCon ([(1, 2)], [(1, 4)])) (Wanted.on 7 0) Has.oldIs (fun w1 v hb1 hv => ⟨_, by rw [show v = _ from hv]; exact load_con hb1 X0.out X1.out, A, n, ca, B, m, cb, rfl, HCW.out.mono hb1⟩)) ?_
  refine MDerR.step (Ob.mkInts2 (Wanted.on 7 1)) ?_
  refine MDerR.step (Ob.call1 (Wanted.on 7 2) entLof (Has.new 9 0) (fun w1 v hb1 (hv : IsInts [1, 3] w1 v) => lofI hv (by decide) (k := [(1, 3)]) rfl)) ?_
  refine MDerR.step (Ob.indexAddr (F := IsAt (1, 3)) (Wanted.on 7 3) (Has.new 10 0) (Has.cst _) (fun w1 u v hb1 (hu : IsDots [(1, 3)] w1 u) (hv : IsI 0 w1 v) => at_head hu hv)) ?_
  refine MDerR.step (Ob.load (F := IsDot (1, 3)) (Wanted.on 7 4) (Has.new 11 0) (fun w1 v hb1 (hv : IsAt (1, 3) w1 v) => load_at hv)) ?_
  refine MDerR.step (Ob.call2 (Wanted.on 7 5) entHas (Has.new 8 4) (Has.new 12 0) (fun w1 u v hb1 (hu : IsCon ([(1, 2)], [(1, 4)]) w1 u) (hv : IsDot (1, 3) w1 v) => chasI hu hv false (by kernel_rfl))) ?_
  refine MDerR.step (Ob.pickF Wanted.free (Has.new 7 6) (Has.new 13 0)) ?_
  refine MDerR.step (Ob.move Wanted.free (Has.new 14 0)) ?_
  refine MDerR.step (Ob.load (F := IsCon ([(1, 2)], [(1, 4)])) (Wanted.on 15 0) Has.oldIs (fun w1 v hb1 hv => ⟨_, by rw [show v = _ from hv]; exact load_con hb1 X0.out X1.out, A, n, ca, B, m, cb, rfl, HCW.out.mono hb1⟩)) ?_
  refine MDerR.step (Ob.mkInts2 (Wanted.on 15 1)) ?_
  refine MDerR.step (Ob.call1 (Wanted.on 15 2) entLof (Has.new 17 0) (fun w1 v hb1 (hv : IsInts [1, 4] w1 v) => lofI hv (by decide) (k := [(1, 4)]) rfl)) ?_
  refine MDerR.step (Ob.indexAddr (F := IsAt (1, 4)) (Wanted.on 15 3) (Has.new 18 0) (Has.cst _) (fun w1 u v hb1 (hu : IsDots [(1, 4)] w1 u) (hv : IsI 0 w1 v) => at_head hu hv)) ?_
  refine MDerR.step (Ob.load (F := IsDot (1, 4)) (Wanted.on 15 4) (Has.new 19 0) (fun w1 v hb1 (hv : IsAt (1, 4) w1 v) => load_at hv)) ?_
  refine MDerR.step (Ob.call2 (Wanted.on 15 5) entHas (Has.new 16 4) (Has.new 20 0) (fun w1 u v hb1 (hu : IsCon ([(1, 2)], [(1, 4)]) w1 u) (hv : IsDot (1, 4) w1 v) => chasI hu hv true (by kernel_rfl))) ?_
  refine MDerR.step (Ob.not (Wanted.on 15 6) (Has.new 21 0)) ?_
  refine MDerR.step (Ob.pickF Wanted.free (Has.new 15 7) (Has.new 22 0)) ?_
  refine MDerR.step (Ob.move Wanted.free (Has.new 23 0)) ?_
  refine MDerR.step (Ob.mkInts6 (Wanted.on 24 0)) ?_
  refine MDerR.step (Ob.call2 (Wanted.on 24 1) entLcon (Has.cst _) (Has.new 25 0) (fun w1 u v hb1 (hu : IsI 1 w1 u) (hv : IsInts [1, 2, 1, 2, 1, 4] w1 v) => lconI hu hv 1 rfl (by decide) (by decide) (c := ([(1, 2)], [(1, 2), (1, 4)])) rfl)) ?_
  refine MDerR.step (Ob.call1 (Wanted.on 24 2) entSize (Has.new 26 0) (fun w1 u hb1 (hu : IsCon ([(1, 2)], [(1, 2), (1, 4)]) w1 u) => isizeI hu (by decide) 3 (by kernel_rfl))) ?_
  refine MDerR.step (Ob.binV (Wanted.on 24 3) (Has.new 27 0) (Has.cst _) (fun w1 => int_neq false rfl)) ?_
  refine MDerR.step (Ob.pickF Wanted.free (Has.new 24 4) (Has.new 28 0)) ?_
  refine MDerR.step (Ob.move Wanted.free (Has.new 29 0)) ?_
  refine MDerR.step (Ob.load (F := IsCon ([(1, 2)], [(1, 4)])) (Wanted.on 30 0) Has.oldIs (fun w1 v hb1 hv => ⟨_, by rw [show v = _ from hv]; exact load_con hb1 X0.out X1.out, A, n, ca, B, m, cb, rfl, HCW.out.mono hb1⟩)) ?_
  refine MDerR.step (Ob.mkInts6 (Wanted.on 30 1)) ?_
  refine MDerR.step (Ob.call1 (Wanted.on 30 2) entLof (Has.new 32 0) (fun w1 v hb1 (hv : IsInts [1, 5, 1, 3, 1, 4] w1 v) => lofI hv (by decide) (k := [(1, 5), (1, 3), (1, 4)]) rfl)) ?_
  refine MDerR.step (Ob.call2 (Wanted.on 30 3) entMissing (Has.new 31 2) (Has.new 33 0) (fun w1 u v hb1 (hu : IsCon ([(1, 2)], [(1, 4)]) w1 u) (hv : IsDots [(1, 5), (1, 3), (1, 4)] w1 v) => imissingI hu hv (by decide) [(1, 3), (1, 5)] (by kernel_rfl))) ?_
  refine MDerR.step (Ob.mkInts4 (Wanted.on 30 4)) ?_
  refine MDerR.step (Ob.call1 (Wanted.on 30 5) entLof (Has.new 35 0) (fun w1 v hb1 (hv : IsInts [1, 3, 1, 5] w1 v) => lofI hv (by decide) (k := [(1, 3), (1, 5)]) rfl)) ?_
  refine MDerR.step (Ob.call2 (Wanted.on 30 6) entSame (Has.new 34 2) (Has.new 36 0) (fun w1 u v hb1 (hu : IsDots [(1, 3), (1, 5)] w1 u) (hv : IsDots [(1, 3), (1, 5)] w1 v) => sameI hu hv true (by kernel_rfl))) ?_
  refine MDerR.step (Ob.not (Wanted.on 30 7) (Has.new 37 0)) ?_
  refine MDerR.step (Ob.pickF Wanted.free (Has.new 30 8) (Has.new 38 0)) ?_
  simp only [MDerR, dstsOf, List.map, EndM, List.reverse_cons, List.reverse_nil, List.nil_append, List.cons_append]
  intro wE hE
  rintro _ _h0
  rintro _ _h1
  rintro _ _h2
  rintro _ _h3
  iterate 4 (rintro _ rfl)
  rintro _ _h8
  rintro _ _h9
  rintro _ _h10
  rintro _ _h11
  iterate 4 (rintro _ rfl)
  rintro _ _h16
  rintro _ _h17
  rintro _ _h18
  rintro _ _h19
  iterate 5 (rintro _ rfl)
  rintro _ _h25
  rintro _ _h26
  iterate 4 (rintro _ rfl)
  rintro _ _h31
  rintro _ _h32
  rintro _ _h33
  rintro _ _h34
  rintro _ _h35
  rintro _ _h36
  iterate 3 (rintro _ rfl)
  simp only [Act.put, List.setIfInBounds_toArray, List.set_cons_zero, List.set_cons_succ]
  have g16 := Lib.hid (g15.out.le hE)
  generalize wE = w16 at *
  clear hE X0 X1 X2 X3 HCW g15
  have X0 := Lib.hid (cellKeep g16.out Q0.out); have X1 := Lib.hid (cellKeep g16.out Q1.out); have X2 := Lib.hid (cellKeep g16.out Q2.out); have X3 := Lib.hid (cellKeep g16.out Q3.out)
  have HCW := Lib.hid (HC1.out.mono g16.out)
  go_wp2_with fail
  refine wp_region_M mixed (by kernel_rfl) ?_
  refine MDerR.step (Ob.mkInts8 Wanted.free) ?_
  refine MDerR.step (Ob.call1 Wanted.free entLof (Has.new 0 0) (fun w1 v hb1 (hv : IsInts [1, 3, 1, 1, 2, 2, 1, 2] w1 v) => lofI hv (by decide) (k := [(1, 3), (1, 1), (2, 2), (1, 2)]) rfl)) ?_
  refine MDerR.step (Ob.mkInts4 Wanted.free) ?_
  refine MDerR.step (Ob.call2 Wanted.free entLcon (Has.cst _) (Has.new 2 0) (fun w1 u v hb1 (hu : IsI 1 w1 u) (hv : IsInts [1, 3, 2, 2] w1 v) => lconI hu hv 1 rfl (by decide) (by decide) (c := ([(1, 3)], [(2, 2)])) rfl)) ?_
  refine MDerR.step (Ob.call3 Wanted.free entLmade (Has.new 1 2) (Has.new 3 0) (Has.cst _) (fun w1 u v s hb1 (hu : IsDots [(1, 3), (1, 1), (2, 2), (1, 2)] w1 u) (hv : IsCon ([(1, 3)], [(2, 2)]) w1 v) (hs : IsI 0 w1 s) => lmadeI hu hv hs (by decide) true (by kernel_rfl))) ?_
  refine MDerR.step (Ob.not Wanted.free (Has.new 4 0)) ?_
  refine MDerR.step (Ob.move Wanted.free (Has.new 5 0)) ?_
  refine MDerR.step (Ob.load (F := IsCon ([(1, 2)], [(1, 4)])) (Wanted.on 6 0) Has.oldIs (fun w1 v hb1 hv => ⟨_, by rw [show v = _ from hv]; exact load_con hb1 X0.out X1.out, A, n, ca, B, m, cb, rfl, HCW.out.mono hb1⟩)) ?_
  refine MDerR.step (Ob.mkInts2 (Wanted.on 6 1)) ?_
  refine MDerR.step (Ob.call1 (Wanted.on 6 2) entLof (Has.new 8 0) (fun w1 v hb1 (hv : IsInts [1, 3] w1 v) => lofI hv (by decide) (k := [(1, 3)]) rfl)) ?_
  refine MDerR.step (Ob.mkInts2 (Wanted.on 6 3)) ?_
  refine MDerR.step (Ob.call2 (Wanted.on 6 4) entLcon (Has.cst _) (Has.new 10 0) (fun w1 u v hb1 (hu : IsI 1 w1 u) (hv : IsInts [1, 4] w1 v) => lconI hu hv 1 rfl (by decide) (by decide) (c := ([(1, 4)], [])) rfl)) ?_
  refine MDerR.step (Ob.call4 (Wanted.on 6 5) entLadded (Has.new 7 4) (Has.new 9 2) (Has.new 11 0) (Has.cst _) (fun w1 q u v s hb1 (hq : IsCon ([(1, 2)], [(1, 4)]) w1 q) (hu : IsDots [(1, 3)] w1 u) (hv : IsCon ([(1, 4)], []) w1 v) (hs : IsI 0 w1 s) => laddedI hq hu hv hs (by decide) (by decide) true (by kernel_rfl))) ?_
  refine MDerR.step (Ob.not (Wanted.on 6 6) (Has.new 12 0)) ?_
  refine MDerR.step (Ob.pickF Wanted.free (Has.new 6 7) (Has.new 13 0)) ?_
  refine MDerR.step (Ob.move Wanted.free (Has.new 14 0)) ?_
  refine MDerR.step (Ob.load (F := IsCon ([(1, 2)], [(1, 4)])) (Wanted.on 15 0) Has.oldIs (fun w1 v hb1 hv => ⟨_, by rw [show v = _ from hv]; exact load_con hb1 X0.out X1.out, A, n, ca, B, m, cb, rfl, HCW.out.mono hb1⟩)) ?_
  refine MDerR.step (Ob.mkInts6 (Wanted.on 15 1)) ?_
  refine MDerR.step (Ob.call2 (Wanted.on 15 2) entLcon (Has.cst _) (Has.new 17 0) (fun w1 u v hb1 (hu : IsI 1 w1 u) (hv : IsInts [1, 1, 2, 2, 1, 3] w1 v) => lconI hu hv 1 rfl (by decide) (by decide) (c := ([(1, 1)], [(2, 2), (1, 3)])) rfl)) ?_
  refine MDerR.step (Ob.mkInts4 (Wanted.on 15 3)) ?_
  refine MDerR.step (Ob.call2 (Wanted.on 15 4) entLcon (Has.cst _) (Has.new 19 0) (fun w1 u v hb1 (hu : IsI 1 w1 u) (hv : IsInts [1, 4, 2, 2] w1 v) => lconI hu hv 1 rfl (by decide) (by decide) (c := ([(1, 4)], [(2, 2)])) rfl)) ?_
  refine MDerR.step (Ob.call4 (Wanted.on 15 5) entLunited (Has.new 16 4) (Has.new 18 2) (Has.new 20 0) (Has.cst _) (fun w1 q u v s hb1 (hq : IsCon ([(1, 2)], [(1, 4)]) w1 q) (hu : IsCon ([(1, 1)], [(2, 2), (1, 3)]) w1 u) (hv : IsCon ([(1, 4)], [(2, 2)]) w1 v) (hs : IsI 0 w1 s) => lunitedI hq hu hv hs (by decide) (by decide) true (by kernel_rfl))) ?_
  refine MDerR.step (Ob.not (Wanted.on 15 6) (Has.new 21 0)) ?_
  refine MDerR.step (Ob.pickF Wanted.free (Has.new 15 7) (Has.new 22 0)) ?_
  refine MDerR.step (Ob.move Wanted.free (Has.new 23 0)) ?_
  refine MDerR.step (Ob.mkInts2 (Wanted.on 24 0)) ?_
  refine MDerR.step (Ob.call1 (Wanted.on 24 1) entLof (Has.new 25 0) (fun w1 v hb1 (hv : IsInts [0, 1] w1 v) => lofI hv (by decide) (k := [(0, 1)]) rfl)) ?_
  refine MDerR.step (Ob.load (F := IsCon ([], [])) (Wanted.on 24 2) Has.oldIs (fun w1 v hb1 hv => ⟨_, by rw [show v = _ from hv]; exact load_con hb1 X2.out X3.out, none, 0, 0, none, 0, 0, rfl, ⟨Dots.nil_, Dots.nil_⟩⟩)) ?_
  refine MDerR.step (Ob.call3 (Wanted.on 24 3) entLmade (Has.new 26 1) (Has.new 27 0) (Has.cst _) (fun w1 u v s hb1 (hu : IsDots [(0, 1)] w1 u) (hv : IsCon ([], []) w1 v) (hs : IsI 2 w1 s) => lmadeI hu hv hs (by decide) true (by kernel_rfl))) ?_
  refine MDerR.step (Ob.not (Wanted.on 24 4) (Has.new 28 0)) ?_
  refine MDerR.step (Ob.pickF Wanted.free (Has.new 24 5) (Has.new 29 0)) ?_
  simp only [MDerR, dstsOf, List.map, EndM, List.reverse_cons, List.reverse_nil, List.nil_append, List.cons_append]
  intro wE hE
  rintro _ _h0
  rintro _ _h1
  rintro _ _h2
  rintro _ _h3
  iterate 3 (rintro _ rfl)
  rintro _ _h7
  rintro _ _h8
  rintro _ _h9
  rintro _ _h10
  rintro _ _h11
  iterate 4 (rintro _ rfl)
  rintro _ _h16
  rintro _ _h17
  rintro _ _h18
  rintro _ _h19
  rintro _ _h20
  iterate 4 (rintro _ rfl)
  rintro _ _h25
  rintro _ _h26
  rintro _ _h27
  iterate 3 (rintro _ rfl)
  simp only [Act.put, List.setIfInBounds_toArray, List.set_cons_zero, List.set_cons_succ]
  have g17 := Lib.hid (g16.out.le hE)
  generalize wE = w17 at *
  clear hE X0 X1 X2 X3 HCW g16
  go_wp2_with fail
  refine (lconI rfl ⟨_, _, _, rfl, ints_new2 w17 1 2⟩ 1 rfl (by decide) (by decide) (c := ([(1, 2)], [])) rfl).mono ?_
  rintro _ w18 ⟨v18, rfl, hb, h18⟩
  have hb' := ((Below.refl _ w17).alloc (Nat.le_refl _) _).le hb
  have g18 := Lib.hid (g17.out.le hb')
  clear g17
  have H18 := Lib.hid h18; clear hb hb' h18
  go_wp2_with fail
  refine (lconI rfl ⟨_, _, _, rfl, ints_new4 w18 1 1 1 2⟩ 0 rfl (by decide) (by decide) (c := ([], [(1, 1), (1, 2)])) rfl).mono ?_
  rintro _ w19 ⟨v19, rfl, hb, h19⟩
  have hb' := ((Below.refl _ w18).alloc (Nat.le_refl _) _).le hb
  have g19 := Lib.hid (g18.out.le hb')
  have H18' := Lib.hid (Grows.up hb' H18.out); clear H18; have H18 := H18'; clear H18'
  clear g18
  have H19 := Lib.hid h19; clear hb hb' h19
  go_wp2_with fail
  refine (lwithinI (a := ([(1, 2)], [])) (b := ([], [(1, 1), (1, 2)])) H18.out H19.out rfl rfl (by decide) (by decide) true (by kernel_rfl)).mono ?_
  rintro _ w20 ⟨_, rfl, hb, rfl⟩
  have g20 := Lib.hid (g19.out.le hb)
  clear g19
  clear hb
  go_wp2_with fail
  refine (lconI rfl ⟨_, _, _, rfl, ints_new2 w20 1 2⟩ 1 rfl (by decide) (by decide) (c := ([(1, 2)], [])) rfl).mono ?_
  rintro _ w21 ⟨v21, rfl, hb, h21⟩
  have hb' := ((Below.refl _ w20).alloc (Nat.le_refl _) _).le hb
  have g21 := Lib.hid (g20.out.le hb')
  clear g20
  have H21 := Lib.hid h21; clear hb hb' h21
  go_wp2_with fail
  refine (lconI rfl ⟨_, _, _, rfl, ints_new2 w21 1 2⟩ 0 rfl (by decide) (by decide) (c := ([], [(1, 2)])) rfl).mono ?_
  rintro _ w22 ⟨v22, rfl, hb, h22⟩
  have hb' := ((Below.refl _ w21).alloc (Nat.le_refl _) _).le hb
  have g22 := Lib.hid (g21.out.le hb')
  have H21' := Lib.hid (Grows.up hb' H21.out); clear H21; have H21 := H21'; clear H21'
  clear g21
  have H22 := Lib.hid h22; clear hb hb' h22
  go_wp2_with fail
  refine (lwithinI (a := ([(1, 2)], [])) (b := ([], [(1, 2)])) H21.out H22.out rfl rfl (by decide) (by decide) true (by kernel_rfl)).mono ?_
  rintro _ w23 ⟨_, rfl, hb, rfl⟩
  have g23 := Lib.hid (g22.out.le hb)
  clear g22
  clear hb
  have x0 := cellKeep g23.out Q2.out; have x1 := cellKeep g23.out Q3.out
  go_wp2_with fail
  refine (lwithinI (a := ([], [])) (b := ([], [])) ⟨none, 0, 0, none, 0, 0, rfl, ⟨Dots.nil_, Dots.nil_⟩⟩ ⟨none, 0, 0, none, 0, 0, rfl, ⟨Dots.nil_, Dots.nil_⟩⟩ rfl rfl (by decide) (by decide) true (by kernel_rfl)).mono ?_
  rintro _ w24 ⟨_, rfl, hb, rfl⟩
  have g24 := Lib.hid (g23.out.le hb)
  clear g23
  clear hb
  go_wp2
  go_ret
  exact retB rfl (HBW.out.le g24.out)
theorem entKnown : Enters Tryz.prog 5 := enters_of Tryz.func5 (by kernel_rfl) rfl
end Go.Proofs.YtdngechnelemlaaGreat

/-
  More contracts for values that are known by what they read as: the reference's.
-/
namespace Go.Proofs.YtdngechnelemlaaGreat
open Go.RowKit

theorem rchasI {c : Ctx} {p : Dot} {w : World} {u v : Value} (hu : IsCon c w u) (hv : IsDot p w v) (r : Bool) (hr : hasC c p = r) : Calls Tryz.prog 33 #[u, v] w (Ret w (IsB r)) := by
  obtain ⟨A, n, ca, B, m, cb, rfl, hc⟩ := hu
  cases hv; subst hr
  exact rchas p.1 p.2 A B n ca m cb c w hc
theorem rcompI {c : Ctx} {w : World} {u : Value} (hu : IsCon c w u) (r : Bool) (hr : compC c = r) : Calls Tryz.prog 55 #[u] w (Ret w (IsB r)) := by
  obtain ⟨A, n, ca, B, m, cb, rfl, hc⟩ := hu
  subst hr
  exact rccompact A B n ca m cb c w hc
theorem rvalidI {c : Ctx} {w : World} {u : Value} (hu : IsCon c w u) (r : Bool) (hr : validC c = r) : Calls Tryz.prog 6 #[u] w (Ret w (IsB r)) := by
  obtain ⟨A, n, ca, B, m, cb, rfl, hc⟩ := hu
  subst hr
  exact cvalid6 A B n ca m cb c w hc
theorem rcompactI {c : Ctx} {w : World} {u : Value} (hu : IsCon c w u) (hl : c.1.length + c.2.length ≤ 1000) (hv : validC c = true) : Calls Tryz.prog 30 #[u] w (Ret w (IsCon (passC c))) := by
  obtain ⟨A, n, ca, B, m, cb, rfl, hc⟩ := hu
  rw [← compact_pass]
  exact rcompactC A B n ca m cb c w hc (by have := IsCon.small hc hl; unfold Small; omega) hv (pass_comp hv)
theorem rdotsI {l : List Dot} {w : World} {v : Value} (hv : IsDots l w v) (r : Bool) (hr : validL l = r) : Calls Tryz.prog 26 #[v] w (Ret w (IsB r)) := by
  obtain ⟨E, j, cj, rfl, hd0⟩ := hv
  subst hr
  exact rvalidL E j cj l w hd0
theorem rceqI {c d : Ctx} {w : World} {u v : Value} (hu : IsCon c w u) (hv : IsCon d w v) (r : Bool) (hr : eqC c d = r) : Calls Tryz.prog 12 #[u, v] w (Ret w (IsB r)) := by
  obtain ⟨A, n, ca, B, m, cb, rfl, hc⟩ := hu
  obtain ⟨A', n', ca', B', m', cb', rfl, hd⟩ := hv
  subst hr
  exact rceq A B A' B' n ca m cb n' ca' m' cb' c d w hc hd
theorem ceqI {c d : Ctx} {w : World} {u v : Value} (hu : IsCon c w u) (hv : IsCon d w v) (r : Bool) (hr : eqC c d = r) : Calls Tryz.prog 54 #[u, v] w (Ret w (IsB r)) := by
  obtain ⟨A, n, ca, B, m, cb, rfl, hc⟩ := hu
  obtain ⟨A', n', ca', B', m', cb', rfl, hd⟩ := hv
  subst hr
  exact ceq54 A B A' B' n ca m cb n' ca' m' cb' c d w hc hd
theorem lgivesI {c d : Ctx} {e no : Int} {w : World} {q u v s : Value} (hq : IsCon c w q) (hu : Is (.int .i64 e) w u) (hv : IsCon d w v) (hs : Is (.int .i64 no) w s) (r : Bool) (hr : (eqC c d && (e == no)) = r) :
    Calls Tryz.prog 28 #[q, u, v, s] w (Ret w (IsB r)) := by
  obtain ⟨A, n, ca, B, m, cb, rfl, hc⟩ := hq
  obtain ⟨A', n', ca', B', m', cb', rfl, hd⟩ := hv
  cases hu; cases hs; subst hr
  exact lgives A B A' B' n ca m cb n' ca' m' cb' c d e no w hc hd
def lightB (c : Ctx) : Bool := decide (c.1.length ≤ 40 ∧ c.2.length ≤ 40)
theorem lightB_len {c : Ctx} (h : lightB c = true) : c.1.length ≤ 40 ∧ c.2.length ≤ 40 := of_decide_eq_true h
theorem lightI {c : Ctx} {w : World} {u : Value} (hu : IsCon c w u) (r : Bool) (hr : lightB c = r) : Calls Tryz.prog 4 #[u] w (Ret w (IsB r)) := by
  obtain ⟨A, n, ca, B, m, cb, rfl, hc⟩ := hu
  subst hr
  exact light_ A B n ca m cb c w hc
theorem entRHas : Enters Tryz.prog 33 := enters_of Tryz.func33 (by kernel_rfl) rfl
theorem entRComp : Enters Tryz.prog 55 := enters_of Tryz.func55 (by kernel_rfl) rfl
theorem entRValid : Enters Tryz.prog 6 := enters_of Tryz.func6 (by kernel_rfl) rfl
theorem entRCompact : Enters Tryz.prog 30 := enters_of Tryz.func30 (by kernel_rfl) rfl
theorem entRDots : Enters Tryz.prog 26 := enters_of Tryz.func26 (by kernel_rfl) rfl
theorem entRceq : Enters Tryz.prog 12 := enters_of Tryz.func12 (by kernel_rfl) rfl
theorem entCeq : Enters Tryz.prog 54 := enters_of Tryz.func54 (by kernel_rfl) rfl
theorem entGives : Enters Tryz.prog 28 := enters_of Tryz.func28 (by kernel_rfl) rfl
theorem entLight : Enters Tryz.prog 4 := enters_of Tryz.func4 (by kernel_rfl) rfl
end Go.Proofs.YtdngechnelemlaaGreat
