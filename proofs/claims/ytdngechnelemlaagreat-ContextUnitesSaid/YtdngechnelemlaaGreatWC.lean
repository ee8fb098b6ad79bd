/-
  Is a dot in a vector, in a context; which vectors are valid: in the code and in the reference.
-/
import Derived.Test.YtdngechnelemlaaGreatWB
import Derived.Test.YtdngechnelemlaaGreatWA
namespace Go.Proofs.YtdngechnelemlaaGreat
open Go.RowKit

theorem retB2 {w w' : World} {b b' : Bool} (hb : Below w.heap.size w w') (e : b = b') : Ret w (IsB b') (.returned (.bool b)) w' := retB e hb

/-- The reference's Get. -/
def GetRel (w : World) (n : Nat) (l : List Dot) (r : Int) (i : Value) (wr : World) : Prop :=
  ∃ k : Nat, i = .int .i64 k ∧ k ≤ n ∧ Below w.heap.size w wr ∧ getV l r = getV (l.drop k) r
set_option maxHeartbeats 1000000 in
theorem rget (A : Option Addr) (n c : Nat) (l : List Dot) (r : Int) (w : World) (h : Dots w A n c l) : Calls Tryz.prog 57 #[.slice A n c, .int .i64 r] w (Ret w (IsI (getV l r))) := by
  have hn := h.big
  go_enter Tryz.func57, Tryz.ntmps57
  go_wp2
  go_loopw [5] (fun i wr => GetRel w n l r i wr) (fun i _ => n - (intOf i).toNat)
  case atStart => exact ⟨0, rfl, by omega, Below.refl _ _, by simp⟩
  case round =>
    obtain ⟨k, rfl, hk, hb, hs⟩ := hrel
    by_cases hlt : k < n
    · obtain ⟨b, o, x, y, rfl, hbk, -, d1, c1, c2⟩ := (h.mono hb).at_ (k := k) hlt
      have D1 := Lib.hid d1; have HS := Lib.hid hs
      clear d1 hs
      cases hl : (x == r) with
      | true =>
        have HL := Lib.hid hl
        go_wp2
        go_ret
        exact retI (by rw [HS.out, D1.out]; simp [getV, eq_of_beq HL.out]) hb
      | false =>
        have HL := Lib.hid hl
        go_wp2
        go_roundw
        case rel => exact ⟨k + 1, by simp, hlt, hb, by rw [HS.out, D1.out]; simp [getV, beq_eq_false_iff_ne.1 HL.out]⟩
        case measure => simp [intOf]; omega
    · have HS := Lib.hid hs; clear hs
      go_wp2
      go_ret
      exact retI (by rw [HS.out, List.drop_of_length_le (by rw [← h.len]; omega)]; rfl) hb

def hasV (l : List Dot) (d : Dot) : Bool := validD d && decide (d.2 ≤ getV l d.1)
theorem hasV_no {l : List Dot} {d : Dot} (h : validD d = false) : hasV l d = false := by unfold hasV; rw [h]; rfl
theorem hasV_yes {l : List Dot} {d : Dot} (h : validD d = true) : hasV l d = decide (d.2 ≤ getV l d.1) := by unfold hasV; rw [h]; rfl

theorem entersV56 : Enters Tryz.prog 50 := enters_of Tryz.func50 (by kernel_rfl) rfl
theorem entersG56 : Enters Tryz.prog 57 := enters_of Tryz.func57 (by kernel_rfl) rfl
set_option maxRecDepth 100000 in
set_option maxHeartbeats 1000000 in
theorem hasv56 (x y : Int) (A : Option Addr) (n c : Nat) (l : List Dot) (w : World) (h : Dots w A n c l) :
    Calls Tryz.prog 56 #[.slice A n c, .agg #[.int .i64 x, .int .i64 y]] w (Ret w (IsB (hasV l (x, y)))) := by
  have hb0 : Below w.heap.size w (w.alloc (.cells #[.int .i64 x, .int .i64 y] 38)) := (Below.refl _ _).alloc (Nat.le_refl _) _
  have h0 := h.mono hb0
  have k1 : (w.alloc (.cells #[.int .i64 x, .int .i64 y] 38)).cell? ⟨w.heap.size, 0, none⟩ = some (.int .i64 x) := by simp [go_sem]
  have k2 : (w.alloc (.cells #[.int .i64 x, .int .i64 y] 38)).cell? ⟨w.heap.size, 1, none⟩ = some (.int .i64 y) := by simp [go_sem]
  have cv := rvalid x y
  have cg := fun w1 h1 => rget A n c l x w1 h1
  cases hv : validD (x, y) with
  | false =>
    rw [hv] at cv
    rw [hasV_no hv]
    go_enter Tryz.func56, Tryz.ntmps56
    go_wp2_with fail
    refine wp_region_M mixed (by kernel_rfl) ?_
    refine MDerR.step (Ob.loadV Wanted.free Has.oldIs (fun w1 hb => load_dot hb k1 k2)) ?_
    refine MDerR.step (Ob.call1V Wanted.free entersV56 (Has.new 0 0) (fun w1 _ => cv w1)) ?_
    refine MDerR.step (Ob.move Wanted.free (Has.new 1 0)) ?_
    refine MDerR.step (Ob.off 2 0) ?_
    refine MDerR.step (Ob.off 2 1) ?_
    refine MDerR.step (Ob.off 2 2) ?_
    refine MDerR.step (Ob.off 2 3) ?_
    refine MDerR.step (Ob.off 2 4) ?_
    refine MDerR.step (Ob.off 2 5) ?_
    refine MDerR.step (Ob.off 2 6) ?_
    refine MDerR.step (Ob.pickF Wanted.free (Has.new 2 7) (Has.cst _)) ?_
    refine MDerR.step (Ob.assign Wanted.free (Has.new 10 0)) ?_
    simp only [MDerR, dstsOf, List.map, EndM, List.reverse_cons, List.reverse_nil, List.nil_append, List.cons_append]
    intro wE hE
    iterate 12 (rintro _ rfl)
    simp only [Act.put, List.setIfInBounds_toArray, List.set_cons_zero, List.set_cons_succ]
    go_wp2
    go_ret
    exact retB rfl (hb0.le hE)
  | true =>
    rw [hv] at cv
    rw [hasV_yes hv]
    generalize getV l x = q at cg ⊢
    go_enter Tryz.func56, Tryz.ntmps56
    go_wp2_with fail
    refine wp_region_M mixed (by kernel_rfl) ?_
    refine MDerR.step (Ob.loadV Wanted.free Has.oldIs (fun w1 hb => load_dot hb k1 k2)) ?_
    refine MDerR.step (Ob.call1V Wanted.free entersV56 (Has.new 0 0) (fun w1 _ => cv w1)) ?_
    refine MDerR.step (Ob.move Wanted.free (Has.new 1 0)) ?_
    refine MDerR.step (Ob.fieldV (Wanted.on 2 0) Has.oldIs (fun w1 => field_dot1)) ?_
    refine MDerR.step (Ob.loadV (Wanted.on 2 1) (Has.new 3 0) (fun w1 hb => load_int hb k2)) ?_
    refine MDerR.step (Ob.move (Wanted.on 2 2) Has.oldIs) ?_
    refine MDerR.step (Ob.fieldV (Wanted.on 2 3) Has.oldIs (fun w1 => field_dot0)) ?_
    refine MDerR.step (Ob.loadV (Wanted.on 2 4) (Has.new 6 0) (fun w1 hb => load_int hb k1)) ?_
    refine MDerR.step (Ob.call2V (Wanted.on 2 5) entersG56 (Has.new 5 2) (Has.new 7 0) (fun w1 hb => cg w1 (h0.mono hb))) ?_
    refine MDerR.step (Ob.binV (Wanted.on 2 6) (Has.new 4 4) (Has.new 8 0) (fun w1 => int_leq _ rfl)) ?_
    refine MDerR.step (Ob.pickT Wanted.free (Has.new 2 7) (Has.new 9 0)) ?_
    refine MDerR.step (Ob.assign Wanted.free (Has.new 10 0)) ?_
    simp only [MDerR, dstsOf, List.map, EndM, List.reverse_cons, List.reverse_nil, List.nil_append, List.cons_append]
    intro wE hE
    iterate 12 (rintro _ rfl)
    simp only [Act.put, List.setIfInBounds_toArray, List.set_cons_zero, List.set_cons_succ]
    go_wp2
    go_ret
    exact retB rfl (hb0.le hE)
theorem entersV42 : Enters Tryz.prog 43 := enters_of Tryz.func43 (by kernel_rfl) rfl
theorem entersG42 : Enters Tryz.prog 37 := enters_of Tryz.func37 (by kernel_rfl) rfl
set_option maxRecDepth 100000 in
set_option maxHeartbeats 1000000 in
theorem hasv42 (x y : Int) (A : Option Addr) (n c : Nat) (l : List Dot) (w : World) (h : Dots w A n c l) :
    Calls Tryz.prog 42 #[.slice A n c, .agg #[.int .i64 x, .int .i64 y]] w (Ret w (IsB (hasV l (x, y)))) := by
  have hb0 : Below w.heap.size w (w.alloc (.cells #[.int .i64 x, .int .i64 y] 38)) := (Below.refl _ _).alloc (Nat.le_refl _) _
  have h0 := h.mono hb0
  have k1 : (w.alloc (.cells #[.int .i64 x, .int .i64 y] 38)).cell? ⟨w.heap.size, 0, none⟩ = some (.int .i64 x) := by simp [go_sem]
  have k2 : (w.alloc (.cells #[.int .i64 x, .int .i64 y] 38)).cell? ⟨w.heap.size, 1, none⟩ = some (.int .i64 y) := by simp [go_sem]
  have cv := dvalid x y
  have cg := fun w1 h1 => vget A n c l x w1 h1
  cases hv : validD (x, y) with
  | false =>
    rw [hv] at cv
    rw [hasV_no hv]
    go_enter Tryz.func42, Tryz.ntmps42
    go_wp2_with fail
    refine wp_region_M mixed (by kernel_rfl) ?_
    refine MDerR.step (Ob.loadV Wanted.free Has.oldIs (fun w1 hb => load_dot hb k1 k2)) ?_
    refine MDerR.step (Ob.call1V Wanted.free entersV42 (Has.new 0 0) (fun w1 _ => cv w1)) ?_
    refine MDerR.step (Ob.move Wanted.free (Has.new 1 0)) ?_
    refine MDerR.step (Ob.off 2 0) ?_
    refine MDerR.step (Ob.off 2 1) ?_
    refine MDerR.step (Ob.off 2 2) ?_
    refine MDerR.step (Ob.off 2 3) ?_
    refine MDerR.step (Ob.off 2 4) ?_
    refine MDerR.step (Ob.off 2 5) ?_
    refine MDerR.step (Ob.off 2 6) ?_
    refine MDerR.step (Ob.pickF Wanted.free (Has.new 2 7) (Has.cst _)) ?_
    refine MDerR.step (Ob.assign Wanted.free (Has.new 10 0)) ?_
    simp only [MDerR, dstsOf, List.map, EndM, List.reverse_cons, List.reverse_nil, List.nil_append, List.cons_append]
    intro wE hE
    iterate 12 (rintro _ rfl)
    simp only [Act.put, List.setIfInBounds_toArray, List.set_cons_zero, List.set_cons_succ]
    go_wp2
    go_ret
    exact retB rfl (hb0.le hE)
  | true =>
    rw [hv] at cv
    rw [hasV_yes hv]
    generalize getV l x = q at cg ⊢
    go_enter Tryz.func42, Tryz.ntmps42
    go_wp2_with fail
    refine wp_region_M mixed (by kernel_rfl) ?_
    refine MDerR.step (Ob.loadV Wanted.free Has.oldIs (fun w1 hb => load_dot hb k1 k2)) ?_
    refine MDerR.step (Ob.call1V Wanted.free entersV42 (Has.new 0 0) (fun w1 _ => cv w1)) ?_
    refine MDerR.step (Ob.move Wanted.free (Has.new 1 0)) ?_
    refine MDerR.step (Ob.fieldV (Wanted.on 2 0) Has.oldIs (fun w1 => field_dot1)) ?_
    refine MDerR.step (Ob.loadV (Wanted.on 2 1) (Has.new 3 0) (fun w1 hb => load_int hb k2)) ?_
    refine MDerR.step (Ob.move (Wanted.on 2 2) Has.oldIs) ?_
    refine MDerR.step (Ob.fieldV (Wanted.on 2 3) Has.oldIs (fun w1 => field_dot0)) ?_
    refine MDerR.step (Ob.loadV (Wanted.on 2 4) (Has.new 6 0) (fun w1 hb => load_int hb k1)) ?_
    refine MDerR.step (Ob.call2V (Wanted.on 2 5) entersG42 (Has.new 5 2) (Has.new 7 0) (fun w1 hb => cg w1 (h0.mono hb))) ?_
    refine MDerR.step (Ob.binV (Wanted.on 2 6) (Has.new 4 4) (Has.new 8 0) (fun w1 => int_leq _ rfl)) ?_
    refine MDerR.step (Ob.pickT Wanted.free (Has.new 2 7) (Has.new 9 0)) ?_
    refine MDerR.step (Ob.assign Wanted.free (Has.new 10 0)) ?_
    simp only [MDerR, dstsOf, List.map, EndM, List.reverse_cons, List.reverse_nil, List.nil_append, List.cons_append]
    intro wE hE
    iterate 12 (rintro _ rfl)
    simp only [Act.put, List.setIfInBounds_toArray, List.set_cons_zero, List.set_cons_succ]
    go_wp2
    go_ret
    exact retB rfl (hb0.le hE)
end Go.Proofs.YtdngechnelemlaaGreat

/-
  Which vectors are valid: in the code and in the reference; the reference's look over dots; the code's look over sets.
-/
namespace Go.Proofs.YtdngechnelemlaaGreat
open Go.RowKit

def incV : List Dot → Bool
  | a :: b :: t => decide (a.1 < b.1) && incV (b :: t)
  | _ => true
def validV (l : List Dot) : Bool := incV l && validL l
theorem incV_short {l : List Dot} (h : l.length ≤ 1) : incV l = true := by
  match l, h with
  | [], _ => rfl
  | [a], _ => rfl

def IncRel (w : World) (n : Nat) (l : List Dot) (i : Value) (wr : World) : Prop :=
  ∃ k : Nat, i = .int .i64 (k + 1 : Nat) ∧ (k < n ∨ k = 0) ∧ Below w.heap.size w wr ∧ incV l = incV (l.drop k)
theorem IncRel.next {w w1 : World} {n k : Nat} {l : List Dot} (hb : Below w.heap.size w w1) (hk : k + 1 < n) {a b : Dot} {t : List Dot} (h1 : l.drop k = a :: l.drop (k + 1)) (h2 : l.drop (k + 1) = b :: t)
    (hs : incV l = incV (l.drop k)) (hl : a.1 < b.1) : IncRel w n l (.int .i64 ((k : Int) + 1 + 1)) w1 :=
  ⟨k + 1, by simp, .inl hk, hb, by rw [hs, h1, h2, incV]; have : decide (a.1 < b.1) = true := by simpa using hl
                                   rw [this, Bool.true_and]⟩
theorem inc_no {l : List Dot} {k : Nat} {a b : Dot} {t : List Dot} (h1 : l.drop k = a :: l.drop (k + 1)) (h2 : l.drop (k + 1) = b :: t) (hs : incV l = incV (l.drop k)) (hl : b.1 ≤ a.1) : validV l = false := by
  have : decide (a.1 < b.1) = false := by simpa using hl
  unfold validV; rw [hs, h1, h2, incV, this, Bool.false_and, Bool.false_and]

set_option maxHeartbeats 1000000 in
theorem vvalid (A : Option Addr) (n c : Nat) (l : List Dot) (w : World) (h : Dots w A n c l) : Calls Tryz.prog 39 #[.slice A n c] w (Ret w (IsB (validV l))) := by
  have hn := h.big
  go_enter Tryz.func39, Tryz.ntmps39
  go_wp2
  go_loopw [3] (fun i wr => IncRel w n l i wr) (fun i _ => n + 1 - (intOf i).toNat)
  case atStart => exact ⟨0, rfl, .inr rfl, Below.refl _ _, rfl⟩
  case round =>
    obtain ⟨k, rfl, hk, hb, hs⟩ := hrel
    by_cases hlt : k + 1 < n
    · have hr := h.mono hb
      obtain ⟨b, o, x, y, rfl, hbk, -, d1, c1, c2⟩ := hr.at_ (k := k) (by omega)
      obtain ⟨b', o', u, v, e', -, -, d2, c3, c4⟩ := hr.at_ (k := k + 1) hlt
      obtain ⟨rfl, rfl⟩ : b = b' ∧ o = o' := by simpa using e'
      clear e'
      have ew : IntKind.i64.wrap (k : Int) = k := IntWalk.i64_in _ (by omega)
      have g1 : (k : Int) + 1 < n := by omega
      have g2 : (0 : Int) ≤ (k : Int) + 1 := by omega
      have g3 : ((k : Int) + 1).toNat = k + 1 := by omega
      have g4 : (k : Int) < n := by omega
      have D1 := Lib.hid d1; have D2 := Lib.hid d2; have HS := Lib.hid hs
      clear d1 d2 hs
      by_cases hl : u ≤ x
      · have hd : decide (u ≤ x) = true := by simpa using hl
        go_wp2
        go_quiet (fail)
        go_wp2
        go_ret
        exact retB (inc_no D1.out D2.out HS.out hl).symm (hb.drewN' _)
      · have hd : decide (u ≤ x) = false := by simpa using hl
        go_wp2
        go_quiet (fail)
        go_wp2
        go_roundw
        case rel => exact IncRel.next (hb.drewN' _) hlt D1.out D2.out HS.out (by show x < u; omega)
        case measure => simp [intOf]; omega
    · have e := incV_short (l := l.drop k) (by rw [List.length_drop, ← h.len]; omega)
      have HE := Lib.hid (hs.trans e)
      have C := Lib.hid (ccontains23 67 #[] _ A n c l wr (h.mono hb) enters67 (asks67 l wr))
      have HA := Lib.hid (any_not l)
      generalize (l.any fun d => !validD d) = r at *
      clear e hs
      go_wp2_with (go_at_call 66; ((with_reducible refine C.out.mono ?_); rintro e w1 ⟨_, rfl, hb1, rfl⟩))
      go_ret
      exact retB (by unfold validV; rw [HE.out, HA.out]; rfl) (hb.le hb1)

/-- The same, as the reference looks: with the replica before. -/
def okP (p : Option Int) (r : Int) : Bool := match p with | none => true | some q => decide (q < r)
def goV : Option Int → List Dot → Bool
  | _, [] => true
  | p, a :: t => validD a && okP p a.1 && goV (some a.1) t
theorem goV_cons (p : Option Int) (a : Dot) (t : List Dot) : goV p (a :: t) = (validD a && okP p a.1 && goV (some a.1) t) := by cases p <;> rfl
theorem goV_nil (p : Option Int) : goV p [] = true := by cases p <;> rfl
theorem goV_some : ∀ (t : List Dot) (a : Dot), goV (some a.1) t = (incV (a :: t) && validL t)
  | [], a => rfl
  | b :: t, a => by
    simp only [goV_cons, okP, incV, validL, List.all_cons, goV_some t b]
    cases decide (a.1 < b.1) <;> cases validD b <;> cases incV (b :: t) <;> simp
theorem goV_none (l : List Dot) : goV none l = validV l := by
  cases l with
  | nil => rfl
  | cons a t =>
    simp only [goV_cons, okP, goV_some, validV, validL, List.all_cons]
    cases validD a <;> cases incV (a :: t) <;> simp
/-- The replica in front of place k. -/
def before (l : List Dot) : Nat → Option Int
  | 0 => none
  | k + 1 => (l[k]?).map (·.1)
def GoRel (w : World) (n : Nat) (l : List Dot) (i : Value) (wr : World) : Prop :=
  ∃ k : Nat, i = .int .i64 k ∧ k ≤ n ∧ Below w.heap.size w wr ∧ validV l = goV (before l k) (l.drop k)
theorem GoRel.next {w w1 : World} {n k : Nat} {l : List Dot} (hb : Below w.heap.size w w1) (hk : k < n) {a : Dot} (h0 : l[k]? = some a) (h1 : l.drop k = a :: l.drop (k + 1)) (hs : validV l = goV (before l k) (l.drop k)) (hv : validD a = true)
    (hl : okP (before l k) a.1 = true) : GoRel w n l (.int .i64 ((k : Int) + 1)) w1 :=
  ⟨k + 1, by simp, hk, hb, by rw [hs, h1, goV_cons, hv, hl, before, h0]; rfl⟩
theorem go_no {k : Nat} {l : List Dot} {a : Dot} (h1 : l.drop k = a :: l.drop (k + 1)) (hs : validV l = goV (before l k) (l.drop k)) (hv : validD a = false ∨ okP (before l k) a.1 = false) : validV l = false := by
  rw [hs, h1, goV_cons]
  rcases hv with h | h <;> rw [h] <;> simp

theorem enters50 : Enters Tryz.prog 50 := enters_of Tryz.func50 (by kernel_rfl) rfl
theorem enters68 : Enters Tryz.prog 68 := enters_of Tryz.func68 (by kernel_rfl) rfl

set_option maxRecDepth 100000 in
set_option maxHeartbeats 2000000 in
theorem rvalidV (A : Option Addr) (n c : Nat) (l : List Dot) (w : World) (h : Dots w A n c l) : Calls Tryz.prog 24 #[.slice A n c] w (Ret w (IsB (validV l))) := by
  have hn := h.big
  go_enter Tryz.func24, Tryz.ntmps24
  go_wp2
  go_loopw [3] (fun i wr => GoRel w n l i wr) (fun i _ => n - (intOf i).toNat)
  case atStart => exact ⟨0, rfl, by omega, Below.refl _ _, by rw [before, goV_none]; rfl⟩
  case round =>
    obtain ⟨k, rfl, hk, hb, hs⟩ := hrel
    by_cases hlt : k < n
    · have hr := h.mono hb
      obtain ⟨b, o, x, y, rfl, hbk, e0, d1, c1, c2⟩ := hr.at_ (k := k) hlt
      have D0 := Lib.hid e0; have D1 := Lib.hid d1; have HS := Lib.hid hs
      clear d1 hs e0
      have cv := rvalid x y
      cases hv : validD (x, y) with
      | false =>
        rw [hv] at cv
        have HV := Lib.hid hv; clear hv
        have CV := Lib.hid cv; clear cv
        go_wp2_with fail
        refine wp_region_M mixed (by kernel_rfl) ?_
        refine MDerR.step (Ob.move Wanted.free Has.oldIs) ?_
        refine MDerR.step (Ob.move Wanted.free Has.oldIs) ?_
        refine MDerR.step (Ob.indexV Wanted.free (Has.new 0 1) (Has.new 1 0) (fun w1 => index_vec hlt)) ?_
        refine MDerR.step (Ob.loadV Wanted.free (Has.new 2 0) (fun w1 hb1 => load_dot hb1 c1 c2)) ?_
        refine MDerR.step (Ob.call1V Wanted.free enters50 (Has.new 3 0) (fun w1 _ => CV.out w1)) ?_
        refine MDerR.step (Ob.not Wanted.free (Has.new 4 0)) ?_
        refine MDerR.step (Ob.move Wanted.free (Has.new 5 0)) ?_
        refine MDerR.step (Ob.off 6 0) ?_
        refine MDerR.step (Ob.off 6 1) ?_
        refine MDerR.step (Ob.off 6 2) ?_
        refine MDerR.step (Ob.offU 9 0) ?_
        refine MDerR.step (Ob.offU 9 1) ?_
        refine MDerR.step (Ob.offU 9 2) ?_
        refine MDerR.step (Ob.offU 9 3) ?_
        refine MDerR.step (Ob.offU 9 4) ?_
        refine MDerR.step (Ob.offU 9 5) ?_
        refine MDerR.step (Ob.offU 9 6) ?_
        refine MDerR.step (Ob.offU 9 7) ?_
        refine MDerR.step (Ob.offU 9 8) ?_
        refine MDerR.step (Ob.offU 9 9) ?_
        refine MDerR.step (Ob.offU 9 10) ?_
        refine MDerR.step (Ob.offU 9 11) ?_
        refine MDerR.step (Ob.off 6 15) ?_
        refine MDerR.step (Ob.pickT Wanted.free (Has.new 6 16) (Has.cst _)) ?_
        simp only [MDerR, dstsOf, List.map, EndM, List.reverse_cons, List.reverse_nil, List.nil_append, List.cons_append]
        intro wE hE
        iterate 24 (rintro _ rfl)
        simp only [Act.put, List.setIfInBounds_toArray, List.set_cons_zero, List.set_cons_succ]
        go_wp2
        go_ret
        exact retB (go_no D1.out HS.out (.inl HV.out)).symm (hb.le hE)
      | true =>
        rw [hv] at cv
        have HV := Lib.hid hv; clear hv
        have CV := Lib.hid cv; clear cv
        cases k with
        | zero =>
          go_wp2_with fail
          refine wp_region_M mixed (by kernel_rfl) ?_
          refine MDerR.step (Ob.move Wanted.free Has.oldIs) ?_
          refine MDerR.step (Ob.move Wanted.free Has.oldIs) ?_
          refine MDerR.step (Ob.indexV Wanted.free (Has.new 0 1) (Has.new 1 0) (fun w1 => index_vec hlt)) ?_
          refine MDerR.step (Ob.loadV Wanted.free (Has.new 2 0) (fun w1 hb1 => load_dot hb1 c1 c2)) ?_
          refine MDerR.step (Ob.call1V Wanted.free enters50 (Has.new 3 0) (fun w1 _ => CV.out w1)) ?_
          refine MDerR.step (Ob.not Wanted.free (Has.new 4 0)) ?_
          refine MDerR.step (Ob.move Wanted.free (Has.new 5 0)) ?_
          refine MDerR.step (Ob.move (Wanted.on 6 0) Has.oldIs) ?_
          refine MDerR.step (Ob.binV (Wanted.on 6 1) (Has.new 7 0) (Has.cst _) (fun w1 => int_gtr false (by simp))) ?_
          refine MDerR.step (Ob.move (Wanted.on 6 2) (Has.new 8 0)) ?_
          refine MDerR.step (Ob.off 9 0) ?_
          refine MDerR.step (Ob.off 9 1) ?_
          refine MDerR.step (Ob.off 9 2) ?_
          refine MDerR.step (Ob.off 9 3) ?_
          refine MDerR.step (Ob.off 9 4) ?_
          refine MDerR.step (Ob.off 9 5) ?_
          refine MDerR.step (Ob.off 9 6) ?_
          refine MDerR.step (Ob.off 9 7) ?_
          refine MDerR.step (Ob.off 9 8) ?_
          refine MDerR.step (Ob.off 9 9) ?_
          refine MDerR.step (Ob.off 9 10) ?_
          refine MDerR.step (Ob.off 9 11) ?_
          refine MDerR.step (Ob.pickF (Wanted.on 6 15) (Has.new 9 12) (Has.cst _)) ?_
          refine MDerR.step (Ob.pickF Wanted.free (Has.new 6 16) (Has.new 22 0)) ?_
          simp only [MDerR, dstsOf, List.map, EndM, List.reverse_cons, List.reverse_nil, List.nil_append, List.cons_append]
          intro wE hE
          iterate 24 (rintro _ rfl)
          simp only [Act.put, List.setIfInBounds_toArray, List.set_cons_zero, List.set_cons_succ]
          go_wp2
          go_roundw
          case rel => exact GoRel.next (hb.le hE) hlt D0.out D1.out HS.out HV.out rfl
          case measure => simp [intOf]; omega
        | succ j =>
          obtain ⟨b', o', u, v, e', -, e1, -, c3, c4⟩ := hr.at_ (k := j) (by omega)
          obtain ⟨rfl, rfl⟩ : b = b' ∧ o = o' := by simpa using e'
          have hbf : before l (j + 1) = some u := by rw [before, e1]; rfl
          clear e' e1
          have HB := Lib.hid hbf; clear hbf
          have hgt : decide ((0 : Int) < ((j + 1 : Nat) : Int)) = true := by simp
          have HG := Lib.hid hgt; clear hgt
          cases hl : decide (x ≤ u) with
          | true =>
            have HL := Lib.hid hl; clear hl
            go_wp2_with fail
            refine wp_region_M mixed (by kernel_rfl) ?_
            refine MDerR.step (Ob.move Wanted.free Has.oldIs) ?_
            refine MDerR.step (Ob.move Wanted.free Has.oldIs) ?_
            refine MDerR.step (Ob.indexV Wanted.free (Has.new 0 1) (Has.new 1 0) (fun w1 => index_vec hlt)) ?_
            refine MDerR.step (Ob.loadV Wanted.free (Has.new 2 0) (fun w1 hb1 => load_dot hb1 c1 c2)) ?_
            refine MDerR.step (Ob.call1V Wanted.free enters50 (Has.new 3 0) (fun w1 _ => CV.out w1)) ?_
            refine MDerR.step (Ob.not Wanted.free (Has.new 4 0)) ?_
            refine MDerR.step (Ob.move Wanted.free (Has.new 5 0)) ?_
            refine MDerR.step (Ob.move (Wanted.on 6 0) Has.oldIs) ?_
            refine MDerR.step (Ob.binV (Wanted.on 6 1) (Has.new 7 0) (Has.cst _) (fun w1 => int_gtr true HG.out)) ?_
            refine MDerR.step (Ob.move (Wanted.on 6 2) (Has.new 8 0)) ?_
            refine MDerR.step (Ob.move (Wanted.on 9 0) Has.oldIs) ?_
            refine MDerR.step (Ob.move (Wanted.on 9 1) Has.oldIs) ?_
            refine MDerR.step (Ob.binV (Wanted.on 9 2) (Has.new 11 0) (Has.cst _) (fun w1 => sub_one (by omega))) ?_
            refine MDerR.step (Ob.indexV (Wanted.on 9 3) (Has.new 10 2) (Has.new 12 0) (fun w1 => index_vec (by omega))) ?_
            refine MDerR.step (Ob.fieldV (Wanted.on 9 4) (Has.new 13 0) (fun w1 => field_dot0)) ?_
            refine MDerR.step (Ob.loadV (Wanted.on 9 5) (Has.new 14 0) (fun w1 hb1 => load_int hb1 c3)) ?_
            refine MDerR.step (Ob.move (Wanted.on 9 6) Has.oldIs) ?_
            refine MDerR.step (Ob.move (Wanted.on 9 7) Has.oldIs) ?_
            refine MDerR.step (Ob.indexV (Wanted.on 9 8) (Has.new 16 1) (Has.new 17 0) (fun w1 => index_vec hlt)) ?_
            refine MDerR.step (Ob.fieldV (Wanted.on 9 9) (Has.new 18 0) (fun w1 => field_dot0)) ?_
            refine MDerR.step (Ob.loadV (Wanted.on 9 10) (Has.new 19 0) (fun w1 hb1 => load_int hb1 c1)) ?_
            refine MDerR.step (Ob.binV (Wanted.on 9 11) (Has.new 15 5) (Has.new 20 0) (fun w1 => int_geq true HL.out)) ?_
            refine MDerR.step (Ob.pickT (Wanted.on 6 15) (Has.new 9 12) (Has.new 21 0)) ?_
            refine MDerR.step (Ob.pickF Wanted.free (Has.new 6 16) (Has.new 22 0)) ?_
            simp only [MDerR, dstsOf, List.map, EndM, List.reverse_cons, List.reverse_nil, List.nil_append, List.cons_append]
            intro wE hE
            iterate 24 (rintro _ rfl)
            simp only [Act.put, List.setIfInBounds_toArray, List.set_cons_zero, List.set_cons_succ]
            go_wp2
            go_ret
            exact retB (go_no D1.out HS.out (.inr (by rw [HB.out]; have := HL.out; simp at this; simpa [okP] using this))).symm (hb.le hE)
          | false =>
            have HL := Lib.hid hl; clear hl
            go_wp2_with fail
            refine wp_region_M mixed (by kernel_rfl) ?_
            refine MDerR.step (Ob.move Wanted.free Has.oldIs) ?_
            refine MDerR.step (Ob.move Wanted.free Has.oldIs) ?_
            refine MDerR.step (Ob.indexV Wanted.free (Has.new 0 1) (Has.new 1 0) (fun w1 => index_vec hlt)) ?_
            refine MDerR.step (Ob.loadV Wanted.free (Has.new 2 0) (fun w1 hb1 => load_dot hb1 c1 c2)) ?_
            refine MDerR.step (Ob.call1V Wanted.free enters50 (Has.new 3 0) (fun w1 _ => CV.out w1)) ?_
            refine MDerR.step (Ob.not Wanted.free (Has.new 4 0)) ?_
            refine MDerR.step (Ob.move Wanted.free (Has.new 5 0)) ?_
            refine MDerR.step (Ob.move (Wanted.on 6 0) Has.oldIs) ?_
            refine MDerR.step (Ob.binV (Wanted.on 6 1) (Has.new 7 0) (Has.cst _) (fun w1 => int_gtr true HG.out)) ?_
            refine MDerR.step (Ob.move (Wanted.on 6 2) (Has.new 8 0)) ?_
            refine MDerR.step (Ob.move (Wanted.on 9 0) Has.oldIs) ?_
            refine MDerR.step (Ob.move (Wanted.on 9 1) Has.oldIs) ?_
            refine MDerR.step (Ob.binV (Wanted.on 9 2) (Has.new 11 0) (Has.cst _) (fun w1 => sub_one (by omega))) ?_
            refine MDerR.step (Ob.indexV (Wanted.on 9 3) (Has.new 10 2) (Has.new 12 0) (fun w1 => index_vec (by omega))) ?_
            refine MDerR.step (Ob.fieldV (Wanted.on 9 4) (Has.new 13 0) (fun w1 => field_dot0)) ?_
            refine MDerR.step (Ob.loadV (Wanted.on 9 5) (Has.new 14 0) (fun w1 hb1 => load_int hb1 c3)) ?_
            refine MDerR.step (Ob.move (Wanted.on 9 6) Has.oldIs) ?_
            refine MDerR.step (Ob.move (Wanted.on 9 7) Has.oldIs) ?_
            refine MDerR.step (Ob.indexV (Wanted.on 9 8) (Has.new 16 1) (Has.new 17 0) (fun w1 => index_vec hlt)) ?_
            refine MDerR.step (Ob.fieldV (Wanted.on 9 9) (Has.new 18 0) (fun w1 => field_dot0)) ?_
            refine MDerR.step (Ob.loadV (Wanted.on 9 10) (Has.new 19 0) (fun w1 hb1 => load_int hb1 c1)) ?_
            refine MDerR.step (Ob.binV (Wanted.on 9 11) (Has.new 15 5) (Has.new 20 0) (fun w1 => int_geq false HL.out)) ?_
            refine MDerR.step (Ob.pickT (Wanted.on 6 15) (Has.new 9 12) (Has.new 21 0)) ?_
            refine MDerR.step (Ob.pickF Wanted.free (Has.new 6 16) (Has.new 22 0)) ?_
            simp only [MDerR, dstsOf, List.map, EndM, List.reverse_cons, List.reverse_nil, List.nil_append, List.cons_append]
            intro wE hE
            iterate 24 (rintro _ rfl)
            simp only [Act.put, List.setIfInBounds_toArray, List.set_cons_zero, List.set_cons_succ]
            go_wp2
            go_roundw
            case rel => exact GoRel.next (hb.le hE) hlt D0.out D1.out HS.out HV.out (by rw [HB.out]; have := HL.out; simp at this; simpa [okP] using this)
            case measure => simp [intOf]; omega
    · have HS := Lib.hid hs; clear hs
      go_wp2
      go_ret
      exact retB (by rw [HS.out, List.drop_of_length_le (by rw [← h.len]; omega), goV_nil]) hb
end Go.Proofs.YtdngechnelemlaaGreat

/-
  Which contexts are valid, equal, and which dots they have: in the code and in the reference.
-/
namespace Go.Proofs.YtdngechnelemlaaGreat
open Go.RowKit

abbrev Ctx := List Dot × List Dot
def validC (c : Ctx) : Bool := validV c.1 && (isSet c.2 && validL c.2)
def eqC (a b : Ctx) : Bool := eqL a.1 b.1 && eqL a.2 b.2
def hasC (c : Ctx) (d : Dot) : Bool := hasV c.1 d || (validD d && memD d c.2)

set_option maxRecDepth 100000 in
set_option maxHeartbeats 1000000 in
theorem disset (A : Option Addr) (n c : Nat) (l : List Dot) (w : World) (h : Dots w A n c l) : Calls Tryz.prog 40 #[.slice A n c] w (Ret w (IsB (isSet l))) := by
  have hn := h.big
  go_enter Tryz.func40, Tryz.ntmps40
  go_wp2
  go_loopw [3] (fun i wr => SetRel w n l i wr) (fun i _ => n + 1 - (intOf i).toNat)
  case atStart => exact ⟨0, rfl, .inr rfl, Below.refl _ _, rfl⟩
  case round =>
    obtain ⟨k, rfl, hk, hb, hs⟩ := hrel
    by_cases hlt : k + 1 < n
    · have hr := h.mono hb
      obtain ⟨b, o, x, y, rfl, hbk, -, d1, c1, c2⟩ := hr.at_ (k := k) (by omega)
      obtain ⟨b', o', u, v, e', -, -, d2, c3, c4⟩ := hr.at_ (k := k + 1) hlt
      obtain ⟨rfl, rfl⟩ : b = b' ∧ o = o' := by simpa using e'
      clear e'
      have D1 := Lib.hid d1; have D2 := Lib.hid d2; have HS := Lib.hid hs
      clear d1 d2 hs
      have CL := Lib.hid (dcompare x y u v)
      have hi : k + 1 ≤ 9223372036854775807 := by omega
      cases hl : lessD (x, y) (u, v) with
      | true =>
        have HL := Lib.hid hl; clear hl
        have hc : decide (0 ≤ cmpD (x, y) (u, v)) = false := by rw [decide_eq_false_iff_not]; have := cmpD_lt.2 HL.out; omega
        have HC := Lib.hid hc; clear hc
        go_wp2_with fail
        refine wp_region_M mixed (by kernel_rfl) ?_
        refine MDerR.step (Ob.move Wanted.free Has.oldIs) ?_
        refine MDerR.step (Ob.move Wanted.free Has.oldIs) ?_
        refine MDerR.step (Ob.binV Wanted.free (Has.new 1 0) (Has.cst _) (fun w1 => sub_one hi)) ?_
        refine MDerR.step (Ob.indexV Wanted.free (Has.new 0 2) (Has.new 2 0) (fun w1 => index_dots (by omega))) ?_
        refine MDerR.step (Ob.loadV Wanted.free (Has.new 3 0) (fun w1 hb1 => load_dot hb1 c1 c2)) ?_
        refine MDerR.step (Ob.move Wanted.free Has.oldIs) ?_
        refine MDerR.step (Ob.move Wanted.free Has.oldIs) ?_
        refine MDerR.step (Ob.indexV Wanted.free (Has.new 5 1) (Has.new 6 0) (fun w1 => index_dots hlt)) ?_
        refine MDerR.step (Ob.loadV Wanted.free (Has.new 7 0) (fun w1 hb1 => load_dot hb1 c3 c4)) ?_
        refine MDerR.step (Ob.call2V Wanted.free enters68 (Has.new 4 4) (Has.new 8 0) (fun w1 _ => CL.out w1)) ?_
        refine MDerR.step (Ob.binV Wanted.free (Has.new 9 0) (Has.cst _) (fun w1 => int_geq false HC.out)) ?_
        simp only [MDerR, dstsOf, List.map, EndM, List.reverse_cons, List.reverse_nil, List.nil_append, List.cons_append]
        intro wE hE
        iterate 11 (rintro _ rfl)
        simp only [Act.put, List.setIfInBounds_toArray, List.set_cons_zero, List.set_cons_succ]
        go_wp2
        go_roundw
        case rel => exact SetRel.next hb hE hlt D1.out D2.out HS.out HL.out
        case measure => simp [intOf]; omega
      | false =>
        have HL := Lib.hid hl; clear hl
        have hc : decide (0 ≤ cmpD (x, y) (u, v)) = true := by
          rw [decide_eq_true_iff]
          by_cases h1 : cmpD (x, y) (u, v) < 0
          · rw [cmpD_lt, HL.out] at h1; cases h1
          · omega
        have HC := Lib.hid hc; clear hc
        go_wp2_with fail
        refine wp_region_M mixed (by kernel_rfl) ?_
        refine MDerR.step (Ob.move Wanted.free Has.oldIs) ?_
        refine MDerR.step (Ob.move Wanted.free Has.oldIs) ?_
        refine MDerR.step (Ob.binV Wanted.free (Has.new 1 0) (Has.cst _) (fun w1 => sub_one hi)) ?_
        refine MDerR.step (Ob.indexV Wanted.free (Has.new 0 2) (Has.new 2 0) (fun w1 => index_dots (by omega))) ?_
        refine MDerR.step (Ob.loadV Wanted.free (Has.new 3 0) (fun w1 hb1 => load_dot hb1 c1 c2)) ?_
        refine MDerR.step (Ob.move Wanted.free Has.oldIs) ?_
        refine MDerR.step (Ob.move Wanted.free Has.oldIs) ?_
        refine MDerR.step (Ob.indexV Wanted.free (Has.new 5 1) (Has.new 6 0) (fun w1 => index_dots hlt)) ?_
        refine MDerR.step (Ob.loadV Wanted.free (Has.new 7 0) (fun w1 hb1 => load_dot hb1 c3 c4)) ?_
        refine MDerR.step (Ob.call2V Wanted.free enters68 (Has.new 4 4) (Has.new 8 0) (fun w1 _ => CL.out w1)) ?_
        refine MDerR.step (Ob.binV Wanted.free (Has.new 9 0) (Has.cst _) (fun w1 => int_geq true HC.out)) ?_
        simp only [MDerR, dstsOf, List.map, EndM, List.reverse_cons, List.reverse_nil, List.nil_append, List.cons_append]
        intro wE hE
        iterate 11 (rintro _ rfl)
        simp only [Act.put, List.setIfInBounds_toArray, List.set_cons_zero, List.set_cons_succ]
        go_wp2
        go_ret
        exact retB (set_no D1.out D2.out HS.out HL.out).symm (hb.le hE)
    · have e := isSet_short (l := l.drop k) (by rw [List.length_drop, ← h.len]; omega)
      have HE := Lib.hid (hs.trans e)
      clear e hs
      go_wp2
      go_ret
      exact retB HE.out.symm hb

def AllRel (w : World) (n : Nat) (l : List Dot) (i : Value) (wr : World) : Prop :=
  ∃ k : Nat, i = .int .i64 k ∧ k ≤ n ∧ Below w.heap.size w wr ∧ validL l = validL (l.drop k)
set_option maxHeartbeats 1000000 in
theorem rvalidL (A : Option Addr) (n c : Nat) (l : List Dot) (w : World) (h : Dots w A n c l) : Calls Tryz.prog 26 #[.slice A n c] w (Ret w (IsB (validL l))) := by
  have hn := h.big
  go_enter Tryz.func26, Tryz.ntmps26
  go_wp2
  go_loopw [3] (fun i wr => AllRel w n l i wr) (fun i _ => n - (intOf i).toNat)
  case atStart => exact ⟨0, rfl, by omega, Below.refl _ _, rfl⟩
  case round =>
    obtain ⟨k, rfl, hk, hb, hs⟩ := hrel
    by_cases hlt : k < n
    · obtain ⟨b, o, x, y, rfl, hbk, -, d1, c1, c2⟩ := (h.mono hb).at_ (k := k) hlt
      have D1 := Lib.hid d1; have HS := Lib.hid hs
      clear d1 hs
      have cv := rvalid x y
      cases hv : validD (x, y) with
      | false =>
        rw [hv] at cv
        have HV := Lib.hid hv; clear hv
        have CV := Lib.hid cv; clear cv
        go_wp2_with (go_at_call 50; ((with_reducible refine (CV.out _).mono ?_); rintro e w1 ⟨_, rfl, hb1, rfl⟩))
        go_ret
        exact retB (by rw [HS.out, D1.out]; simp [validL, HV.out]) (hb.le hb1)
      | true =>
        rw [hv] at cv
        have HV := Lib.hid hv; clear hv
        have CV := Lib.hid cv; clear cv
        go_wp2_with (go_at_call 50; ((with_reducible refine (CV.out _).mono ?_); rintro e w1 ⟨_, rfl, hb1, rfl⟩))
        go_roundw
        case rel => exact ⟨k + 1, by simp, hlt, hb.le hb1, by rw [HS.out, D1.out]; simp [validL, HV.out]⟩
        case measure => simp [intOf]; omega
    · have HS := Lib.hid hs; clear hs
      go_wp2
      go_ret
      exact retB (by rw [HS.out, List.drop_of_length_le (by rw [← h.len]; omega)]; rfl) hb

/-- A context's two slices. -/
structure Con (w : World) (A : Option Addr) (n ca : Nat) (B : Option Addr) (m cb : Nat) (c : Ctx) : Prop where
  v : Dots w A n ca c.1
  k : Dots w B m cb c.2
theorem Con.mono {w w' : World} {A B : Option Addr} {n ca m cb : Nat} {c : Ctx} (h : Con w A n ca B m cb c) (hb : Below w.heap.size w w') : Con w' A n ca B m cb c := ⟨h.v.mono hb, h.k.mono hb⟩
/-- The box that a context by value is laid in. -/
abbrev conBox (A : Option Addr) (n ca : Nat) (B : Option Addr) (m cb : Nat) : Obj := .cells #[.slice A n ca, .slice B m cb] 25

set_option maxHeartbeats 1000000 in
theorem cvalid16 (A B : Option Addr) (n ca m cb : Nat) (c : Ctx) (w : World) (h : Con w A n ca B m cb c) :
    Calls Tryz.prog 16 #[.agg #[.slice A n ca, .slice B m cb]] w (Ret w (IsB (validC c))) := by
  have hb0 : Below w.heap.size w (w.alloc (conBox A n ca B m cb)) := (Below.refl _ _).alloc (Nat.le_refl _) _
  have h0 := h.mono hb0
  have hz : w.heap.size < (w.alloc (conBox A n ca B m cb)).heap.size := by simp
  have f1 := fun w1 h1 => vvalid A n ca c.1 w1 h1
  have f2 := fun w1 h1 => disset B m cb c.2 w1 h1
  have f3 := fun w1 h1 => cvalidL B m cb c.2 w1 h1
  unfold validC
  generalize validV c.1 = r1 at *
  generalize isSet c.2 = r2 at *
  generalize validL c.2 = r3 at *
  have F1 := Lib.hid f1; have F2 := Lib.hid f2; have F3 := Lib.hid f3; have H0 := Lib.hid h0; have HB := Lib.hid hb0
  clear f1 f2 f3 h0 h hb0
  cases r1 with
  | false =>
    go_enter Tryz.func16, Tryz.ntmps16
    go_wp2_with (first
      | (go_at_call 39; ((with_reducible refine (F1.out _ H0.out.v).mono ?_); rintro e w1 ⟨_, rfl, hb1, rfl⟩)))
    go_ret
    exact retB rfl (HB.out.le hb1)
  | true =>
    cases r2 with
    | false =>
      go_enter Tryz.func16, Tryz.ntmps16
      go_wp2_with (first
        | (go_at_call 39; ((with_reducible refine (F1.out _ H0.out.v).mono ?_); rintro e w1 ⟨_, rfl, hb1, rfl⟩; have hc1 := (bcell hb1).1))
        | (go_at_call 40; ((with_reducible refine (F2.out _ (H0.out.k.mono hb1)).mono ?_); rintro e w2 ⟨_, rfl, hb2, rfl⟩)))
      go_ret
      exact retB rfl ((HB.out.le hb1).le hb2)
    | true =>
      go_enter Tryz.func16, Tryz.ntmps16
      go_wp2_with (first
        | (go_at_call 39; ((with_reducible refine (F1.out _ H0.out.v).mono ?_); rintro e w1 ⟨_, rfl, hb1, rfl⟩; have hc1 := (bcell hb1).1))
        | (go_at_call 40; ((with_reducible refine (F2.out _ (H0.out.k.mono hb1)).mono ?_); rintro e w2 ⟨_, rfl, hb2, rfl⟩; have hc2 := (bcell (hb1.le hb2)).1))
        | (go_at_call 41; ((with_reducible refine (F3.out _ (H0.out.k.mono (hb1.le hb2))).mono ?_); rintro e w3 ⟨_, rfl, hb3, rfl⟩)))
      go_ret
      exact retB rfl (((HB.out.le hb1).le hb2).le hb3)
set_option maxHeartbeats 1000000 in
theorem cvalid6 (A B : Option Addr) (n ca m cb : Nat) (c : Ctx) (w : World) (h : Con w A n ca B m cb c) :
    Calls Tryz.prog 6 #[.agg #[.slice A n ca, .slice B m cb]] w (Ret w (IsB (validC c))) := by
  have hb0 : Below w.heap.size w (w.alloc (conBox A n ca B m cb)) := (Below.refl _ _).alloc (Nat.le_refl _) _
  have h0 := h.mono hb0
  have hz : w.heap.size < (w.alloc (conBox A n ca B m cb)).heap.size := by simp
  have f1 := fun w1 h1 => rvalidV A n ca c.1 w1 h1
  have f2 := fun w1 h1 => risset B m cb c.2 w1 h1
  have f3 := fun w1 h1 => rvalidL B m cb c.2 w1 h1
  unfold validC
  generalize validV c.1 = r1 at *
  generalize isSet c.2 = r2 at *
  generalize validL c.2 = r3 at *
  have F1 := Lib.hid f1; have F2 := Lib.hid f2; have F3 := Lib.hid f3; have H0 := Lib.hid h0; have HB := Lib.hid hb0
  clear f1 f2 f3 h0 h hb0
  cases r1 with
  | false =>
    go_enter Tryz.func6, Tryz.ntmps6
    go_wp2_with (first
      | (go_at_call 24; ((with_reducible refine (F1.out _ H0.out.v).mono ?_); rintro e w1 ⟨_, rfl, hb1, rfl⟩)))
    go_ret
    exact retB rfl (HB.out.le hb1)
  | true =>
    cases r2 with
    | false =>
      go_enter Tryz.func6, Tryz.ntmps6
      go_wp2_with (first
        | (go_at_call 24; ((with_reducible refine (F1.out _ H0.out.v).mono ?_); rintro e w1 ⟨_, rfl, hb1, rfl⟩; have hc1 := (bcell hb1).1))
        | (go_at_call 25; ((with_reducible refine (F2.out _ (H0.out.k.mono hb1)).mono ?_); rintro e w2 ⟨_, rfl, hb2, rfl⟩)))
      go_ret
      exact retB rfl ((HB.out.le hb1).le hb2)
    | true =>
      go_enter Tryz.func6, Tryz.ntmps6
      go_wp2_with (first
        | (go_at_call 24; ((with_reducible refine (F1.out _ H0.out.v).mono ?_); rintro e w1 ⟨_, rfl, hb1, rfl⟩; have hc1 := (bcell hb1).1))
        | (go_at_call 25; ((with_reducible refine (F2.out _ (H0.out.k.mono hb1)).mono ?_); rintro e w2 ⟨_, rfl, hb2, rfl⟩; have hc2 := (bcell (hb1.le hb2)).1))
        | (go_at_call 26; ((with_reducible refine (F3.out _ (H0.out.k.mono (hb1.le hb2))).mono ?_); rintro e w3 ⟨_, rfl, hb3, rfl⟩)))
      go_ret
      exact retB rfl (((HB.out.le hb1).le hb2).le hb3)
end Go.Proofs.YtdngechnelemlaaGreat

/-
  Which dots a context has, which contexts are equal: in the code and in the reference; the statements' test of size.
-/
namespace Go.Proofs.YtdngechnelemlaaGreat
open Go.RowKit

set_option maxHeartbeats 1000000 in
theorem chas (x y : Int) (A B : Option Addr) (n ca m cb : Nat) (c : Ctx) (w : World) (h : Con w A n ca B m cb c) :
    Calls Tryz.prog 17 #[.agg #[.slice A n ca, .slice B m cb], .agg #[.int .i64 x, .int .i64 y]] w (Ret w (IsB (hasC c (x, y)))) := by
  have hb0 : Below w.heap.size w ((w.alloc (conBox A n ca B m cb)).alloc (.cells #[.int .i64 x, .int .i64 y] 38)) := by go_grown
  have h0 := h.mono hb0
  have hz : w.heap.size + 1 < ((w.alloc (conBox A n ca B m cb)).alloc (.cells #[.int .i64 x, .int .i64 y] 38)).heap.size := by simp
  have f1 := fun w1 h1 => hasv42 x y A n ca c.1 w1 h1
  have f2 := fun w1 => dvalid x y w1
  have f3 := fun w1 h1 => dhas x y B m cb c.2 w1 h1
  unfold hasC
  generalize hasV c.1 (x, y) = r1 at *
  generalize validD (x, y) = r2 at *
  generalize memD (x, y) c.2 = r3 at *
  have F1 := Lib.hid f1; have F2 := Lib.hid f2; have F3 := Lib.hid f3; have H0 := Lib.hid h0; have HB := Lib.hid hb0
  clear f1 f2 f3 h0 h hb0
  cases r1 with
  | true =>
    go_enter Tryz.func17, Tryz.ntmps17
    go_wp2_with (first
      | (go_at_call 42; ((with_reducible refine (F1.out _ H0.out.v).mono ?_); rintro e w1 ⟨_, rfl, hb1, rfl⟩)))
    go_ret
    exact retB rfl (HB.out.le hb1)
  | false =>
    cases r2 with
    | false =>
      go_enter Tryz.func17, Tryz.ntmps17
      go_wp2_with (first
        | (go_at_call 42; ((with_reducible refine (F1.out _ H0.out.v).mono ?_); rintro e w1 ⟨_, rfl, hb1, rfl⟩; have hc1 := (bcell hb1).1))
        | (go_at_call 43; ((with_reducible refine (F2.out _).mono ?_); rintro e w2 ⟨_, rfl, hb2, rfl⟩)))
      go_ret
      exact retB rfl ((HB.out.le hb1).le hb2)
    | true =>
      go_enter Tryz.func17, Tryz.ntmps17
      go_wp2_with (first
        | (go_at_call 42; ((with_reducible refine (F1.out _ H0.out.v).mono ?_); rintro e w1 ⟨_, rfl, hb1, rfl⟩; have hc1 := (bcell hb1).1))
        | (go_at_call 43; ((with_reducible refine (F2.out _).mono ?_); rintro e w2 ⟨_, rfl, hb2, rfl⟩; have hc2 := (bcell (hb1.le hb2)).1))
        | (go_at_call 44; ((with_reducible refine (F3.out _ (H0.out.k.mono (hb1.le hb2))).mono ?_); rintro e w3 ⟨_, rfl, hb3, rfl⟩)))
      go_ret
      exact retB rfl (((HB.out.le hb1).le hb2).le hb3)

theorem hasC_ref (c : Ctx) (d : Dot) : hasC c d = (validD d && (hasV c.1 d || memD d c.2)) := by
  unfold hasC hasV; cases validD d <;> simp
set_option maxHeartbeats 1000000 in
theorem rchas (x y : Int) (A B : Option Addr) (n ca m cb : Nat) (c : Ctx) (w : World) (h : Con w A n ca B m cb c) :
    Calls Tryz.prog 33 #[.agg #[.slice A n ca, .slice B m cb], .agg #[.int .i64 x, .int .i64 y]] w (Ret w (IsB (hasC c (x, y)))) := by
  have hb0 : Below w.heap.size w ((w.alloc (conBox A n ca B m cb)).alloc (.cells #[.int .i64 x, .int .i64 y] 38)) := by go_grown
  have h0 := h.mono hb0
  have hz : w.heap.size + 1 < ((w.alloc (conBox A n ca B m cb)).alloc (.cells #[.int .i64 x, .int .i64 y] 38)).heap.size := by simp
  have f1 := fun w1 h1 => hasv56 x y A n ca c.1 w1 h1
  have f2 := fun w1 => rvalid x y w1
  have f3 := fun w1 h1 => rhas x y B m cb c.2 w1 h1
  rw [hasC_ref]
  generalize hasV c.1 (x, y) = r1 at *
  generalize validD (x, y) = r2 at *
  generalize memD (x, y) c.2 = r3 at *
  have F1 := Lib.hid f1; have F2 := Lib.hid f2; have F3 := Lib.hid f3; have H0 := Lib.hid h0; have HB := Lib.hid hb0
  clear f1 f2 f3 h0 h hb0
  cases r2 with
  | false =>
    go_enter Tryz.func33, Tryz.ntmps33
    go_wp2_with (first
      | (go_at_call 50; ((with_reducible refine (F2.out _).mono ?_); rintro e w1 ⟨_, rfl, hb1, rfl⟩)))
    go_ret
    exact retB rfl (HB.out.le hb1)
  | true =>
    cases r1 with
    | true =>
      go_enter Tryz.func33, Tryz.ntmps33
      go_wp2_with (first
        | (go_at_call 50; ((with_reducible refine (F2.out _).mono ?_); rintro e w1 ⟨_, rfl, hb1, rfl⟩; have hc1 := (bcell hb1).1))
        | (go_at_call 56; ((with_reducible refine (F1.out _ (H0.out.v.mono hb1)).mono ?_); rintro e w2 ⟨_, rfl, hb2, rfl⟩)))
      go_ret
      exact retB rfl ((HB.out.le hb1).le hb2)
    | false =>
      go_enter Tryz.func33, Tryz.ntmps33
      go_wp2_with (first
        | (go_at_call 50; ((with_reducible refine (F2.out _).mono ?_); rintro e w1 ⟨_, rfl, hb1, rfl⟩; have hc1 := (bcell hb1).1))
        | (go_at_call 56; ((with_reducible refine (F1.out _ (H0.out.v.mono hb1)).mono ?_); rintro e w2 ⟨_, rfl, hb2, rfl⟩; have hc2 := (bcell (hb1.le hb2)).1))
        | (go_at_call 60; ((with_reducible refine (F3.out _ (H0.out.k.mono (hb1.le hb2))).mono ?_); rintro e w3 ⟨_, rfl, hb3, rfl⟩)))
      go_ret
      exact retB rfl (((HB.out.le hb1).le hb2).le hb3)

theorem light_ (A B : Option Addr) (n ca m cb : Nat) (c : Ctx) (w : World) (h : Con w A n ca B m cb c) :
    Calls Tryz.prog 4 #[.agg #[.slice A n ca, .slice B m cb]] w (Ret w (IsB (decide (c.1.length ≤ 40 ∧ c.2.length ≤ 40)))) := by
  have hn := h.v.big; have hm := h.k.big
  rw [← h.v.len, ← h.k.len]
  clear h
  by_cases h1 : n ≤ 40
  · go_enter Tryz.func4, Tryz.ntmps4
    go_wp2
    go_ret
    exact retB (by rw [Bool.eq_iff_iff]; simp; try omega) (by go_grown)
  · go_enter Tryz.func4, Tryz.ntmps4
    go_wp2
    go_ret
    exact retB (by simp) (by go_grown)

set_option maxHeartbeats 1000000 in
theorem ceq54 (A B C D : Option Addr) (n ca m cb n' ca' m' cb' : Nat) (c d : Ctx) (w : World) (h : Con w A n ca B m cb c) (k : Con w C n' ca' D m' cb' d) :
    Calls Tryz.prog 54 #[.agg #[.slice A n ca, .slice B m cb], .agg #[.slice C n' ca', .slice D m' cb']] w (Ret w (IsB (eqC c d))) := by
  have hb0 : Below w.heap.size w ((w.alloc (conBox A n ca B m cb)).alloc (conBox C n' ca' D m' cb')) := by go_grown
  have h0 := h.mono hb0; have k0 := k.mono hb0
  have hz : w.heap.size + 1 < ((w.alloc (conBox A n ca B m cb)).alloc (conBox C n' ca' D m' cb')).heap.size := by simp
  have f1 := fun w1 h1 h2 => same78 A C n n' ca ca' c.1 d.1 w1 h1 h2
  have f2 := fun w1 h1 h2 => same79 B D m m' cb cb' c.2 d.2 w1 h1 h2
  unfold eqC
  generalize eqL c.1 d.1 = r1 at *
  generalize eqL c.2 d.2 = r2 at *
  have F1 := Lib.hid f1; have F2 := Lib.hid f2; have H0 := Lib.hid h0; have K0 := Lib.hid k0; have HB := Lib.hid hb0
  clear f1 f2 h0 h k k0 hb0
  cases r1 with
  | false =>
    go_enter Tryz.func54, Tryz.ntmps54
    go_wp2_with (first
      | (go_at_call 78; ((with_reducible refine (F1.out _ H0.out.v K0.out.v).mono ?_); rintro e w1 ⟨_, rfl, hb1, rfl⟩)))
    go_ret
    exact retB rfl (HB.out.le hb1)
  | true =>
    go_enter Tryz.func54, Tryz.ntmps54
    go_wp2_with (first
      | (go_at_call 78; ((with_reducible refine (F1.out _ H0.out.v K0.out.v).mono ?_); rintro e w1 ⟨_, rfl, hb1, rfl⟩; have hc1 := (bcell hb1).1))
      | (go_at_call 79; ((with_reducible refine (F2.out _ (H0.out.k.mono hb1) (K0.out.k.mono hb1)).mono ?_); rintro e w2 ⟨_, rfl, hb2, rfl⟩)))
    go_ret
    exact retB rfl ((HB.out.le hb1).le hb2)
set_option maxHeartbeats 1000000 in
theorem rceq (A B C D : Option Addr) (n ca m cb n' ca' m' cb' : Nat) (c d : Ctx) (w : World) (h : Con w A n ca B m cb c) (k : Con w C n' ca' D m' cb' d) :
    Calls Tryz.prog 12 #[.agg #[.slice A n ca, .slice B m cb], .agg #[.slice C n' ca', .slice D m' cb']] w (Ret w (IsB (eqC c d))) := by
  have hb0 : Below w.heap.size w ((w.alloc (conBox A n ca B m cb)).alloc (conBox C n' ca' D m' cb')) := by go_grown
  have h0 := h.mono hb0; have k0 := k.mono hb0
  have hz : w.heap.size + 1 < ((w.alloc (conBox A n ca B m cb)).alloc (conBox C n' ca' D m' cb')).heap.size := by simp
  have f1 := fun w1 h1 h2 => same20 A C n n' ca ca' c.1 d.1 w1 h1 h2
  have f2 := fun w1 h1 h2 => same20 B D m m' cb cb' c.2 d.2 w1 h1 h2
  unfold eqC
  generalize eqL c.1 d.1 = r1 at *
  generalize eqL c.2 d.2 = r2 at *
  have F1 := Lib.hid f1; have F2 := Lib.hid f2; have H0 := Lib.hid h0; have K0 := Lib.hid k0; have HB := Lib.hid hb0
  clear f1 f2 h0 h k k0 hb0
  cases r1 with
  | false =>
    go_enter Tryz.func12, Tryz.ntmps12
    go_wp2_with fail
    refine (F1.out _ H0.out.v K0.out.v).mono ?_
    rintro e w1 ⟨_, rfl, hb1, rfl⟩
    go_wp2_with fail
    go_ret
    exact retB rfl (HB.out.le hb1)
  | true =>
    go_enter Tryz.func12, Tryz.ntmps12
    go_wp2_with fail
    refine (F1.out _ H0.out.v K0.out.v).mono ?_
    rintro e w1 ⟨_, rfl, hb1, rfl⟩
    have hc1 := (bcell hb1).1
    go_wp2_with fail
    refine (F2.out _ (H0.out.k.mono hb1) (K0.out.k.mono hb1)).mono ?_
    rintro e w2 ⟨_, rfl, hb2, rfl⟩
    go_wp2_with fail
    go_ret
    exact retB rfl ((HB.out.le hb1).le hb2)
end Go.Proofs.YtdngechnelemlaaGreat

/-
  Which contexts are compact: in the code and in the reference.
-/
namespace Go.Proofs.YtdngechnelemlaaGreat
open Go.RowKit

def nearD (v : List Dot) (d : Dot) : Bool := decide (d.2 ≤ getV v d.1 + 1)
def compC (c : Ctx) : Bool := validC c && !c.2.any (nearD c.1)

theorem getV_bd : ∀ (l : List Dot) (r : Int), validL l = true → 0 ≤ getV l r ∧ getV l r ≤ 4294967295
  | [], _, _ => ⟨by simp [getV], by simp [getV]⟩
  | a :: t, r, h => by
    simp only [validL, List.all_cons, Bool.and_eq_true] at h
    have h1 := validD_iff.1 h.1
    simp only [getV]
    split
    · omega
    · exact getV_bd t r h.2

set_option maxRecDepth 100000 in
theorem asksNear (A : Option Addr) (n ca : Nat) (v l : List Dot) (b : Nat) (w : World) (hv : validL v = true) (h : Dots w A n ca v) (hc : w.cell? ⟨b, 0, none⟩ = some (.slice A n ca)) :
    Asks w 36 #[.pointer (some ⟨b, 0, none⟩)] l (nearD v) := by
  intro w' hw x y _
  show Calls Tryz.prog 36 #[.agg #[.int .i64 x, .int .i64 y], .pointer (some ⟨b, 0, none⟩)] w' (Ret w' (IsB (nearD v (x, y))))
  have hb0 : Below w'.heap.size w' (w'.alloc (.cells #[.int .i64 x, .int .i64 y] 38)) := by go_grown
  have k1 : (w'.alloc (.cells #[.int .i64 x, .int .i64 y] 38)).cell? ⟨w'.heap.size, 0, none⟩ = some (.int .i64 x) := by simp [go_sem]
  have k2 : (w'.alloc (.cells #[.int .i64 x, .int .i64 y] 38)).cell? ⟨w'.heap.size, 1, none⟩ = some (.int .i64 y) := by simp [go_sem]
  have k3 : (w'.alloc (.cells #[.int .i64 x, .int .i64 y] 38)).cell? ⟨b, 0, none⟩ = some (.slice A n ca) := cellKeep hb0 (cellKeep hw hc)
  have h0 := (h.mono hw).mono hb0
  have cg := fun w1 h1 => vget A n ca v x w1 h1
  have hbd := getV_bd v x hv
  unfold nearD
  generalize getV v (x, y).1 = q at *
  have ew : IntKind.i64.wrap (q + 1) = q + 1 := IntWalk.i64_in _ (by omega)
  have CG := Lib.hid cg; have H0 := Lib.hid h0; have EW := Lib.hid ew; have HB := Lib.hid hb0; have K1 := Lib.hid k1; have K2 := Lib.hid k2; have K3 := Lib.hid k3
  clear cg h0 h hw hc ew hbd hv hb0 k1 k2 k3
  go_enter Tryz.func36, Tryz.ntmps36
  go_wp2_with fail
  refine wp_region_M mixed (by kernel_rfl) ?_
  refine MDerR.step (Ob.fieldV Wanted.free Has.oldIs (fun w1 => field_dot1)) ?_
  refine MDerR.step (Ob.loadV Wanted.free (Has.new 0 0) (fun w1 hb1 => load_int hb1 K2.out)) ?_
  refine MDerR.step (Ob.fieldV Wanted.free Has.oldIs (fun w1 => field_con0)) ?_
  refine MDerR.step (Ob.loadV Wanted.free (Has.new 2 0) (fun w1 hb1 => load_vec hb1 K3.out)) ?_
  refine MDerR.step (Ob.fieldV Wanted.free Has.oldIs (fun w1 => field_dot0)) ?_
  refine MDerR.step (Ob.loadV Wanted.free (Has.new 4 0) (fun w1 hb1 => load_int hb1 K1.out)) ?_
  refine MDerR.step (Ob.call2V Wanted.free entersG42 (Has.new 3 2) (Has.new 5 0) (fun w1 hb1 => CG.out w1 (H0.out.mono hb1))) ?_
  refine MDerR.step (Ob.binV Wanted.free (Has.new 6 0) (Has.cst _) (fun w1 => int_add _ EW.out)) ?_
  refine MDerR.step (Ob.binV Wanted.free (Has.new 1 6) (Has.new 7 0) (fun w1 => int_leq _ rfl)) ?_
  refine MDerR.step (Ob.assign Wanted.free (Has.new 8 0)) ?_
  simp only [MDerR, dstsOf, List.map, EndM, List.reverse_cons, List.reverse_nil, List.nil_append, List.cons_append]
  intro wE hE
  iterate 10 (rintro _ rfl)
  simp only [Act.put, List.setIfInBounds_toArray, List.set_cons_zero, List.set_cons_succ]
  go_wp2
  go_ret
  exact retB rfl (HB.out.le hE)

set_option maxHeartbeats 1000000 in
theorem ccompact (A B : Option Addr) (n ca m cb : Nat) (c : Ctx) (w : World) (h : Con w A n ca B m cb c) :
    Calls Tryz.prog 15 #[.agg #[.slice A n ca, .slice B m cb]] w (Ret w (IsB (compC c))) := by
  have hb0 : Below w.heap.size w (w.alloc (conBox A n ca B m cb)) := (Below.refl _ _).alloc (Nat.le_refl _) _
  have h0 := h.mono hb0
  have hz : w.heap.size < (w.alloc (conBox A n ca B m cb)).heap.size := by simp
  have hc0 : (w.alloc (conBox A n ca B m cb)).cell? ⟨w.heap.size, 0, none⟩ = some (.slice A n ca) := by simp [go_sem]
  have f1 := fun w1 h1 => cvalid16 A B n ca m cb c w1 h1
  cases hv : validC c with
  | false =>
    rw [hv] at f1
    have e : compC c = false := by unfold compC; rw [hv]; rfl
    rw [e]
    have F1 := Lib.hid f1; have H0 := Lib.hid h0; have HB := Lib.hid hb0
    clear f1 h0 h hb0 hv e hc0
    go_enter Tryz.func15, Tryz.ntmps15
    go_wp2_with (first
      | (go_at_call 16; ((with_reducible refine (F1.out _ H0.out).mono ?_); rintro e w1 ⟨_, rfl, hb1, rfl⟩)))
    go_ret
    exact retB rfl (HB.out.le hb1)
  | true =>
    rw [hv] at f1
    have hvl : validL c.1 = true := by unfold validC validV at hv; simp at hv; exact hv.1.2
    have f2 := fun w1 (hb1 : Below (w.alloc (conBox A n ca B m cb)).heap.size (w.alloc (conBox A n ca B m cb)) w1) => ccontains22 36 #[.pointer (some ⟨w.heap.size, 0, none⟩)] (nearD c.1) B m cb c.2 w1 (h0.k.mono hb1) enters36 (asksNear A n ca c.1 c.2 w.heap.size w1 hvl (h0.v.mono hb1) (cellKeep hb1 hc0))
    have e : compC c = !c.2.any (nearD c.1) := by unfold compC; rw [hv]; rfl
    rw [e]
    generalize c.2.any (nearD c.1) = r at *
    have F1 := Lib.hid f1; have F2 := Lib.hid f2; have H0 := Lib.hid h0; have HB := Lib.hid hb0
    clear f1 f2 h0 h hb0 hv e hc0 hvl
    go_enter Tryz.func15, Tryz.ntmps15
    go_wp2_with (first
      | (go_at_call 16; ((with_reducible refine (F1.out _ H0.out).mono ?_); rintro e w1 ⟨_, rfl, hb1, rfl⟩; have hc1 := (bcell hb1).1))
      | (go_at_call 38; ((with_reducible refine (F2.out _ hb1).mono ?_); rintro e w2 ⟨_, rfl, hb2, rfl⟩)))
    go_ret
    exact retB rfl ((HB.out.le hb1).le hb2)

/-- The reference's loop. -/
def CompRel (w : World) (n : Nat) (c : Ctx) (i : Value) (wr : World) : Prop :=
  ∃ k : Nat, i = .int .i64 k ∧ k ≤ n ∧ Below w.heap.size w wr ∧ (validC c = true → (c.2.take k).any (nearD c.1) = false)
theorem validC_mem {c : Ctx} {d : Dot} (h : validC c = true) (hd : d ∈ c.2) : validD d = true := by
  unfold validC at h; simp at h
  have := h.2.2; unfold validL at this; rw [List.all_eq_true] at this; exact this d hd
theorem near_of_has {c : Ctx} {d : Dot} (h : hasV c.1 d = true) : nearD c.1 d = true := by
  unfold hasV at h; unfold nearD; simp at h; simp; omega
theorem comp_no {c : Ctx} {d : Dot} (hd : d ∈ c.2) (h : validC c = true → nearD c.1 d = true) : compC c = false := by
  unfold compC
  cases hv : validC c with
  | false => rfl
  | true =>
    have : c.2.any (nearD c.1) = true := List.any_eq_true.2 ⟨d, hd, h hv⟩
    rw [this]; rfl
theorem validC_wrap {c : Ctx} (h : validC c = true) (r : Int) : IntKind.i64.wrap (getV c.1 r + 1) = getV c.1 r + 1 := by
  have hv : validL c.1 = true := by unfold validC validV at h; simp at h; exact h.1.2
  have := getV_bd c.1 r hv
  exact IntWalk.i64_in _ (by omega)
theorem near_no {c : Ctx} {d : Dot} (h : validC c = true) (hd : d ∈ c.2) (h1 : hasV c.1 d = false) (h2 : (d.2 == IntKind.i64.wrap (getV c.1 d.1 + 1)) = false) : nearD c.1 d = false := by
  rw [validC_wrap h] at h2
  have h3 := validC_mem h hd
  unfold hasV at h1; rw [h3] at h1; simp at h1 h2
  unfold nearD; simp; omega

theorem entersHV : Enters Tryz.prog 56 := enters_of Tryz.func56 (by kernel_rfl) rfl

set_option maxRecDepth 100000 in
set_option maxHeartbeats 2000000 in
theorem rccompact (A B : Option Addr) (n ca m cb : Nat) (c : Ctx) (w : World) (h : Con w A n ca B m cb c) :
    Calls Tryz.prog 55 #[.agg #[.slice A n ca, .slice B m cb]] w (Ret w (IsB (compC c))) := by
  have hm := h.k.big
  have hb0 : Below w.heap.size w (w.alloc (conBox A n ca B m cb)) := (Below.refl _ _).alloc (Nat.le_refl _) _
  have h0 := h.mono hb0
  have hc0 : (w.alloc (conBox A n ca B m cb)).cell? ⟨w.heap.size, 0, none⟩ = some (.slice A n ca) := by simp [go_sem]
  have hc1 : (w.alloc (conBox A n ca B m cb)).cell? ⟨w.heap.size, 1, none⟩ = some (.slice B m cb) := by simp [go_sem]
  go_enter Tryz.func55, Tryz.ntmps55
  go_wp2
  go_loopw [3] (fun i wr => CompRel (w.alloc (conBox A n ca B m cb)) m c i wr) (fun i _ => m - (intOf i).toNat)
  case atStart => exact ⟨0, rfl, by omega, Below.refl _ _, fun _ => rfl⟩
  case round =>
    obtain ⟨k, rfl, hk, hb, hs⟩ := hrel
    have v0 := cellKeep hb hc0
    have v1 := cellKeep hb hc1
    have hzr : w.heap.size < wr.heap.size := World.block_lt_of_cell? wr _ v0
    by_cases hlt : k < m
    · obtain ⟨b, o, x, y, rfl, hbk, e0, d1, c1, c2⟩ := (h0.k.mono hb).at_ (k := k) hlt
      have hmem := List.mem_of_getElem? e0
      have E0 := Lib.hid e0; have HS := Lib.hid hs; have HM := Lib.hid hmem
      clear d1 hs e0 hmem hc0 hc1
      have b1 : Below wr.heap.size wr (wr.alloc (.cells #[.int .i64 x, .int .i64 y] 38)) := by go_grown
      have k1 : (wr.alloc (.cells #[.int .i64 x, .int .i64 y] 38)).cell? ⟨wr.heap.size, 0, none⟩ = some (.int .i64 x) := by simp [go_sem]
      have k2 : (wr.alloc (.cells #[.int .i64 x, .int .i64 y] 38)).cell? ⟨wr.heap.size, 1, none⟩ = some (.int .i64 y) := by simp [go_sem]
      have k3 : (wr.alloc (.cells #[.int .i64 x, .int .i64 y] 38)).cell? ⟨w.heap.size, 0, none⟩ = some (.slice A n ca) := cellKeep b1 v0
      have K1 := Lib.hid k1; have K2 := Lib.hid k2; have K3 := Lib.hid k3
      clear k1 k2 k3
      have f1 := fun w1 h1 => hasv56 x y A n ca c.1 w1 h1
      have f2 := fun w1 h1 => rget A n ca c.1 x w1 h1
      cases hh : hasV c.1 (x, y) with
      | true =>
        rw [hh] at f1
        have F1 := Lib.hid f1; have HH := Lib.hid hh; clear f1 f2 hh
        go_wp2_with fail
        refine wp_region_M mixed (by kernel_rfl) ?_
        refine MDerR.step (Ob.fieldV Wanted.free Has.oldIs (fun w1 => field_con0)) ?_
        refine MDerR.step (Ob.loadV Wanted.free (Has.new 0 0) (fun w1 hb1 => load_vec hb1 K3.out)) ?_
        refine MDerR.step (Ob.loadV Wanted.free Has.oldIs (fun w1 hb1 => load_dot hb1 K1.out K2.out)) ?_
        refine MDerR.step (Ob.call2V Wanted.free entersHV (Has.new 1 1) (Has.new 2 0) (fun w1 hb1 => F1.out w1 (((h0.v.mono hb).mono b1).mono hb1))) ?_
        refine MDerR.step (Ob.move Wanted.free (Has.new 3 0)) ?_
        refine MDerR.step (Ob.off 4 0) ?_
        refine MDerR.step (Ob.off 4 1) ?_
        refine MDerR.step (Ob.off 4 2) ?_
        refine MDerR.step (Ob.off 4 3) ?_
        refine MDerR.step (Ob.off 4 4) ?_
        refine MDerR.step (Ob.off 4 5) ?_
        refine MDerR.step (Ob.off 4 6) ?_
        refine MDerR.step (Ob.off 4 7) ?_
        refine MDerR.step (Ob.off 4 8) ?_
        refine MDerR.step (Ob.pickT Wanted.free (Has.new 4 9) (Has.cst _)) ?_
        simp only [MDerR, dstsOf, List.map, EndM, List.reverse_cons, List.reverse_nil, List.nil_append, List.cons_append]
        intro wE hE
        iterate 15 (rintro _ rfl)
        simp only [Act.put, List.setIfInBounds_toArray, List.set_cons_zero, List.set_cons_succ]
        go_wp2
        go_ret
        exact retB (comp_no HM.out fun _ => near_of_has HH.out).symm (((hb0.le hb).le b1).le hE)
      | false =>
        rw [hh] at f1
        cases hq : (y == IntKind.i64.wrap (getV c.1 x + 1)) with
        | true =>
          have F1 := Lib.hid f1; have F2 := Lib.hid f2; have HH := Lib.hid hh; have HQ := Lib.hid hq; clear f1 f2 hh hq
          go_wp2_with fail
          refine wp_region_M mixed (by kernel_rfl) ?_
          refine MDerR.step (Ob.fieldV Wanted.free Has.oldIs (fun w1 => field_con0)) ?_
          refine MDerR.step (Ob.loadV Wanted.free (Has.new 0 0) (fun w1 hb1 => load_vec hb1 K3.out)) ?_
          refine MDerR.step (Ob.loadV Wanted.free Has.oldIs (fun w1 hb1 => load_dot hb1 K1.out K2.out)) ?_
          refine MDerR.step (Ob.call2V Wanted.free entersHV (Has.new 1 1) (Has.new 2 0) (fun w1 hb1 => F1.out w1 (((h0.v.mono hb).mono b1).mono hb1))) ?_
          refine MDerR.step (Ob.move Wanted.free (Has.new 3 0)) ?_
          refine MDerR.step (Ob.fieldV (Wanted.on 4 0) Has.oldIs (fun w1 => field_dot1)) ?_
          refine MDerR.step (Ob.loadV (Wanted.on 4 1) (Has.new 5 0) (fun w1 hb1 => load_int hb1 K2.out)) ?_
          refine MDerR.step (Ob.fieldV (Wanted.on 4 2) Has.oldIs (fun w1 => field_con0)) ?_
          refine MDerR.step (Ob.loadV (Wanted.on 4 3) (Has.new 7 0) (fun w1 hb1 => load_vec hb1 K3.out)) ?_
          refine MDerR.step (Ob.fieldV (Wanted.on 4 4) Has.oldIs (fun w1 => field_dot0)) ?_
          refine MDerR.step (Ob.loadV (Wanted.on 4 5) (Has.new 9 0) (fun w1 hb1 => load_int hb1 K1.out)) ?_
          refine MDerR.step (Ob.call2V (Wanted.on 4 6) entersG56 (Has.new 8 2) (Has.new 10 0) (fun w1 hb1 => F2.out w1 (((h0.v.mono hb).mono b1).mono hb1))) ?_
          refine MDerR.step (Ob.binV (Wanted.on 4 7) (Has.new 11 0) (Has.cst _) (fun w1 => int_add _ rfl)) ?_
          refine MDerR.step (Ob.binV (Wanted.on 4 8) (Has.new 6 6) (Has.new 12 0) (fun w1 => int_eql true HQ.out)) ?_
          refine MDerR.step (Ob.pickF Wanted.free (Has.new 4 9) (Has.new 13 0)) ?_
          simp only [MDerR, dstsOf, List.map, EndM, List.reverse_cons, List.reverse_nil, List.nil_append, List.cons_append]
          intro wE hE
          iterate 15 (rintro _ rfl)
          simp only [Act.put, List.setIfInBounds_toArray, List.set_cons_zero, List.set_cons_succ]
          go_wp2
          go_ret
          exact retB (comp_no HM.out fun hv => by have := HQ.out; rw [validC_wrap hv] at this; unfold nearD; simp at this ⊢; omega).symm (((hb0.le hb).le b1).le hE)
        | false =>
          have F1 := Lib.hid f1; have F2 := Lib.hid f2; have HH := Lib.hid hh; have HQ := Lib.hid hq; clear f1 f2 hh hq
          go_wp2_with fail
          refine wp_region_M mixed (by kernel_rfl) ?_
          refine MDerR.step (Ob.fieldV Wanted.free Has.oldIs (fun w1 => field_con0)) ?_
          refine MDerR.step (Ob.loadV Wanted.free (Has.new 0 0) (fun w1 hb1 => load_vec hb1 K3.out)) ?_
          refine MDerR.step (Ob.loadV Wanted.free Has.oldIs (fun w1 hb1 => load_dot hb1 K1.out K2.out)) ?_
          refine MDerR.step (Ob.call2V Wanted.free entersHV (Has.new 1 1) (Has.new 2 0) (fun w1 hb1 => F1.out w1 (((h0.v.mono hb).mono b1).mono hb1))) ?_
          refine MDerR.step (Ob.move Wanted.free (Has.new 3 0)) ?_
          refine MDerR.step (Ob.fieldV (Wanted.on 4 0) Has.oldIs (fun w1 => field_dot1)) ?_
          refine MDerR.step (Ob.loadV (Wanted.on 4 1) (Has.new 5 0) (fun w1 hb1 => load_int hb1 K2.out)) ?_
          refine MDerR.step (Ob.fieldV (Wanted.on 4 2) Has.oldIs (fun w1 => field_con0)) ?_
          refine MDerR.step (Ob.loadV (Wanted.on 4 3) (Has.new 7 0) (fun w1 hb1 => load_vec hb1 K3.out)) ?_
          refine MDerR.step (Ob.fieldV (Wanted.on 4 4) Has.oldIs (fun w1 => field_dot0)) ?_
          refine MDerR.step (Ob.loadV (Wanted.on 4 5) (Has.new 9 0) (fun w1 hb1 => load_int hb1 K1.out)) ?_
          refine MDerR.step (Ob.call2V (Wanted.on 4 6) entersG56 (Has.new 8 2) (Has.new 10 0) (fun w1 hb1 => F2.out w1 (((h0.v.mono hb).mono b1).mono hb1))) ?_
          refine MDerR.step (Ob.binV (Wanted.on 4 7) (Has.new 11 0) (Has.cst _) (fun w1 => int_add _ rfl)) ?_
          refine MDerR.step (Ob.binV (Wanted.on 4 8) (Has.new 6 6) (Has.new 12 0) (fun w1 => int_eql false HQ.out)) ?_
          refine MDerR.step (Ob.pickF Wanted.free (Has.new 4 9) (Has.new 13 0)) ?_
          simp only [MDerR, dstsOf, List.map, EndM, List.reverse_cons, List.reverse_nil, List.nil_append, List.cons_append]
          intro wE hE
          iterate 15 (rintro _ rfl)
          simp only [Act.put, List.setIfInBounds_toArray, List.set_cons_zero, List.set_cons_succ]
          go_wp2
          go_roundw
          case rel => exact ⟨k + 1, by simp, hlt, (hb.le b1).le hE, fun hv => by rw [List.take_add_one, E0.out]; simp only [List.any_append, HS.out hv, Bool.false_or]; simp [near_no hv HM.out HH.out HQ.out]⟩
          case measure => simp [intOf]; omega
    · have F := Lib.hid (cvalid6 A B n ca m cb c wr (h0.mono hb))
      have HS := Lib.hid hs
      have e : (c.2.take k) = c.2 := List.take_of_length_le (by rw [← h.k.len]; omega)
      have HE := Lib.hid e
      clear hs e
      go_wp2_with (go_at_call 6; ((with_reducible refine F.out.mono ?_); rintro e w1 ⟨_, rfl, hb1, rfl⟩))
      go_ret
      refine retB ?_ ((hb0.le hb).le hb1)
      unfold compC
      cases hv : validC c with
      | false => rfl
      | true => have := HS.out hv; rw [HE.out] at this; rw [this]; rfl
end Go.Proofs.YtdngechnelemlaaGreat
