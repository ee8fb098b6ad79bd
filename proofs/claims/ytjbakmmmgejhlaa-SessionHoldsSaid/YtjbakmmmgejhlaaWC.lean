/-
  Is a dot in a vector, in a context; which vectors are valid: in the code and in the reference.
-/
import Derived.Test.YtjbakmmmgejhlaaWB
import Derived.Test.YtjbakmmmgejhlaaWA
namespace Go.Proofs.Ytjbakmmmgejhlaa
open Go.RowKit

theorem retB2 {w w' : World} {b b' : Bool} (hb : Below w.heap.size w w') (e : b = b') : Ret w (IsB b') (.returned (.bool b)) w' := retB e hb

/-- The reference's Get. -/
def GetRel (w : World) (n : Nat) (l : List Dot) (r : Int) (i : Value) (wr : World) : Prop :=
  ∃ k : Nat, i = .int .i64 k ∧ k ≤ n ∧ Below w.heap.size w wr ∧ getV l r = getV (l.drop k) r
def hasV (l : List Dot) (d : Dot) : Bool := validD d && decide (d.2 ≤ getV l d.1)
theorem hasV_no {l : List Dot} {d : Dot} (h : validD d = false) : hasV l d = false := by unfold hasV; rw [h]; rfl
theorem hasV_yes {l : List Dot} {d : Dot} (h : validD d = true) : hasV l d = decide (d.2 ≤ getV l d.1) := by unfold hasV; rw [h]; rfl

theorem entersV40 : Enters Try.prog 29 := enters_of Try.func29 (by kernel_rfl) rfl
theorem entersG40 : Enters Try.prog 56 := enters_of Try.func56 (by kernel_rfl) rfl
set_option maxRecDepth 100000 in
set_option maxHeartbeats 1000000 in
theorem hasv40 (x y : Int) (A : Option Addr) (n c : Nat) (l : List Dot) (w : World) (h : Dots w A n c l) :
    Calls Try.prog 40 #[.slice A n c, .agg #[.int .i64 x, .int .i64 y]] w (Ret w (IsB (hasV l (x, y)))) := by
  have hb0 : Below w.heap.size w (w.alloc (.cells #[.int .i64 x, .int .i64 y] 27)) := (Below.refl _ _).alloc (Nat.le_refl _) _
  have h0 := h.mono hb0
  have k1 : (w.alloc (.cells #[.int .i64 x, .int .i64 y] 27)).cell? ⟨w.heap.size, 0, none⟩ = some (.int .i64 x) := by simp [go_sem]
  have k2 : (w.alloc (.cells #[.int .i64 x, .int .i64 y] 27)).cell? ⟨w.heap.size, 1, none⟩ = some (.int .i64 y) := by simp [go_sem]
  have cv := dvalid x y
  have cg := fun w1 h1 => vget A n c l x w1 h1
  cases hv : validD (x, y) with
  | false =>
    rw [hv] at cv
    rw [hasV_no hv]
    go_enter Try.func40, Try.ntmps40
    go_wp2_with fail
    refine wp_region_M mixed (by kernel_rfl) ?_
    refine MDerR.step (Ob.loadV Wanted.free Has.oldIs (fun w1 hb => load_dot hb k1 k2)) ?_
    refine MDerR.step (Ob.call1V Wanted.free entersV40 (Has.new 0 0) (fun w1 _ => cv w1)) ?_
    refine MDerR.step (Ob.move Wanted.free (Has.new 1 0)) ?_
    refine MDerR.step (Ob.off 2 0) ?_
    refine MDerR.step (Ob.off 2 1) ?_
    refine MDerR.step (Ob.off 2 2) ?_
    refine MDerR.step (Ob.off 2 3) ?_
    refine MDerR.step (Ob.off 2 4) ?_
    refine MDerR.step (Ob.off 2 5) ?_
    refine MDerR.step (Ob.off 2 6) ?_
    refine MDerR.step (Ob.pickF Wanted.free (Has.new 2 7) (Has.cst _)) ?_
    refine MDerR.step (Ob.assign Wanted.free (Has.new 10 0)) ?_
    simp only [MDerR, dstsOf, List.map, EndM, List.reverse_cons, List.reverse_nil, List.nil_append, List.cons_append]
    intro wE hE
    iterate 12 (rintro _ rfl)
    simp only [Act.put, List.setIfInBounds_toArray, List.set_cons_zero, List.set_cons_succ]
    go_wp2
    go_ret
    exact retB rfl (hb0.le hE)
  | true =>
    rw [hv] at cv
    rw [hasV_yes hv]
    generalize getV l x = q at cg ⊢
    go_enter Try.func40, Try.ntmps40
    go_wp2_with fail
    refine wp_region_M mixed (by kernel_rfl) ?_
    refine MDerR.step (Ob.loadV Wanted.free Has.oldIs (fun w1 hb => load_dot hb k1 k2)) ?_
    refine MDerR.step (Ob.call1V Wanted.free entersV40 (Has.new 0 0) (fun w1 _ => cv w1)) ?_
    refine MDerR.step (Ob.move Wanted.free (Has.new 1 0)) ?_
    refine MDerR.step (Ob.fieldV (Wanted.on 2 0) Has.oldIs (fun w1 => field_dot1)) ?_
    refine MDerR.step (Ob.loadV (Wanted.on 2 1) (Has.new 3 0) (fun w1 hb => load_int hb k2)) ?_
    refine MDerR.step (Ob.move (Wanted.on 2 2) Has.oldIs) ?_
    refine MDerR.step (Ob.fieldV (Wanted.on 2 3) Has.oldIs (fun w1 => field_dot0)) ?_
    refine MDerR.step (Ob.loadV (Wanted.on 2 4) (Has.new 6 0) (fun w1 hb => load_int hb k1)) ?_
    refine MDerR.step (Ob.call2V (Wanted.on 2 5) entersG40 (Has.new 5 2) (Has.new 7 0) (fun w1 hb => cg w1 (h0.mono hb))) ?_
    refine MDerR.step (Ob.binV (Wanted.on 2 6) (Has.new 4 4) (Has.new 8 0) (fun w1 => int_leq _ rfl)) ?_
    refine MDerR.step (Ob.pickT Wanted.free (Has.new 2 7) (Has.new 9 0)) ?_
    refine MDerR.step (Ob.assign Wanted.free (Has.new 10 0)) ?_
    simp only [MDerR, dstsOf, List.map, EndM, List.reverse_cons, List.reverse_nil, List.nil_append, List.cons_append]
    intro wE hE
    iterate 12 (rintro _ rfl)
    simp only [Act.put, List.setIfInBounds_toArray, List.set_cons_zero, List.set_cons_succ]
    go_wp2
    go_ret
    exact retB rfl (hb0.le hE)
end Go.Proofs.Ytjbakmmmgejhlaa

/-
  Which vectors are valid: in the code and in the reference; the reference's look over dots; the code's look over sets.
-/
namespace Go.Proofs.Ytjbakmmmgejhlaa
open Go.RowKit

def incV : List Dot → Bool
  | a :: b :: t => decide (a.1 < b.1) && incV (b :: t)
  | _ => true
def validV (l : List Dot) : Bool := incV l && validL l
theorem incV_short {l : List Dot} (h : l.length ≤ 1) : incV l = true := by
  match l, h with
  | [], _ => rfl
  | [a], _ => rfl

def IncRel (w : World) (n : Nat) (l : List Dot) (i : Value) (wr : World) : Prop :=
  ∃ k : Nat, i = .int .i64 (k + 1 : Nat) ∧ (k < n ∨ k = 0) ∧ Below w.heap.size w wr ∧ incV l = incV (l.drop k)
theorem IncRel.next {w w1 : World} {n k : Nat} {l : List Dot} (hb : Below w.heap.size w w1) (hk : k + 1 < n) {a b : Dot} {t : List Dot} (h1 : l.drop k = a :: l.drop (k + 1)) (h2 : l.drop (k + 1) = b :: t)
    (hs : incV l = incV (l.drop k)) (hl : a.1 < b.1) : IncRel w n l (.int .i64 ((k : Int) + 1 + 1)) w1 :=
  ⟨k + 1, by simp, .inl hk, hb, by rw [hs, h1, h2, incV]; have : decide (a.1 < b.1) = true := by simpa using hl
                                   rw [this, Bool.true_and]⟩
theorem inc_no {l : List Dot} {k : Nat} {a b : Dot} {t : List Dot} (h1 : l.drop k = a :: l.drop (k + 1)) (h2 : l.drop (k + 1) = b :: t) (hs : incV l = incV (l.drop k)) (hl : b.1 ≤ a.1) : validV l = false := by
  have : decide (a.1 < b.1) = false := by simpa using hl
  unfold validV; rw [hs, h1, h2, incV, this, Bool.false_and, Bool.false_and]

set_option maxHeartbeats 1000000 in
theorem vvalid (A : Option Addr) (n c : Nat) (l : List Dot) (w : World) (h : Dots w A n c l) : Calls Try.prog 33 #[.slice A n c] w (Ret w (IsB (validV l))) := by
  have hn := h.big
  go_enter Try.func33, Try.ntmps33
  go_wp2
  go_loopw [3] (fun i wr => IncRel w n l i wr) (fun i _ => n + 1 - (intOf i).toNat)
  case atStart => exact ⟨0, rfl, .inr rfl, Below.refl _ _, rfl⟩
  case round =>
    obtain ⟨k, rfl, hk, hb, hs⟩ := hrel
    by_cases hlt : k + 1 < n
    · have hr := h.mono hb
      obtain ⟨b, o, x, y, rfl, hbk, -, d1, c1, c2⟩ := hr.at_ (k := k) (by omega)
      obtain ⟨b', o', u, v, e', -, -, d2, c3, c4⟩ := hr.at_ (k := k + 1) hlt
      obtain ⟨rfl, rfl⟩ : b = b' ∧ o = o' := by simpa using e'
      clear e'
      have ew : IntKind.i64.wrap (k : Int) = k := IntWalk.i64_in _ (by omega)
      have g1 : (k : Int) + 1 < n := by omega
      have g2 : (0 : Int) ≤ (k : Int) + 1 := by omega
      have g3 : ((k : Int) + 1).toNat = k + 1 := by omega
      have g4 : (k : Int) < n := by omega
      have D1 := Lib.hid d1; have D2 := Lib.hid d2; have HS := Lib.hid hs
      clear d1 d2 hs
      by_cases hl : u ≤ x
      · have hd : decide (u ≤ x) = true := by simpa using hl
        go_wp2
        go_quiet (fail)
        go_wp2
        go_ret
        exact retB (inc_no D1.out D2.out HS.out hl).symm (hb.drewN' _)
      · have hd : decide (u ≤ x) = false := by simpa using hl
        go_wp2
        go_quiet (fail)
        go_wp2
        go_roundw
        case rel => exact IncRel.next (hb.drewN' _) hlt D1.out D2.out HS.out (by show x < u; omega)
        case measure => simp [intOf]; omega
    · have e := incV_short (l := l.drop k) (by rw [List.length_drop, ← h.len]; omega)
      have HE := Lib.hid (hs.trans e)
      have C := Lib.hid (ccontains29 49 #[] _ A n c l wr (h.mono hb) enters49 (asks49 l wr))
      have HA := Lib.hid (any_not l)
      generalize (l.any fun d => !validD d) = r at *
      clear e hs
      go_wp2_with (go_at_call 48; ((with_reducible refine C.out.mono ?_); rintro e w1 ⟨_, rfl, hb1, rfl⟩))
      go_ret
      exact retB (by unfold validV; rw [HE.out, HA.out]; rfl) (hb.le hb1)

/-- The same, as the reference looks: with the replica before. -/
def okP (p : Option Int) (r : Int) : Bool := match p with | none => true | some q => decide (q < r)
def goV : Option Int → List Dot → Bool
  | _, [] => true
  | p, a :: t => validD a && okP p a.1 && goV (some a.1) t
theorem goV_cons (p : Option Int) (a : Dot) (t : List Dot) : goV p (a :: t) = (validD a && okP p a.1 && goV (some a.1) t) := by cases p <;> rfl
theorem goV_nil (p : Option Int) : goV p [] = true := by cases p <;> rfl
theorem goV_some : ∀ (t : List Dot) (a : Dot), goV (some a.1) t = (incV (a :: t) && validL t)
  | [], a => rfl
  | b :: t, a => by
    simp only [goV_cons, okP, incV, validL, List.all_cons, goV_some t b]
    cases decide (a.1 < b.1) <;> cases validD b <;> cases incV (b :: t) <;> simp
theorem goV_none (l : List Dot) : goV none l = validV l := by
  cases l with
  | nil => rfl
  | cons a t =>
    simp only [goV_cons, okP, goV_some, validV, validL, List.all_cons]
    cases validD a <;> cases incV (a :: t) <;> simp
/-- The replica in front of place k. -/
def before (l : List Dot) : Nat → Option Int
  | 0 => none
  | k + 1 => (l[k]?).map (·.1)
def GoRel (w : World) (n : Nat) (l : List Dot) (i : Value) (wr : World) : Prop :=
  ∃ k : Nat, i = .int .i64 k ∧ k ≤ n ∧ Below w.heap.size w wr ∧ validV l = goV (before l k) (l.drop k)
theorem GoRel.next {w w1 : World} {n k : Nat} {l : List Dot} (hb : Below w.heap.size w w1) (hk : k < n) {a : Dot} (h0 : l[k]? = some a) (h1 : l.drop k = a :: l.drop (k + 1)) (hs : validV l = goV (before l k) (l.drop k)) (hv : validD a = true)
    (hl : okP (before l k) a.1 = true) : GoRel w n l (.int .i64 ((k : Int) + 1)) w1 :=
  ⟨k + 1, by simp, hk, hb, by rw [hs, h1, goV_cons, hv, hl, before, h0]; rfl⟩
theorem go_no {k : Nat} {l : List Dot} {a : Dot} (h1 : l.drop k = a :: l.drop (k + 1)) (hs : validV l = goV (before l k) (l.drop k)) (hv : validD a = false ∨ okP (before l k) a.1 = false) : validV l = false := by
  rw [hs, h1, goV_cons]
  rcases hv with h | h <;> rw [h] <;> simp

theorem enters50 : Enters Try.prog 50 := enters_of Try.func50 (by kernel_rfl) rfl

end Go.Proofs.Ytjbakmmmgejhlaa

/-
  Which contexts are valid, equal, and which dots they have: in the code and in the reference.
-/
namespace Go.Proofs.Ytjbakmmmgejhlaa
open Go.RowKit

abbrev Ctx := List Dot × List Dot
def validC (c : Ctx) : Bool := validV c.1 && (isSet c.2 && validL c.2)
def eqC (a b : Ctx) : Bool := eqL a.1 b.1 && eqL a.2 b.2
def hasC (c : Ctx) (d : Dot) : Bool := hasV c.1 d || (validD d && memD d c.2)

set_option maxRecDepth 100000 in
set_option maxHeartbeats 1000000 in
theorem disset (A : Option Addr) (n c : Nat) (l : List Dot) (w : World) (h : Dots w A n c l) : Calls Try.prog 34 #[.slice A n c] w (Ret w (IsB (isSet l))) := by
  have hn := h.big
  go_enter Try.func34, Try.ntmps34
  go_wp2
  go_loopw [3] (fun i wr => SetRel w n l i wr) (fun i _ => n + 1 - (intOf i).toNat)
  case atStart => exact ⟨0, rfl, .inr rfl, Below.refl _ _, rfl⟩
  case round =>
    obtain ⟨k, rfl, hk, hb, hs⟩ := hrel
    by_cases hlt : k + 1 < n
    · have hr := h.mono hb
      obtain ⟨b, o, x, y, rfl, hbk, -, d1, c1, c2⟩ := hr.at_ (k := k) (by omega)
      obtain ⟨b', o', u, v, e', -, -, d2, c3, c4⟩ := hr.at_ (k := k + 1) hlt
      obtain ⟨rfl, rfl⟩ : b = b' ∧ o = o' := by simpa using e'
      clear e'
      have D1 := Lib.hid d1; have D2 := Lib.hid d2; have HS := Lib.hid hs
      clear d1 d2 hs
      have CL := Lib.hid (dcompare x y u v)
      have hi : k + 1 ≤ 9223372036854775807 := by omega
      cases hl : lessD (x, y) (u, v) with
      | true =>
        have HL := Lib.hid hl; clear hl
        have hc : decide (0 ≤ cmpD (x, y) (u, v)) = false := by rw [decide_eq_false_iff_not]; have := cmpD_lt.2 HL.out; omega
        have HC := Lib.hid hc; clear hc
        go_wp2_with fail
        refine wp_region_M mixed (by kernel_rfl) ?_
        refine MDerR.step (Ob.move Wanted.free Has.oldIs) ?_
        refine MDerR.step (Ob.move Wanted.free Has.oldIs) ?_
        refine MDerR.step (Ob.binV Wanted.free (Has.new 1 0) (Has.cst _) (fun w1 => sub_one hi)) ?_
        refine MDerR.step (Ob.indexV Wanted.free (Has.new 0 2) (Has.new 2 0) (fun w1 => index_dots (by omega))) ?_
        refine MDerR.step (Ob.loadV Wanted.free (Has.new 3 0) (fun w1 hb1 => load_dot hb1 c1 c2)) ?_
        refine MDerR.step (Ob.move Wanted.free Has.oldIs) ?_
        refine MDerR.step (Ob.move Wanted.free Has.oldIs) ?_
        refine MDerR.step (Ob.indexV Wanted.free (Has.new 5 1) (Has.new 6 0) (fun w1 => index_dots hlt)) ?_
        refine MDerR.step (Ob.loadV Wanted.free (Has.new 7 0) (fun w1 hb1 => load_dot hb1 c3 c4)) ?_
        refine MDerR.step (Ob.call2V Wanted.free enters50 (Has.new 4 4) (Has.new 8 0) (fun w1 _ => CL.out w1)) ?_
        refine MDerR.step (Ob.binV Wanted.free (Has.new 9 0) (Has.cst _) (fun w1 => int_geq false HC.out)) ?_
        simp only [MDerR, dstsOf, List.map, EndM, List.reverse_cons, List.reverse_nil, List.nil_append, List.cons_append]
        intro wE hE
        iterate 11 (rintro _ rfl)
        simp only [Act.put, List.setIfInBounds_toArray, List.set_cons_zero, List.set_cons_succ]
        go_wp2
        go_roundw
        case rel => exact SetRel.next hb hE hlt D1.out D2.out HS.out HL.out
        case measure => simp [intOf]; omega
      | false =>
        have HL := Lib.hid hl; clear hl
        have hc : decide (0 ≤ cmpD (x, y) (u, v)) = true := by
          rw [decide_eq_true_iff]
          by_cases h1 : cmpD (x, y) (u, v) < 0
          · rw [cmpD_lt, HL.out] at h1; cases h1
          · omega
        have HC := Lib.hid hc; clear hc
        go_wp2_with fail
        refine wp_region_M mixed (by kernel_rfl) ?_
        refine MDerR.step (Ob.move Wanted.free Has.oldIs) ?_
        refine MDerR.step (Ob.move Wanted.free Has.oldIs) ?_
        refine MDerR.step (Ob.binV Wanted.free (Has.new 1 0) (Has.cst _) (fun w1 => sub_one hi)) ?_
        refine MDerR.step (Ob.indexV Wanted.free (Has.new 0 2) (Has.new 2 0) (fun w1 => index_dots (by omega))) ?_
        refine MDerR.step (Ob.loadV Wanted.free (Has.new 3 0) (fun w1 hb1 => load_dot hb1 c1 c2)) ?_
        refine MDerR.step (Ob.move Wanted.free Has.oldIs) ?_
        refine MDerR.step (Ob.move Wanted.free Has.oldIs) ?_
        refine MDerR.step (Ob.indexV Wanted.free (Has.new 5 1) (Has.new 6 0) (fun w1 => index_dots hlt)) ?_
        refine MDerR.step (Ob.loadV Wanted.free (Has.new 7 0) (fun w1 hb1 => load_dot hb1 c3 c4)) ?_
        refine MDerR.step (Ob.call2V Wanted.free enters50 (Has.new 4 4) (Has.new 8 0) (fun w1 _ => CL.out w1)) ?_
        refine MDerR.step (Ob.binV Wanted.free (Has.new 9 0) (Has.cst _) (fun w1 => int_geq true HC.out)) ?_
        simp only [MDerR, dstsOf, List.map, EndM, List.reverse_cons, List.reverse_nil, List.nil_append, List.cons_append]
        intro wE hE
        iterate 11 (rintro _ rfl)
        simp only [Act.put, List.setIfInBounds_toArray, List.set_cons_zero, List.set_cons_succ]
        go_wp2
        go_ret
        exact retB (set_no D1.out D2.out HS.out HL.out).symm (hb.le hE)
    · have e := isSet_short (l := l.drop k) (by rw [List.length_drop, ← h.len]; omega)
      have HE := Lib.hid (hs.trans e)
      clear e hs
      go_wp2
      go_ret
      exact retB HE.out.symm hb

def AllRel (w : World) (n : Nat) (l : List Dot) (i : Value) (wr : World) : Prop :=
  ∃ k : Nat, i = .int .i64 k ∧ k ≤ n ∧ Below w.heap.size w wr ∧ validL l = validL (l.drop k)
/-- A context's two slices. -/
structure Con (w : World) (A : Option Addr) (n ca : Nat) (B : Option Addr) (m cb : Nat) (c : Ctx) : Prop where
  v : Dots w A n ca c.1
  k : Dots w B m cb c.2
theorem Con.mono {w w' : World} {A B : Option Addr} {n ca m cb : Nat} {c : Ctx} (h : Con w A n ca B m cb c) (hb : Below w.heap.size w w') : Con w' A n ca B m cb c := ⟨h.v.mono hb, h.k.mono hb⟩
/-- The box that a context by value is laid in. -/
abbrev conBox (A : Option Addr) (n ca : Nat) (B : Option Addr) (m cb : Nat) : Obj := .cells #[.slice A n ca, .slice B m cb] 31

set_option maxHeartbeats 1000000 in
theorem cvalid14 (A B : Option Addr) (n ca m cb : Nat) (c : Ctx) (w : World) (h : Con w A n ca B m cb c) :
    Calls Try.prog 14 #[.agg #[.slice A n ca, .slice B m cb]] w (Ret w (IsB (validC c))) := by
  have hb0 : Below w.heap.size w (w.alloc (conBox A n ca B m cb)) := (Below.refl _ _).alloc (Nat.le_refl _) _
  have h0 := h.mono hb0
  have hz : w.heap.size < (w.alloc (conBox A n ca B m cb)).heap.size := by simp
  have f1 := fun w1 h1 => vvalid A n ca c.1 w1 h1
  have f2 := fun w1 h1 => disset B m cb c.2 w1 h1
  have f3 := fun w1 h1 => cvalidL B m cb c.2 w1 h1
  unfold validC
  generalize validV c.1 = r1 at *
  generalize isSet c.2 = r2 at *
  generalize validL c.2 = r3 at *
  have F1 := Lib.hid f1; have F2 := Lib.hid f2; have F3 := Lib.hid f3; have H0 := Lib.hid h0; have HB := Lib.hid hb0
  clear f1 f2 f3 h0 h hb0
  cases r1 with
  | false =>
    go_enter Try.func14, Try.ntmps14
    go_wp2_with (first
      | (go_at_call 33; ((with_reducible refine (F1.out _ H0.out.v).mono ?_); rintro e w1 ⟨_, rfl, hb1, rfl⟩)))
    go_ret
    exact retB rfl (HB.out.le hb1)
  | true =>
    cases r2 with
    | false =>
      go_enter Try.func14, Try.ntmps14
      go_wp2_with (first
        | (go_at_call 33; ((with_reducible refine (F1.out _ H0.out.v).mono ?_); rintro e w1 ⟨_, rfl, hb1, rfl⟩; have hc1 := (bcell hb1).1))
        | (go_at_call 34; ((with_reducible refine (F2.out _ (H0.out.k.mono hb1)).mono ?_); rintro e w2 ⟨_, rfl, hb2, rfl⟩)))
      go_ret
      exact retB rfl ((HB.out.le hb1).le hb2)
    | true =>
      go_enter Try.func14, Try.ntmps14
      go_wp2_with (first
        | (go_at_call 33; ((with_reducible refine (F1.out _ H0.out.v).mono ?_); rintro e w1 ⟨_, rfl, hb1, rfl⟩; have hc1 := (bcell hb1).1))
        | (go_at_call 34; ((with_reducible refine (F2.out _ (H0.out.k.mono hb1)).mono ?_); rintro e w2 ⟨_, rfl, hb2, rfl⟩; have hc2 := (bcell (hb1.le hb2)).1))
        | (go_at_call 35; ((with_reducible refine (F3.out _ (H0.out.k.mono (hb1.le hb2))).mono ?_); rintro e w3 ⟨_, rfl, hb3, rfl⟩)))
      go_ret
      exact retB rfl (((HB.out.le hb1).le hb2).le hb3)
end Go.Proofs.Ytjbakmmmgejhlaa

/-
  Which dots a context has, which contexts are equal: in the code and in the reference; the statements' test of size.
-/
namespace Go.Proofs.Ytjbakmmmgejhlaa
open Go.RowKit

set_option maxHeartbeats 1000000 in
theorem chas (x y : Int) (A B : Option Addr) (n ca m cb : Nat) (c : Ctx) (w : World) (h : Con w A n ca B m cb c) :
    Calls Try.prog 18 #[.agg #[.slice A n ca, .slice B m cb], .agg #[.int .i64 x, .int .i64 y]] w (Ret w (IsB (hasC c (x, y)))) := by
  have hb0 : Below w.heap.size w ((w.alloc (conBox A n ca B m cb)).alloc (.cells #[.int .i64 x, .int .i64 y] 27)) := by go_grown
  have h0 := h.mono hb0
  have hz : w.heap.size + 1 < ((w.alloc (conBox A n ca B m cb)).alloc (.cells #[.int .i64 x, .int .i64 y] 27)).heap.size := by simp
  have f1 := fun w1 h1 => hasv40 x y A n ca c.1 w1 h1
  have f2 := fun w1 => dvalid x y w1
  have f3 := fun w1 h1 => dhas x y B m cb c.2 w1 h1
  unfold hasC
  generalize hasV c.1 (x, y) = r1 at *
  generalize validD (x, y) = r2 at *
  generalize memD (x, y) c.2 = r3 at *
  have F1 := Lib.hid f1; have F2 := Lib.hid f2; have F3 := Lib.hid f3; have H0 := Lib.hid h0; have HB := Lib.hid hb0
  clear f1 f2 f3 h0 h hb0
  cases r1 with
  | true =>
    go_enter Try.func18, Try.ntmps18
    go_wp2_with (first
      | (go_at_call 40; ((with_reducible refine (F1.out _ H0.out.v).mono ?_); rintro e w1 ⟨_, rfl, hb1, rfl⟩)))
    go_ret
    exact retB rfl (HB.out.le hb1)
  | false =>
    cases r2 with
    | false =>
      go_enter Try.func18, Try.ntmps18
      go_wp2_with (first
        | (go_at_call 40; ((with_reducible refine (F1.out _ H0.out.v).mono ?_); rintro e w1 ⟨_, rfl, hb1, rfl⟩; have hc1 := (bcell hb1).1))
        | (go_at_call 29; ((with_reducible refine (F2.out _).mono ?_); rintro e w2 ⟨_, rfl, hb2, rfl⟩)))
      go_ret
      exact retB rfl ((HB.out.le hb1).le hb2)
    | true =>
      go_enter Try.func18, Try.ntmps18
      go_wp2_with (first
        | (go_at_call 40; ((with_reducible refine (F1.out _ H0.out.v).mono ?_); rintro e w1 ⟨_, rfl, hb1, rfl⟩; have hc1 := (bcell hb1).1))
        | (go_at_call 29; ((with_reducible refine (F2.out _).mono ?_); rintro e w2 ⟨_, rfl, hb2, rfl⟩; have hc2 := (bcell (hb1.le hb2)).1))
        | (go_at_call 41; ((with_reducible refine (F3.out _ (H0.out.k.mono (hb1.le hb2))).mono ?_); rintro e w3 ⟨_, rfl, hb3, rfl⟩)))
      go_ret
      exact retB rfl (((HB.out.le hb1).le hb2).le hb3)

theorem hasC_ref (c : Ctx) (d : Dot) : hasC c d = (validD d && (hasV c.1 d || memD d c.2)) := by
  unfold hasC hasV; cases validD d <;> simp
set_option maxHeartbeats 1000000 in
theorem ceq25 (A B C D : Option Addr) (n ca m cb n' ca' m' cb' : Nat) (c d : Ctx) (w : World) (h : Con w A n ca B m cb c) (k : Con w C n' ca' D m' cb' d) :
    Calls Try.prog 25 #[.agg #[.slice A n ca, .slice B m cb], .agg #[.slice C n' ca', .slice D m' cb']] w (Ret w (IsB (eqC c d))) := by
  have hb0 : Below w.heap.size w ((w.alloc (conBox A n ca B m cb)).alloc (conBox C n' ca' D m' cb')) := by go_grown
  have h0 := h.mono hb0; have k0 := k.mono hb0
  have hz : w.heap.size + 1 < ((w.alloc (conBox A n ca B m cb)).alloc (conBox C n' ca' D m' cb')).heap.size := by simp
  have f1 := fun w1 h1 h2 => same43 A C n n' ca ca' c.1 d.1 w1 h1 h2
  have f2 := fun w1 h1 h2 => same44 B D m m' cb cb' c.2 d.2 w1 h1 h2
  unfold eqC
  generalize eqL c.1 d.1 = r1 at *
  generalize eqL c.2 d.2 = r2 at *
  have F1 := Lib.hid f1; have F2 := Lib.hid f2; have H0 := Lib.hid h0; have K0 := Lib.hid k0; have HB := Lib.hid hb0
  clear f1 f2 h0 h k k0 hb0
  cases r1 with
  | false =>
    go_enter Try.func25, Try.ntmps25
    go_wp2_with (first
      | (go_at_call 43; ((with_reducible refine (F1.out _ H0.out.v K0.out.v).mono ?_); rintro e w1 ⟨_, rfl, hb1, rfl⟩)))
    go_ret
    exact retB rfl (HB.out.le hb1)
  | true =>
    go_enter Try.func25, Try.ntmps25
    go_wp2_with (first
      | (go_at_call 43; ((with_reducible refine (F1.out _ H0.out.v K0.out.v).mono ?_); rintro e w1 ⟨_, rfl, hb1, rfl⟩; have hc1 := (bcell hb1).1))
      | (go_at_call 44; ((with_reducible refine (F2.out _ (H0.out.k.mono hb1) (K0.out.k.mono hb1)).mono ?_); rintro e w2 ⟨_, rfl, hb2, rfl⟩)))
    go_ret
    exact retB rfl ((HB.out.le hb1).le hb2)
end Go.Proofs.Ytjbakmmmgejhlaa

/-
  Which contexts are compact: in the code and in the reference.
-/
namespace Go.Proofs.Ytjbakmmmgejhlaa
open Go.RowKit

def nearD (v : List Dot) (d : Dot) : Bool := decide (d.2 ≤ getV v d.1 + 1)
def compC (c : Ctx) : Bool := validC c && !c.2.any (nearD c.1)

theorem getV_bd : ∀ (l : List Dot) (r : Int), validL l = true → 0 ≤ getV l r ∧ getV l r ≤ 4294967295
  | [], _, _ => ⟨by simp [getV], by simp [getV]⟩
  | a :: t, r, h => by
    simp only [validL, List.all_cons, Bool.and_eq_true] at h
    have h1 := validD_iff.1 h.1
    simp only [getV]
    split
    · omega
    · exact getV_bd t r h.2

/-- The reference's loop. -/
def CompRel (w : World) (n : Nat) (c : Ctx) (i : Value) (wr : World) : Prop :=
  ∃ k : Nat, i = .int .i64 k ∧ k ≤ n ∧ Below w.heap.size w wr ∧ (validC c = true → (c.2.take k).any (nearD c.1) = false)
theorem validC_mem {c : Ctx} {d : Dot} (h : validC c = true) (hd : d ∈ c.2) : validD d = true := by
  unfold validC at h; simp at h
  have := h.2.2; unfold validL at this; rw [List.all_eq_true] at this; exact this d hd
theorem near_of_has {c : Ctx} {d : Dot} (h : hasV c.1 d = true) : nearD c.1 d = true := by
  unfold hasV at h; unfold nearD; simp at h; simp; omega
theorem comp_no {c : Ctx} {d : Dot} (hd : d ∈ c.2) (h : validC c = true → nearD c.1 d = true) : compC c = false := by
  unfold compC
  cases hv : validC c with
  | false => rfl
  | true =>
    have : c.2.any (nearD c.1) = true := List.any_eq_true.2 ⟨d, hd, h hv⟩
    rw [this]; rfl
theorem validC_wrap {c : Ctx} (h : validC c = true) (r : Int) : IntKind.i64.wrap (getV c.1 r + 1) = getV c.1 r + 1 := by
  have hv : validL c.1 = true := by unfold validC validV at h; simp at h; exact h.1.2
  have := getV_bd c.1 r hv
  exact IntWalk.i64_in _ (by omega)
theorem near_no {c : Ctx} {d : Dot} (h : validC c = true) (hd : d ∈ c.2) (h1 : hasV c.1 d = false) (h2 : (d.2 == IntKind.i64.wrap (getV c.1 d.1 + 1)) = false) : nearD c.1 d = false := by
  rw [validC_wrap h] at h2
  have h3 := validC_mem h hd
  unfold hasV at h1; rw [h3] at h1; simp at h1 h2
  unfold nearD; simp; omega

end Go.Proofs.Ytjbakmmmgejhlaa
