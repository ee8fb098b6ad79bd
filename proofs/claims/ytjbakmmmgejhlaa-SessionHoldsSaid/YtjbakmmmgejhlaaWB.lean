/-
  The dots' own functions, in the code and in the reference: valid, before, compare.
-/
import Derived.Test.YtjbakmmmgejhlaaWA
namespace Go.Proofs.Ytjbakmmmgejhlaa
open Go.RowKit

def validD (d : Dot) : Bool := decide (1 ≤ d.1 ∧ d.1 ≤ 65535 ∧ 1 ≤ d.2 ∧ d.2 ≤ 4294967295)
def lessD (a b : Dot) : Bool := if a.2 = b.2 then decide (a.1 < b.1) else decide (a.2 < b.2)
theorem validD_iff {d : Dot} : validD d = true ↔ 1 ≤ d.1 ∧ d.1 ≤ 65535 ∧ 1 ≤ d.2 ∧ d.2 ≤ 4294967295 := by unfold validD; exact decide_eq_true_iff
theorem validD_not {d : Dot} : validD d = false ↔ ¬ (1 ≤ d.1 ∧ d.1 ≤ 65535 ∧ 1 ≤ d.2 ∧ d.2 ≤ 4294967295) := by unfold validD; exact decide_eq_false_iff_not
theorem lessD_iff {a b : Dot} : lessD a b = true ↔ a.2 < b.2 ∨ (a.2 = b.2 ∧ a.1 < b.1) := by unfold lessD; split <;> simp <;> omega
/-- -1, 0, 1: as numbers are. -/
def cmpI (a b : Int) : Int := if a < b then -1 else if b < a then 1 else 0
/-- The order of two dots: -1, 0, 1. -/
def cmpD (a b : Dot) : Int := if cmpI a.2 b.2 = 0 then cmpI a.1 b.1 else cmpI a.2 b.2
theorem cmpI_bd (a b : Int) : -1 ≤ cmpI a b ∧ cmpI a b ≤ 1 := by unfold cmpI; split <;> (try split) <;> omega
theorem cmpD_bd (a b : Dot) : -1 ≤ cmpD a b ∧ cmpD a b ≤ 1 := by unfold cmpD; split <;> exact cmpI_bd _ _
theorem cmpD_lt {a b : Dot} : cmpD a b < 0 ↔ lessD a b = true := by
  rw [lessD_iff]; unfold cmpD cmpI
  split <;> split <;> (try split) <;> omega
theorem cmpD_zero {a b : Dot} : cmpD a b = 0 ↔ a = b := by
  obtain ⟨a1, a2⟩ := a; obtain ⟨b1, b2⟩ := b
  simp only [Prod.mk.injEq]; unfold cmpD cmpI
  simp only []
  split <;> split <;> (try split) <;> (try split) <;> omega

theorem retB {w w' : World} {b b' : Bool} (e : b = b') (hb : Below w.heap.size w w') : Ret w (IsB b') (.returned (.bool b)) w' := ⟨_, rfl, hb, by rw [e]; rfl⟩
theorem retI {w w' : World} {b b' : Int} (e : b = b') (hb : Below w.heap.size w w') : Ret w (IsI b') (.returned (.int .i64 b)) w' := ⟨_, rfl, hb, by rw [e]; rfl⟩

theorem dvalid (x y : Int) (w : World) : Calls Try.prog 29 #[.agg #[.int .i64 x, .int .i64 y]] w (Ret w (IsB (validD (x, y)))) := by
  go_enter Try.func29, Try.ntmps29
  go_wp2
  all_goals
    go_ret
    exact retB (by rw [Bool.eq_iff_iff]; simp [validD]; try omega) (by go_grown)
theorem ccompare (a b : Int) (w : World) : Calls Try.prog 66 #[.int .i64 a, .int .i64 b] w fun e w' => e = .returned (.int .i64 (cmpI a b)) ∧ w = w' := by
  go_enter Try.func66, Try.ntmps66
  go_wp2
  all_goals
    go_ret
    exact ⟨by rw [cmpI]; simp only [*]; simp <;> omega, rfl⟩
end Go.Proofs.Ytjbakmmmgejhlaa

/-
  dot.Compare; which lists are sets, which dots are allowed: in the code and in the reference.
-/
namespace Go.Proofs.Ytjbakmmmgejhlaa
open Go.RowKit

def orI (x y : Int) : Int := if x = 0 then y else x
theorem cor2 (x y : Int) (b : Nat) (w : World) (h1 : w.cell? ⟨b, 0, none⟩ = some (.int .i64 x)) (h2 : w.cell? ⟨b, 1, none⟩ = some (.int .i64 y)) :
    Calls Try.prog 65 #[.slice (some ⟨b, 0, none⟩) 2 2] w fun e w' => e = .returned (.int .i64 (orI x y)) ∧ w = w' := by
  by_cases hx : x = 0
  · subst hx
    by_cases hy : y = 0
    · subst hy
      go_enter Try.func65, Try.ntmps65
      go_wp2
      go_rounds 3
      go_ret
      exact ⟨rfl, rfl⟩
    · have hne : (y != 0) = true := by simpa using hy
      go_enter Try.func65, Try.ntmps65
      go_wp2
      go_rounds 3
      go_ret
      exact ⟨rfl, rfl⟩
  · have hne : (x != 0) = true := by simpa using hx
    go_enter Try.func65, Try.ntmps65
    go_wp2
    go_rounds 3
    go_ret
    exact ⟨by simp [orI, hx], rfl⟩
theorem orI_cmp (a b : Dot) : orI (cmpI a.2 b.2) (cmpI a.1 b.1) = cmpD a b := rfl

set_option maxHeartbeats 1000000 in
theorem dcompare (a b x y : Int) (w : World) : Calls Try.prog 50 #[.agg #[.int .i64 a, .int .i64 b], .agg #[.int .i64 x, .int .i64 y]] w (Ret w (IsI (cmpD (a, b) (x, y)))) := by
  have e := orI_cmp (a, b) (x, y)
  generalize cmpD (a, b) (x, y) = r at *
  generalize hp : cmpI (a, b).2 (x, y).2 = p at *
  generalize hq : cmpI (a, b).1 (x, y).1 = q at *
  have E := Lib.hid e; clear e
  have c1 := fun w => ccompare b y w
  have c2 := fun w => ccompare a x w
  simp only at hp hq
  rw [hp] at c1; rw [hq] at c2
  clear hp hq
  go_enter Try.func50, Try.ntmps50
  go_wp2_with fail
  go_region_held3 (fun w' => w'.cell? ⟨w.heap.size, 0, none⟩ = some (.int .i64 a) ∧ w'.cell? ⟨w.heap.size, 1, none⟩ = some (.int .i64 b) ∧ w'.cell? ⟨w.heap.size + 1, 0, none⟩ = some (.int .i64 x) ∧ w'.cell? ⟨w.heap.size + 1, 1, none⟩ = some (.int .i64 y)) (simp [go_sem, World.cell?_alloc_past])
    (first
      | (go_at_call 66; ((with_reducible refine (c1 _).mono ?_); rintro e w' ⟨rfl, rfl⟩))
      | (go_at_call 66; ((with_reducible refine (c2 _).mono ?_); rintro e w' ⟨rfl, rfl⟩))
      | (go_at_call 65; ((with_reducible refine (cor2 p q _ _ (by simp [go_sem]) (by simp [go_sem])).mono ?_); rintro e w' ⟨rfl, rfl⟩)))
  go_wp2
  go_ret
  rw [E.out]
  exact retI rfl (by go_grown)
end Go.Proofs.Ytjbakmmmgejhlaa

/-
  Which lists of dots are sets: in the code and in the reference.
-/
namespace Go.Proofs.Ytjbakmmmgejhlaa
open Go.RowKit

def isSet : List Dot → Bool
  | a :: b :: t => lessD a b && isSet (b :: t)
  | _ => true
theorem isSet_short {l : List Dot} (h : l.length ≤ 1) : isSet l = true := by
  match l, h with
  | [], _ => rfl
  | [a], _ => rfl

/-- What holds at the head of the loop over the pairs. -/
def SetRel (w : World) (n : Nat) (l : List Dot) (i : Value) (wr : World) : Prop :=
  ∃ k : Nat, i = .int .i64 (k + 1 : Nat) ∧ (k < n ∨ k = 0) ∧ Below w.heap.size w wr ∧ isSet l = isSet (l.drop k)

theorem SetRel.next {w wr w1 : World} {n k : Nat} {l : List Dot} (hb : Below w.heap.size w wr) (hb1 : Below wr.heap.size wr w1) (hk : k + 1 < n) {a b : Dot} {t : List Dot} (h1 : l.drop k = a :: l.drop (k + 1)) (h2 : l.drop (k + 1) = b :: t)
    (hs : isSet l = isSet (l.drop k)) (hl : lessD a b = true) : SetRel w n l (.int .i64 ((k : Int) + 1 + 1)) w1 :=
  ⟨k + 1, by simp, .inl hk, hb.le hb1, by rw [hs, h1, h2, isSet, hl, Bool.true_and]⟩
theorem set_no {l : List Dot} {k : Nat} {a b : Dot} {t : List Dot} (h1 : l.drop k = a :: l.drop (k + 1)) (h2 : l.drop (k + 1) = b :: t) (hs : isSet l = isSet (l.drop k)) (hl : lessD a b = false) : isSet l = false := by
  rw [hs, h1, h2, isSet, hl, Bool.false_and]

end Go.Proofs.Ytjbakmmmgejhlaa

/-
  IndexFunc and ContainsFunc at dots; which dots of a list are allowed; the counter of a replica in a vector: in the code.
-/
namespace Go.Proofs.Ytjbakmmmgejhlaa
open Go.RowKit

def idxFrom (p : Dot → Bool) : Nat → List Dot → Int
  | _, [] => -1
  | k, a :: t => if p a then k else idxFrom p (k + 1) t
theorem idxFrom_any (p : Dot → Bool) : ∀ (l : List Dot) (k : Nat), decide (0 ≤ idxFrom p k l) = l.any p
  | [], _ => rfl
  | a :: t, k => by
    simp only [idxFrom, List.any_cons]
    by_cases h : p a = true
    · simp [h]
    · simpa [h] using idxFrom_any p t (k + 1)
theorem idxFrom_bd (p : Dot → Bool) : ∀ (l : List Dot) (k : Nat), -1 ≤ idxFrom p k l ∧ idxFrom p k l < k + l.length
  | [], k => by simp [idxFrom]; omega
  | a :: t, k => by
    have := idxFrom_bd p t (k + 1)
    simp only [idxFrom]
    split <;> simp <;> omega

/-- A function value that answers p of each dot of a list. -/
def Asks (w : World) (g : Nat) (cb : Array Value) (l : List Dot) (p : Dot → Bool) : Prop :=
  ∀ w', Below w.heap.size w w' → ∀ x y, (x, y) ∈ l → Calls Try.prog g (#[.agg #[.int .i64 x, .int .i64 y]] ++ cb) w' (Ret w' (IsB (p (x, y))))

def IdxRel (w : World) (n : Nat) (l : List Dot) (p : Dot → Bool) (i : Value) (wr : World) : Prop :=
  ∃ k : Nat, i = .int .i64 k ∧ k ≤ n ∧ Below w.heap.size w wr ∧ idxFrom p 0 l = idxFrom p k (l.drop k)
theorem IdxRel.next {w wr w1 : World} {n k : Nat} {l : List Dot} {p : Dot → Bool} (hb : Below w.heap.size w wr) (hb1 : Below wr.heap.size wr w1) (hk : k < n) {a : Dot} (h1 : l.drop k = a :: l.drop (k + 1))
    (hs : idxFrom p 0 l = idxFrom p k (l.drop k)) (hl : p a = false) : IdxRel w n l p (.int .i64 ((k : Int) + 1)) w1 :=
  ⟨k + 1, by simp, hk, hb.le hb1, by rw [hs, h1, idxFrom, hl]; rfl⟩

set_option maxHeartbeats 1000000 in
theorem cindex29 (g : Nat) (cb : Array Value) (p : Dot → Bool) (A : Option Addr) (n c : Nat) (l : List Dot) (w : World) (h : Dots w A n c l)
    (eg : ∀ args w, (callFunc g args).run Try.prog w = .ok (.enter g args) w) (hp : Asks w g cb l p) :
    Calls Try.prog 64 #[.slice A n c, .func (.func g) #[] cb] w (Ret w (IsI (idxFrom p 0 l))) := by
  have hn := h.big
  have HP := Lib.hid hp; clear hp
  go_enter Try.func64, Try.ntmps64
  go_wp2
  go_loopw [8] (fun i wr => IdxRel w n l p i wr) (fun i _ => n - (intOf i).toNat)
  case atStart => exact ⟨0, rfl, by omega, Below.refl _ _, by simp⟩
  case round =>
    obtain ⟨k, rfl, hk, hb, hs⟩ := hrel
    by_cases hlt : k < n
    · obtain ⟨b, o, x, y, rfl, hbk, hm, d1, c1, c2⟩ := (h.mono hb).at_ (k := k) hlt
      have D1 := Lib.hid d1; have HS := Lib.hid hs
      have HM := Lib.hid (List.mem_of_getElem? hm)
      clear d1 hs hm
      cases hl : p (x, y) with
      | true =>
        have cp := HP.out _ hb x y HM.out
        rw [hl] at cp
        have CP := Lib.hid cp; have HL := Lib.hid hl; clear hl cp
        go_wp2_with (first | ((with_reducible refine CP.out.mono ?_); rintro e w1 ⟨_, rfl, hb1, rfl⟩))
        go_ret
        exact ⟨_, rfl, hb.le hb1, by rw [HS.out, D1.out, idxFrom, HL.out]; rfl⟩
      | false =>
        have cp := HP.out _ hb x y HM.out
        rw [hl] at cp
        have CP := Lib.hid cp; have HL := Lib.hid hl; clear hl cp
        go_wp2_with (first | ((with_reducible refine CP.out.mono ?_); rintro e w1 ⟨_, rfl, hb1, rfl⟩))
        go_roundw
        case rel => exact IdxRel.next hb hb1 hlt D1.out HS.out HL.out
        case measure => simp [intOf]; omega
    · have HS := Lib.hid hs; clear hs
      go_wp2
      go_ret
      exact ⟨_, rfl, hb, by rw [HS.out, List.drop_of_length_le (by rw [← h.len]; omega)]; rfl⟩
set_option maxHeartbeats 1000000 in
theorem cindex28 (g : Nat) (cb : Array Value) (p : Dot → Bool) (A : Option Addr) (n c : Nat) (l : List Dot) (w : World) (h : Dots w A n c l)
    (eg : ∀ args w, (callFunc g args).run Try.prog w = .ok (.enter g args) w) (hp : Asks w g cb l p) :
    Calls Try.prog 67 #[.slice A n c, .func (.func g) #[] cb] w (Ret w (IsI (idxFrom p 0 l))) := by
  have hn := h.big
  have HP := Lib.hid hp; clear hp
  go_enter Try.func67, Try.ntmps67
  go_wp2
  go_loopw [8] (fun i wr => IdxRel w n l p i wr) (fun i _ => n - (intOf i).toNat)
  case atStart => exact ⟨0, rfl, by omega, Below.refl _ _, by simp⟩
  case round =>
    obtain ⟨k, rfl, hk, hb, hs⟩ := hrel
    by_cases hlt : k < n
    · obtain ⟨b, o, x, y, rfl, hbk, hm, d1, c1, c2⟩ := (h.mono hb).at_ (k := k) hlt
      have D1 := Lib.hid d1; have HS := Lib.hid hs
      have HM := Lib.hid (List.mem_of_getElem? hm)
      clear d1 hs hm
      cases hl : p (x, y) with
      | true =>
        have cp := HP.out _ hb x y HM.out
        rw [hl] at cp
        have CP := Lib.hid cp; have HL := Lib.hid hl; clear hl cp
        go_wp2_with (first | ((with_reducible refine CP.out.mono ?_); rintro e w1 ⟨_, rfl, hb1, rfl⟩))
        go_ret
        exact ⟨_, rfl, hb.le hb1, by rw [HS.out, D1.out, idxFrom, HL.out]; rfl⟩
      | false =>
        have cp := HP.out _ hb x y HM.out
        rw [hl] at cp
        have CP := Lib.hid cp; have HL := Lib.hid hl; clear hl cp
        go_wp2_with (first | ((with_reducible refine CP.out.mono ?_); rintro e w1 ⟨_, rfl, hb1, rfl⟩))
        go_roundw
        case rel => exact IdxRel.next hb hb1 hlt D1.out HS.out HL.out
        case measure => simp [intOf]; omega
    · have HS := Lib.hid hs; clear hs
      go_wp2
      go_ret
      exact ⟨_, rfl, hb, by rw [HS.out, List.drop_of_length_le (by rw [← h.len]; omega)]; rfl⟩
end Go.Proofs.Ytjbakmmmgejhlaa

/-
  Which contexts and vectors are valid, which are compact; the counter of a replica in a vector: in the code.
-/
namespace Go.Proofs.Ytjbakmmmgejhlaa
open Go.RowKit

theorem enters52 : ∀ args w, (callFunc 52 args).run Try.prog w = .ok (.enter 52 args) w := enters_of Try.func52 (by kernel_rfl) rfl
theorem enters49 : ∀ args w, (callFunc 49 args).run Try.prog w = .ok (.enter 49 args) w := enters_of Try.func49 (by kernel_rfl) rfl
theorem enters71 : ∀ args w, (callFunc 71 args).run Try.prog w = .ok (.enter 71 args) w := enters_of Try.func71 (by kernel_rfl) rfl
theorem notvalid52 (x y : Int) (w : World) : Calls Try.prog 52 #[.agg #[.int .i64 x, .int .i64 y]] w (Ret w (IsB (!validD (x, y)))) := by
  have c := dvalid x y
  generalize validD (x, y) = v at *
  go_enter Try.func52, Try.ntmps52
  go_wp2_with (go_at_call 29; ((with_reducible refine (c _).mono ?_); rintro e w1 ⟨_, rfl, hb1, rfl⟩))
  go_ret
  exact retB rfl (((Below.refl _ _).alloc (Nat.le_refl _) _).le hb1)
theorem asks52 (l : List Dot) (w : World) : Asks w 52 #[] l (fun d => !validD d) := fun _ _ x y _ => notvalid52 x y _
theorem notvalid49 (x y : Int) (w : World) : Calls Try.prog 49 #[.agg #[.int .i64 x, .int .i64 y]] w (Ret w (IsB (!validD (x, y)))) := by
  have c := dvalid x y
  generalize validD (x, y) = v at *
  go_enter Try.func49, Try.ntmps49
  go_wp2_with (go_at_call 29; ((with_reducible refine (c _).mono ?_); rintro e w1 ⟨_, rfl, hb1, rfl⟩))
  go_ret
  exact retB rfl (((Below.refl _ _).alloc (Nat.le_refl _) _).le hb1)
theorem asks49 (l : List Dot) (w : World) : Asks w 49 #[] l (fun d => !validD d) := fun _ _ x y _ => notvalid49 x y _

def validL (l : List Dot) : Bool := l.all validD
theorem any_not (l : List Dot) : (!l.any fun d => !validD d) = validL l := by unfold validL; induction l with | nil => rfl | cons a t ih => simp [← ih]

theorem ccontains29 (g : Nat) (cb : Array Value) (p : Dot → Bool) (A : Option Addr) (n c : Nat) (l : List Dot) (w : World) (h : Dots w A n c l)
    (eg : ∀ args w, (callFunc g args).run Try.prog w = .ok (.enter g args) w) (hp : Asks w g cb l p) :
    Calls Try.prog 48 #[.slice A n c, .func (.func g) #[] cb] w (Ret w (IsB (l.any p))) := by
  have C := Lib.hid (cindex29 g cb p A n c l w h eg hp)
  have hx := idxFrom_any p l 0
  generalize idxFrom p 0 l = i at *
  generalize l.any p = r at *
  have HX := Lib.hid hx
  clear hx hp h eg
  go_enter Try.func48, Try.ntmps48
  go_wp2_with (go_at_call 64; ((with_reducible refine C.out.mono ?_); rintro e w1 ⟨_, rfl, hb1, rfl⟩))
  go_ret
  exact retB HX.out hb1
theorem ccontains28 (g : Nat) (cb : Array Value) (p : Dot → Bool) (A : Option Addr) (n c : Nat) (l : List Dot) (w : World) (h : Dots w A n c l)
    (eg : ∀ args w, (callFunc g args).run Try.prog w = .ok (.enter g args) w) (hp : Asks w g cb l p) :
    Calls Try.prog 51 #[.slice A n c, .func (.func g) #[] cb] w (Ret w (IsB (l.any p))) := by
  have C := Lib.hid (cindex28 g cb p A n c l w h eg hp)
  have hx := idxFrom_any p l 0
  generalize idxFrom p 0 l = i at *
  generalize l.any p = r at *
  have HX := Lib.hid hx
  clear hx hp h eg
  go_enter Try.func51, Try.ntmps51
  go_wp2_with (go_at_call 67; ((with_reducible refine C.out.mono ?_); rintro e w1 ⟨_, rfl, hb1, rfl⟩))
  go_ret
  exact retB HX.out hb1

theorem cvalidL (A : Option Addr) (n c : Nat) (l : List Dot) (w : World) (h : Dots w A n c l) : Calls Try.prog 35 #[.slice A n c] w (Ret w (IsB (validL l))) := by
  have C := Lib.hid (ccontains28 52 #[] _ A n c l w h enters52 (asks52 l w))
  rw [← any_not l]
  generalize (l.any fun d => !validD d) = r at *
  clear h
  go_enter Try.func35, Try.ntmps35
  go_wp2_with (go_at_call 51; ((with_reducible refine C.out.mono ?_); rintro e w1 ⟨_, rfl, hb1, rfl⟩))
  go_ret
  exact retB rfl hb1

/-- The counter of a replica, 0 if there is none. -/
def getV : List Dot → Int → Int
  | [], _ => 0
  | a :: t, r => if a.1 = r then a.2 else getV t r
theorem getV_idx (r : Int) : ∀ (l : List Dot) (k : Nat) (j : Nat), idxFrom (fun d => decide (d.1 = r)) k l = j → ∃ d, l[j - k]? = some d ∧ k ≤ j ∧ getV l r = d.2
  | [], k, j, h => by simp only [idxFrom] at h; omega
  | a :: t, k, j, h => by
    simp only [idxFrom] at h
    by_cases ha : a.1 = r
    · simp [ha] at h
      obtain rfl : k = j := Int.ofNat.inj h
      exact ⟨a, by simp, Nat.le_refl _, by simp [getV, ha]⟩
    · simp [ha] at h
      obtain ⟨d, h1, h2, h3⟩ := getV_idx r t (k + 1) j h
      refine ⟨d, ?_, by omega, by simp [getV, ha, h3]⟩
      obtain ⟨m, rfl⟩ : ∃ m, j = k + 1 + m := ⟨j - (k + 1), by omega⟩
      rw [show k + 1 + m - k = m + 1 by omega]
      simpa using h1
theorem getV_none (r : Int) : ∀ (l : List Dot) (k : Nat), idxFrom (fun d => decide (d.1 = r)) k l < 0 → getV l r = 0
  | [], _, _ => rfl
  | a :: t, k, h => by
    simp only [idxFrom] at h
    by_cases ha : a.1 = r
    · simp [ha] at h; exact absurd h (by omega)
    · simp [ha] at h
      simp [getV, ha, getV_none r t (k + 1) h]

theorem asksGet (r : Int) (b : Nat) (l : List Dot) (w : World) (hb : b < w.heap.size) (hc : w.cell? ⟨b, 0, none⟩ = some (.int .i64 r)) : Asks w 71 #[.pointer (some ⟨b, 0, none⟩)] l (fun d => decide (d.1 = r)) := by
  intro w' hw x y _
  have h1 : w'.cell? ⟨b, 0, none⟩ = some (.int .i64 r) := (hw.cell (p := ⟨b, 0, none⟩) hb).trans hc
  have hlt : b < w'.heap.size := Nat.lt_of_lt_of_le hb hw.size
  have e : decide (x = r) = (x == r) := by rw [Bool.eq_iff_iff]; simp
  show Calls Try.prog 71 #[.agg #[.int .i64 x, .int .i64 y], .pointer (some ⟨b, 0, none⟩)] w' (Ret w' (IsB (decide (x = r))))
  rw [e]; clear e hw hc
  go_enter Try.func71, Try.ntmps71
  go_wp2
  go_ret
  exact retB rfl (by go_grown)

theorem vget (A : Option Addr) (n c : Nat) (l : List Dot) (r : Int) (w : World) (h : Dots w A n c l) : Calls Try.prog 56 #[.slice A n c, .int .i64 r] w (Ret w (IsI (getV l r))) := by
  have hn := h.big
  have hb0 : Below w.heap.size w (w.alloc (.cells #[.int .i64 r] 3)) := (Below.refl _ _).alloc (Nat.le_refl _) _
  have C := Lib.hid (cindex29 71 #[.pointer (some ⟨w.heap.size, 0, none⟩)] _ A n c l (w.alloc (.cells #[.int .i64 r] 3)) (h.mono hb0) enters71 (asksGet r w.heap.size l _ (by simp) (by simp [go_sem])))
  have hbd := idxFrom_bd (fun d => decide (d.1 = r)) l 0
  by_cases hi : idxFrom (fun d => decide (d.1 = r)) 0 l < 0
  · have H0 := Lib.hid (getV_none r l 0 hi)
    generalize idxFrom (fun d => decide (d.1 = r)) 0 l = i at *
    clear h hbd
    go_enter Try.func56, Try.ntmps56
    go_wp2_with (go_at_call 64; ((with_reducible refine C.out.mono ?_); rintro e w1 ⟨_, rfl, hb1, rfl⟩))
    go_ret
    exact retI H0.out.symm (hb0.le hb1)
  · obtain ⟨j, hj⟩ : ∃ j : Nat, idxFrom (fun d => decide (d.1 = r)) 0 l = j := ⟨(idxFrom (fun d => decide (d.1 = r)) 0 l).toNat, by omega⟩
    rw [hj] at C hbd
    obtain ⟨⟨x, y⟩, h1, _, h3⟩ := getV_idx r l 0 j hj
    obtain ⟨b, o, rfl, hlt, c1, c2⟩ := h.cell _ _ h1
    have hjn : j < n := by have := h.len; omega
    have H1 := Lib.hid h1; have H3 := Lib.hid h3; have HJ := Lib.hid hj; have HL := Lib.hid hlt; have C2 := Lib.hid c2
    clear h h1 h3 hj hi hbd c1 hlt c2
    go_enter Try.func56, Try.ntmps56
    go_wp2_with (go_at_call 64; ((with_reducible refine C.out.mono ?_); rintro e w1 ⟨_, rfl, hb1, rfl⟩; have c3 : w1.cell? ⟨b, o + j * 2 + 1, none⟩ = some (.int .i64 y) := ((hb0.le hb1).cell (p := ⟨b, _, none⟩) HL.out).trans C2.out))
    go_ret
    exact retI H3.out.symm (hb0.le hb1)
end Go.Proofs.Ytjbakmmmgejhlaa

/-
  Are two lists of dots the same; is a dot in a list: in the code and in the reference.
-/
namespace Go.Proofs.Ytjbakmmmgejhlaa
open Go.RowKit

def eqL (a b : List Dot) : Bool := decide (a = b)
theorem eqL_iff {a b : List Dot} : eqL a b = true ↔ a = b := by unfold eqL; exact decide_eq_true_iff
def EqRel (w : World) (n : Nat) (la lb : List Dot) (i : Value) (wr : World) : Prop :=
  ∃ k : Nat, i = .int .i64 k ∧ k ≤ n ∧ Below w.heap.size w wr ∧ eqL la lb = eqL (la.drop k) (lb.drop k)
theorem EqRel.next {w w1 : World} {n k : Nat} {la lb : List Dot} (hb1 : Below w.heap.size w w1) (hk : k < n) {a b : Dot} (h1 : la.drop k = a :: la.drop (k + 1)) (h2 : lb.drop k = b :: lb.drop (k + 1))
    (hs : eqL la lb = eqL (la.drop k) (lb.drop k)) (hl : deq a b = true) : EqRel w n la lb (.int .i64 ((k : Int) + 1)) w1 :=
  ⟨k + 1, by simp, hk, hb1, by rw [hs, h1, h2, deq_iff.1 hl]; unfold eqL; simp⟩
theorem eqL_no {k : Nat} {la lb : List Dot} {a b : Dot} (h1 : la.drop k = a :: la.drop (k + 1)) (h2 : lb.drop k = b :: lb.drop (k + 1))
    (hs : eqL la lb = eqL (la.drop k) (lb.drop k)) (hl : deq a b = false) : eqL la lb = false := by
  rw [hs, h1, h2]; have := deq_not.1 hl; unfold eqL; simp [this]

set_option maxHeartbeats 1000000 in
theorem same43 (A B : Option Addr) (n m ca cb : Nat) (la lb : List Dot) (w : World) (ha : Dots w A n ca la) (hb : Dots w B m cb lb) :
    Calls Try.prog 43 #[.slice A n ca, .slice B m cb] w (Ret w (IsB (eqL la lb))) := by
  by_cases hnm : n = m
  · subst hnm
    have hn := ha.big
    have hne : ((n : Int) != (n : Int)) = false := by simp
    go_enter Try.func43, Try.ntmps43
    go_wp2
    go_loopw [13] (fun i wr => EqRel w n la lb i wr) (fun i _ => n - (intOf i).toNat)
    case atStart => exact ⟨0, rfl, by omega, Below.refl _ _, rfl⟩
    case round =>
      obtain ⟨k, rfl, hk, hbw, hs⟩ := hrel
      by_cases hlt : k < n
      · obtain ⟨b, o, x, y, rfl, -, -, d1, c1, c2⟩ := (ha.mono hbw).at_ (k := k) hlt
        obtain ⟨b', o', u, v, rfl, -, -, d2, c3, c4⟩ := (hb.mono hbw).at_ (k := k) hlt
        have D1 := Lib.hid d1; have D2 := Lib.hid d2; have HS := Lib.hid hs
        clear d1 d2 hs
        cases hl : deq (x, y) (u, v) with
        | true =>
          have HL := Lib.hid hl
          go_wp2
          go_quiet (fail)
          go_wp2
          go_roundw
          case rel => exact EqRel.next (hbw.drewN' _) hlt D1.out D2.out HS.out HL.out
          case measure => simp [intOf]; omega
        | false =>
          have HL := Lib.hid hl
          go_wp2
          go_quiet (fail)
          go_wp2
          go_ret
          exact retB (eqL_no D1.out D2.out HS.out HL.out).symm (hbw.drewN' _)
      · have HS := Lib.hid hs; clear hs
        go_wp2
        go_ret
        exact retB (by rw [HS.out, List.drop_of_length_le (by rw [← ha.len]; omega), List.drop_of_length_le (by rw [← hb.len]; omega)]; rfl) hbw
  · have hne : ((n : Int) != (m : Int)) = true := by simp; omega
    have HL := Lib.hid ha.len; have HM := Lib.hid hb.len
    clear ha hb
    go_enter Try.func43, Try.ntmps43
    go_wp2
    go_ret
    exact retB (by unfold eqL; symm; rw [decide_eq_false_iff_not]; rintro rfl; exact hnm (HL.out.trans HM.out.symm)) (Below.refl _ _)
set_option maxHeartbeats 1000000 in
theorem same44 (A B : Option Addr) (n m ca cb : Nat) (la lb : List Dot) (w : World) (ha : Dots w A n ca la) (hb : Dots w B m cb lb) :
    Calls Try.prog 44 #[.slice A n ca, .slice B m cb] w (Ret w (IsB (eqL la lb))) := by
  by_cases hnm : n = m
  · subst hnm
    have hn := ha.big
    have hne : ((n : Int) != (n : Int)) = false := by simp
    go_enter Try.func44, Try.ntmps44
    go_wp2
    go_loopw [13] (fun i wr => EqRel w n la lb i wr) (fun i _ => n - (intOf i).toNat)
    case atStart => exact ⟨0, rfl, by omega, Below.refl _ _, rfl⟩
    case round =>
      obtain ⟨k, rfl, hk, hbw, hs⟩ := hrel
      by_cases hlt : k < n
      · obtain ⟨b, o, x, y, rfl, -, -, d1, c1, c2⟩ := (ha.mono hbw).at_ (k := k) hlt
        obtain ⟨b', o', u, v, rfl, -, -, d2, c3, c4⟩ := (hb.mono hbw).at_ (k := k) hlt
        have D1 := Lib.hid d1; have D2 := Lib.hid d2; have HS := Lib.hid hs
        clear d1 d2 hs
        cases hl : deq (x, y) (u, v) with
        | true =>
          have HL := Lib.hid hl
          go_wp2
          go_quiet (fail)
          go_wp2
          go_roundw
          case rel => exact EqRel.next (hbw.drewN' _) hlt D1.out D2.out HS.out HL.out
          case measure => simp [intOf]; omega
        | false =>
          have HL := Lib.hid hl
          go_wp2
          go_quiet (fail)
          go_wp2
          go_ret
          exact retB (eqL_no D1.out D2.out HS.out HL.out).symm (hbw.drewN' _)
      · have HS := Lib.hid hs; clear hs
        go_wp2
        go_ret
        exact retB (by rw [HS.out, List.drop_of_length_le (by rw [← ha.len]; omega), List.drop_of_length_le (by rw [← hb.len]; omega)]; rfl) hbw
  · have hne : ((n : Int) != (m : Int)) = true := by simp; omega
    have HL := Lib.hid ha.len; have HM := Lib.hid hb.len
    clear ha hb
    go_enter Try.func44, Try.ntmps44
    go_wp2
    go_ret
    exact retB (by unfold eqL; symm; rw [decide_eq_false_iff_not]; rintro rfl; exact hnm (HL.out.trans HM.out.symm)) (Below.refl _ _)

def memD (d : Dot) (l : List Dot) : Bool := l.any fun a => deq d a
theorem memD_iff {d : Dot} {l : List Dot} : memD d l = true ↔ d ∈ l := by
  unfold memD; rw [List.any_eq_true]
  constructor
  · rintro ⟨a, ha, h⟩; rw [deq_iff.1 h]; exact ha
  · intro h; exact ⟨d, h, deq_iff.2 rfl⟩
theorem memD_cons (d a : Dot) (l : List Dot) : memD d (a :: l) = (deq d a || memD d l) := by simp [memD]
theorem deq_comm (a b : Dot) : deq a b = deq b a := by rw [Bool.eq_iff_iff, deq_iff, deq_iff]; exact eq_comm

set_option maxHeartbeats 1000000 in
theorem cindexD (x y : Int) (A : Option Addr) (n c : Nat) (l : List Dot) (w : World) (h : Dots w A n c l) :
    Calls Try.prog 73 #[.slice A n c, .agg #[.int .i64 x, .int .i64 y]] w (Ret w (IsI (idxFrom (fun a => deq (x, y) a) 0 l))) := by
  have hn := h.big
  have hb0 : Below w.heap.size w (w.alloc (.cells #[.int .i64 x, .int .i64 y] 27)) := (Below.refl _ _).alloc (Nat.le_refl _) _
  go_enter Try.func73, Try.ntmps73
  go_wp2
  go_loopw [8] (fun i wr => IdxRel (w.alloc (.cells #[.int .i64 x, .int .i64 y] 27)) n l (fun a => deq (x, y) a) i wr) (fun i _ => n - (intOf i).toNat)
  case atStart => exact ⟨0, rfl, by omega, Below.refl _ _, by simp⟩
  case round =>
    obtain ⟨k, rfl, hk, hb, hs⟩ := hrel
    have b1 : wr.cell? ⟨w.heap.size, 0, none⟩ = some (.int .i64 x) := (hb.cell (p := ⟨w.heap.size, 0, none⟩) (by simp)).trans (by simp [go_sem])
    have b2 : wr.cell? ⟨w.heap.size, 1, none⟩ = some (.int .i64 y) := (hb.cell (p := ⟨w.heap.size, 1, none⟩) (by simp)).trans (by simp [go_sem])
    by_cases hlt : k < n
    · obtain ⟨b, o, u, v, rfl, hbk, -, d1, c1, c2⟩ := (h.mono (hb0.le hb)).at_ (k := k) hlt
      have D1 := Lib.hid d1; have HS := Lib.hid hs
      clear d1 hs
      cases hl : deq (x, y) (u, v) with
      | true =>
        have HL := Lib.hid hl
        go_wp2
        go_quiet (fail)
        go_wp2
        go_ret
        exact ⟨_, rfl, (hb0.le hb).drewN' _, by rw [HS.out, D1.out, idxFrom, HL.out]; rfl⟩
      | false =>
        have HL := Lib.hid hl
        go_wp2
        go_quiet (fail)
        go_wp2
        go_roundw
        case rel => exact IdxRel.next (hb.drewN' _) (Below.refl _ _) hlt D1.out HS.out HL.out
        case measure => simp [intOf]; omega
    · have HS := Lib.hid hs; clear hs
      go_wp2
      go_ret
      exact ⟨_, rfl, hb0.le hb, by rw [HS.out, List.drop_of_length_le (by rw [← h.len]; omega)]; rfl⟩
theorem ccontainsD (x y : Int) (A : Option Addr) (n c : Nat) (l : List Dot) (w : World) (h : Dots w A n c l) :
    Calls Try.prog 61 #[.slice A n c, .agg #[.int .i64 x, .int .i64 y]] w (Ret w (IsB (memD (x, y) l))) := by
  have hb0 : Below w.heap.size w (w.alloc (.cells #[.int .i64 x, .int .i64 y] 27)) := (Below.refl _ _).alloc (Nat.le_refl _) _
  have C := Lib.hid (cindexD x y A n c l _ (h.mono hb0))
  have hx := idxFrom_any (fun a => deq (x, y) a) l 0
  unfold memD
  generalize idxFrom (fun a => deq (x, y) a) 0 l = i at *
  generalize (l.any fun a => deq (x, y) a) = r at *
  have HX := Lib.hid hx
  clear hx h
  go_enter Try.func61, Try.ntmps61
  go_wp2_with (go_at_call 73; ((with_reducible refine C.out.mono ?_); rintro e w1 ⟨_, rfl, hb1, rfl⟩))
  go_ret
  exact retB HX.out (hb0.le hb1)
theorem dhas (x y : Int) (A : Option Addr) (n c : Nat) (l : List Dot) (w : World) (h : Dots w A n c l) :
    Calls Try.prog 41 #[.slice A n c, .agg #[.int .i64 x, .int .i64 y]] w (Ret w (IsB (memD (x, y) l))) := by
  have hb0 : Below w.heap.size w (w.alloc (.cells #[.int .i64 x, .int .i64 y] 27)) := (Below.refl _ _).alloc (Nat.le_refl _) _
  have C := Lib.hid (ccontainsD x y A n c l _ (h.mono hb0))
  generalize memD (x, y) l = r at *
  clear h
  go_enter Try.func41, Try.ntmps41
  go_wp2_with (go_at_call 61; ((with_reducible refine C.out.mono ?_); rintro e w1 ⟨_, rfl, hb1, rfl⟩))
  go_ret
  exact retB rfl (hb0.le hb1)

def MemRel (w : World) (n : Nat) (l : List Dot) (d : Dot) (i : Value) (wr : World) : Prop :=
  ∃ k : Nat, i = .int .i64 k ∧ k ≤ n ∧ Below w.heap.size w wr ∧ memD d l = memD d (l.drop k)
end Go.Proofs.Ytjbakmmmgejhlaa
