/-
  The dots' own functions, in the code and in the reference: valid, before, compare.
-/
import Derived.Test.YtphhhnjeojdnkaaGreatDoorSPAA
import Derived.Shelf.SlSortCmp.WholeK
import Derived.Laws.OwnMore
import Derived.Test.YtphhhnjeojdnkaaGreatDoorProg
import Derived.Shelf.Lay
import Derived.Shelf.LaySoft
import Derived.Ground.SlsfProg
set_option linter.unusedSectionVars false
set_option linter.unusedVariables false
set_option linter.unusedSimpArgs false
set_option maxRecDepth 100000
set_option maxHeartbeats 8000000
namespace Go.Proofs.YtphhhnjeojdnkaaGreatDoor
open Go.RowKit
def validD (d : Dot) : Bool := decide (1 <= d.1 ∧ d.1 <= 65535 ∧ 1 <= d.2 ∧ d.2 <= 4294967295)
def lessD (a b : Dot) : Bool := if a.2 = b.2 then decide (a.1 < b.1) else decide (a.2 < b.2)
theorem validD_iff {d : Dot} : validD d = true ↔ 1 <= d.1 ∧ d.1 <= 65535 ∧ 1 <= d.2 ∧ d.2 <= 4294967295 := by unfold validD; exact decide_eq_true_iff
theorem lessD_iff {a b : Dot} : lessD a b = true ↔ a.2 < b.2 ∨ (a.2 = b.2 ∧ a.1 < b.1) := by unfold lessD; split <;> simp <;> omega
def cmpI (a b : Int) : Int := if a < b then -1 else if b < a then 1 else 0
def cmpD (a b : Dot) : Int := if cmpI a.2 b.2 = 0 then cmpI a.1 b.1 else cmpI a.2 b.2
theorem cmpD_lt {a b : Dot} : cmpD a b < 0 ↔ lessD a b = true := by
  rw [lessD_iff]; unfold cmpD cmpI
  split <;> split <;> (try split) <;> omega
theorem retB {w w' : World} {b b' : Bool} (e : b = b') (hb : Below w.heap.size w w') : Ret w (IsB b') (.returned (.bool b)) w' := ⟨_, rfl, hb, by rw [e]; rfl⟩
theorem retI {w w' : World} {b b' : Int} (e : b = b') (hb : Below w.heap.size w w') : Ret w (IsI b') (.returned (.int .i64 b)) w' := ⟨_, rfl, hb, by rw [e]; rfl⟩
theorem rvalid (x y : Int) (w : World) : Calls Tryz.prog 79 #[.agg #[.int .i64 x, .int .i64 y]] w (Ret w (IsB (validD (x, y)))) := by
  go_enter Tryz.func79, Tryz.ntmps79
  go_wp2
  all_goals
    go_ret
    exact retB (by rw [Bool.eq_iff_iff]; simp [validD]; try omega) (by go_grown)
theorem dvalid (x y : Int) (w : World) : Calls Tryz.prog 97 #[.agg #[.int .i64 x, .int .i64 y]] w (Ret w (IsB (validD (x, y)))) := by
  go_enter Tryz.func97, Tryz.ntmps97
  go_wp2
  all_goals
    go_ret
    exact retB (by rw [Bool.eq_iff_iff]; simp [validD]; try omega) (by go_grown)
theorem rless (a b x y : Int) (w : World) : Calls Tryz.prog 199 #[.agg #[.int .i64 a, .int .i64 b], .agg #[.int .i64 x, .int .i64 y]] w (Ret w (IsB (lessD (a, b) (x, y)))) := by
  by_cases h : b = y
  · subst h
    go_enter Tryz.func199, Tryz.ntmps199
    go_wp2
    go_ret
    exact retB (by simp [lessD]) (by go_grown)
  · have hne : (b != y) = true := by simpa using h
    go_enter Tryz.func199, Tryz.ntmps199
    go_wp2
    go_ret
    exact retB (by simp [lessD, h]) (by go_grown)
theorem ccompare (a b : Int) (w : World) : Calls Tryz.prog 187 #[.int .i64 a, .int .i64 b] w fun e w' => e = .returned (.int .i64 (cmpI a b)) ∧ w = w' := by
  go_enter Tryz.func187, Tryz.ntmps187
  go_wp2
  all_goals
    go_ret
    exact ⟨by rw [cmpI]; simp only [*]; simp <;> omega, rfl⟩
end Go.Proofs.YtphhhnjeojdnkaaGreatDoor

namespace Go.Proofs.YtphhhnjeojdnkaaGreatDoor
open Go.RowKit
def orI (x y : Int) : Int := if x = 0 then y else x
theorem cor2 (x y : Int) (b : Nat) (w : World) (h1 : w.cell? ⟨b, 0, none⟩ = some (.int .i64 x)) (h2 : w.cell? ⟨b, 1, none⟩ = some (.int .i64 y)) :
    Calls Tryz.prog 185 #[.slice (some ⟨b, 0, none⟩) 2 2] w fun e w' => e = .returned (.int .i64 (orI x y)) ∧ w = w' := by
  by_cases hx : x = 0
  · subst hx
    by_cases hy : y = 0
    · subst hy
      go_enter Tryz.func185, Tryz.ntmps185
      go_wp2
      go_rounds 3
      go_ret
      exact ⟨rfl, rfl⟩
    · have hne : (y != 0) = true := by simpa using hy
      go_enter Tryz.func185, Tryz.ntmps185
      go_wp2
      go_rounds 3
      go_ret
      exact ⟨rfl, rfl⟩
  · have hne : (x != 0) = true := by simpa using hx
    go_enter Tryz.func185, Tryz.ntmps185
    go_wp2
    go_rounds 3
    go_ret
    exact ⟨by simp [orI, hx], rfl⟩
theorem orI_cmp (a b : Dot) : orI (cmpI a.2 b.2) (cmpI a.1 b.1) = cmpD a b := rfl
theorem dcompare (a b x y : Int) (w : World) : Calls Tryz.prog 177 #[.agg #[.int .i64 a, .int .i64 b], .agg #[.int .i64 x, .int .i64 y]] w (Ret w (IsI (cmpD (a, b) (x, y)))) := by
  have e := orI_cmp (a, b) (x, y)
  generalize cmpD (a, b) (x, y) = r at *
  generalize hp : cmpI (a, b).2 (x, y).2 = p at *
  generalize hq : cmpI (a, b).1 (x, y).1 = q at *
  have E := Lib.hid e; clear e
  have c1 := fun w => ccompare b y w
  have c2 := fun w => ccompare a x w
  simp only at hp hq
  rw [hp] at c1; rw [hq] at c2
  clear hp hq
  go_enter Tryz.func177, Tryz.ntmps177
  go_wp2_with fail
  go_region_held3 (fun w' => w'.cell? ⟨w.heap.size, 0, none⟩ = some (.int .i64 a) ∧ w'.cell? ⟨w.heap.size, 1, none⟩ = some (.int .i64 b) ∧ w'.cell? ⟨w.heap.size + 1, 0, none⟩ = some (.int .i64 x) ∧ w'.cell? ⟨w.heap.size + 1, 1, none⟩ = some (.int .i64 y)) (simp [go_sem, World.cell?_alloc_past])
    (first
      | (go_at_call 187; ((with_reducible refine (c1 _).mono ?_); rintro e w' ⟨rfl, rfl⟩))
      | (go_at_call 187; ((with_reducible refine (c2 _).mono ?_); rintro e w' ⟨rfl, rfl⟩))
      | (go_at_call 185; ((with_reducible refine (cor2 p q _ _ (by simp [go_sem]) (by simp [go_sem])).mono ?_); rintro e w' ⟨rfl, rfl⟩)))
  go_wp2
  go_ret
  rw [E.out]
  exact retI rfl (by go_grown)
end Go.Proofs.YtphhhnjeojdnkaaGreatDoor

namespace Go.Proofs.YtphhhnjeojdnkaaGreatDoor
open Go.RowKit
def isSet : List Dot -> Bool
  | a :: b :: t => lessD a b && isSet (b :: t)
  | _ => true
theorem isSet_short {l : List Dot} (h : l.length <= 1) : isSet l = true := by
  match l, h with
  | [], _ => rfl
  | [a], _ => rfl
def SetRel (w : World) (n : Nat) (l : List Dot) (i : Value) (wr : World) : Prop :=
  ∃ k : Nat, i = .int .i64 (k + 1 : Nat) ∧ (k < n ∨ k = 0) ∧ Below w.heap.size w wr ∧ isSet l = isSet (l.drop k)
theorem SetRel.next {w wr w1 : World} {n k : Nat} {l : List Dot} (hb : Below w.heap.size w wr) (hb1 : Below wr.heap.size wr w1) (hk : k + 1 < n) {a b : Dot} {t : List Dot} (h1 : l.drop k = a :: l.drop (k + 1)) (h2 : l.drop (k + 1) = b :: t)
    (hs : isSet l = isSet (l.drop k)) (hl : lessD a b = true) : SetRel w n l (.int .i64 ((k : Int) + 1 + 1)) w1 :=
  ⟨k + 1, by simp, .inl hk, hb.le hb1, by rw [hs, h1, h2, isSet, hl, Bool.true_and]⟩
theorem set_no {l : List Dot} {k : Nat} {a b : Dot} {t : List Dot} (h1 : l.drop k = a :: l.drop (k + 1)) (h2 : l.drop (k + 1) = b :: t) (hs : isSet l = isSet (l.drop k)) (hl : lessD a b = false) : isSet l = false := by
  rw [hs, h1, h2, isSet, hl, Bool.false_and]
theorem risset (A : Option Addr) (n c : Nat) (l : List Dot) (w : World) (h : Dots w A n c l) : Calls Tryz.prog 194 #[.slice A n c] w (Ret w (IsB (isSet l))) := by
  have hn := h.big
  go_enter Tryz.func194, Tryz.ntmps194
  go_wp2
  go_loopw [3] (fun i wr => SetRel w n l i wr) (fun i _ => n + 1 - (intOf i).toNat)
  case atStart => exact ⟨0, rfl, .inr rfl, Below.refl _ _, rfl⟩
  case round =>
    obtain ⟨k, rfl, hk, hb, hs⟩ := hrel
    by_cases hlt : k + 1 < n
    · have hr := h.mono hb
      obtain ⟨b, o, x, y, rfl, hbk, -, d1, c1, c2⟩ := hr.at_ (k := k) (by omega)
      obtain ⟨b', o', u, v, e', -, -, d2, c3, c4⟩ := hr.at_ (k := k + 1) hlt
      obtain ⟨rfl, rfl⟩ : b = b' ∧ o = o' := by simpa using e'
      clear e'
      have ew : IntKind.i64.wrap (k : Int) = k := IntWalk.i64_in _ (by omega)
      have g1 : (k : Int) + 1 < n := by omega
      have g2 : (0 : Int) <= (k : Int) + 1 := by omega
      have g3 : ((k : Int) + 1).toNat = k + 1 := by omega
      have g4 : (k : Int) < n := by omega
      have D1 := Lib.hid d1; have D2 := Lib.hid d2; have HS := Lib.hid hs
      clear d1 d2 hs
      cases hl : lessD (x, y) (u, v) with
      | true =>
        have cl := rless x y u v
        rw [hl] at cl
        have HL := Lib.hid hl; clear hl
        go_wp2_with fail
        go_region_held3 (fun w' => w'.cell? ⟨b, o + k * 2, none⟩ = some (.int .i64 x) ∧ w'.cell? ⟨b, o + k * 2 + 1, none⟩ = some (.int .i64 y) ∧ w'.cell? ⟨b, o + (k + 1) * 2, none⟩ = some (.int .i64 u) ∧ w'.cell? ⟨b, o + (k + 1) * 2 + 1, none⟩ = some (.int .i64 v)) (first | exact ⟨c1, c2, c3, c4⟩ | (refine bcells4 ?_ hbk ⟨c1, c2, c3, c4⟩; assumption))
          (first | (go_at_call 199; ((with_reducible refine (cl _).mono ?_); rintro e w1 ⟨_, rfl, hb1, rfl⟩; replace hb1 := hb1.ofDrew)))
        go_wp2
        go_roundw
        case rel => exact SetRel.next hb hb1 hlt D1.out D2.out HS.out HL.out
        case measure => simp [intOf]; omega
      | false =>
        have cl := rless x y u v
        rw [hl] at cl
        have HL := Lib.hid hl; clear hl
        go_wp2_with fail
        go_region_held3 (fun w' => w'.cell? ⟨b, o + k * 2, none⟩ = some (.int .i64 x) ∧ w'.cell? ⟨b, o + k * 2 + 1, none⟩ = some (.int .i64 y) ∧ w'.cell? ⟨b, o + (k + 1) * 2, none⟩ = some (.int .i64 u) ∧ w'.cell? ⟨b, o + (k + 1) * 2 + 1, none⟩ = some (.int .i64 v)) (first | exact ⟨c1, c2, c3, c4⟩ | (refine bcells4 ?_ hbk ⟨c1, c2, c3, c4⟩; assumption))
          (first | (go_at_call 199; ((with_reducible refine (cl _).mono ?_); rintro e w1 ⟨_, rfl, hb1, rfl⟩; replace hb1 := hb1.ofDrew)))
        go_wp2
        go_ret
        exact retB (set_no D1.out D2.out HS.out HL.out).symm (hb.le hb1)
    · have e := isSet_short (l := l.drop k) (by rw [List.length_drop, <- h.len]; omega)
      have HE := Lib.hid (hs.trans e)
      clear e hs
      go_wp2
      go_ret
      exact retB HE.out.symm hb
end Go.Proofs.YtphhhnjeojdnkaaGreatDoor

namespace Go.Proofs.YtphhhnjeojdnkaaGreatDoor
open Go.RowKit
def idxFrom (p : Dot -> Bool) : Nat -> List Dot -> Int
  | _, [] => -1
  | k, a :: t => if p a then k else idxFrom p (k + 1) t
theorem idxFrom_any (p : Dot -> Bool) : ∀ (l : List Dot) (k : Nat), decide (0 <= idxFrom p k l) = l.any p
  | [], _ => rfl
  | a :: t, k => by
    simp only [idxFrom, List.any_cons]
    by_cases h : p a = true
    · simp [h]
    · simpa [h] using idxFrom_any p t (k + 1)
theorem idxFrom_bd (p : Dot -> Bool) : ∀ (l : List Dot) (k : Nat), -1 <= idxFrom p k l ∧ idxFrom p k l < k + l.length
  | [], k => by simp [idxFrom]; omega
  | a :: t, k => by
    have := idxFrom_bd p t (k + 1)
    simp only [idxFrom]
    split <;> simp <;> omega
def Asks (w : World) (g : Nat) (cb : Array Value) (l : List Dot) (p : Dot -> Bool) : Prop :=
  ∀ w', Below w.heap.size w w' -> ∀ x y, (x, y) ∈ l -> Calls Tryz.prog g (#[.agg #[.int .i64 x, .int .i64 y]] ++ cb) w' (Ret w' (IsB (p (x, y))))
def IdxRel (w : World) (n : Nat) (l : List Dot) (p : Dot -> Bool) (i : Value) (wr : World) : Prop :=
  ∃ k : Nat, i = .int .i64 k ∧ k <= n ∧ Below w.heap.size w wr ∧ idxFrom p 0 l = idxFrom p k (l.drop k)
theorem IdxRel.next {w wr w1 : World} {n k : Nat} {l : List Dot} {p : Dot -> Bool} (hb : Below w.heap.size w wr) (hb1 : Below wr.heap.size wr w1) (hk : k < n) {a : Dot} (h1 : l.drop k = a :: l.drop (k + 1))
    (hs : idxFrom p 0 l = idxFrom p k (l.drop k)) (hl : p a = false) : IdxRel w n l p (.int .i64 ((k : Int) + 1)) w1 :=
  ⟨k + 1, by simp, hk, hb.le hb1, by rw [hs, h1, idxFrom, hl]; rfl⟩
theorem cindex58 (g : Nat) (cb : Array Value) (p : Dot -> Bool) (A : Option Addr) (n c : Nat) (l : List Dot) (w : World) (h : Dots w A n c l)
    (eg : ∀ args w, (callFunc g args).run Tryz.prog w = .ok (.enter g args) w) (hp : Asks w g cb l p) :
    Calls Tryz.prog 213 #[.slice A n c, .func (.func g) #[] cb] w (Ret w (IsI (idxFrom p 0 l))) := by
  have hn := h.big
  have HP := Lib.hid hp; clear hp
  go_enter Tryz.func213, Tryz.ntmps213
  go_wp2
  go_loopw [8] (fun i wr => IdxRel w n l p i wr) (fun i _ => n - (intOf i).toNat)
  case atStart => exact ⟨0, rfl, by omega, Below.refl _ _, by simp⟩
  case round =>
    obtain ⟨k, rfl, hk, hb, hs⟩ := hrel
    by_cases hlt : k < n
    · obtain ⟨b, o, x, y, rfl, hbk, hm, d1, c1, c2⟩ := (h.mono hb).at_ (k := k) hlt
      have D1 := Lib.hid d1; have HS := Lib.hid hs
      have HM := Lib.hid (List.mem_of_getElem? hm)
      clear d1 hs hm
      cases hl : p (x, y) with
      | true =>
        have cp := HP.out _ hb x y HM.out
        rw [hl] at cp
        have CP := Lib.hid cp; have HL := Lib.hid hl; clear hl cp
        go_wp2_with (first | ((with_reducible refine CP.out.mono ?_); rintro e w1 ⟨_, rfl, hb1, rfl⟩))
        go_ret
        exact ⟨_, rfl, hb.le hb1, by rw [HS.out, D1.out, idxFrom, HL.out]; rfl⟩
      | false =>
        have cp := HP.out _ hb x y HM.out
        rw [hl] at cp
        have CP := Lib.hid cp; have HL := Lib.hid hl; clear hl cp
        go_wp2_with (first | ((with_reducible refine CP.out.mono ?_); rintro e w1 ⟨_, rfl, hb1, rfl⟩))
        go_roundw
        case rel => exact IdxRel.next hb hb1 hlt D1.out HS.out HL.out
        case measure => simp [intOf]; omega
    · have HS := Lib.hid hs; clear hs
      go_wp2
      go_ret
      exact ⟨_, rfl, hb, by rw [HS.out, List.drop_of_length_le (by rw [<- h.len]; omega)]; rfl⟩
theorem cindex57 (g : Nat) (cb : Array Value) (p : Dot -> Bool) (A : Option Addr) (n c : Nat) (l : List Dot) (w : World) (h : Dots w A n c l)
    (eg : ∀ args w, (callFunc g args).run Tryz.prog w = .ok (.enter g args) w) (hp : Asks w g cb l p) :
    Calls Tryz.prog 217 #[.slice A n c, .func (.func g) #[] cb] w (Ret w (IsI (idxFrom p 0 l))) := by
  have hn := h.big
  have HP := Lib.hid hp; clear hp
  go_enter Tryz.func217, Tryz.ntmps217
  go_wp2
  go_loopw [8] (fun i wr => IdxRel w n l p i wr) (fun i _ => n - (intOf i).toNat)
  case atStart => exact ⟨0, rfl, by omega, Below.refl _ _, by simp⟩
  case round =>
    obtain ⟨k, rfl, hk, hb, hs⟩ := hrel
    by_cases hlt : k < n
    · obtain ⟨b, o, x, y, rfl, hbk, hm, d1, c1, c2⟩ := (h.mono hb).at_ (k := k) hlt
      have D1 := Lib.hid d1; have HS := Lib.hid hs
      have HM := Lib.hid (List.mem_of_getElem? hm)
      clear d1 hs hm
      cases hl : p (x, y) with
      | true =>
        have cp := HP.out _ hb x y HM.out
        rw [hl] at cp
        have CP := Lib.hid cp; have HL := Lib.hid hl; clear hl cp
        go_wp2_with (first | ((with_reducible refine CP.out.mono ?_); rintro e w1 ⟨_, rfl, hb1, rfl⟩))
        go_ret
        exact ⟨_, rfl, hb.le hb1, by rw [HS.out, D1.out, idxFrom, HL.out]; rfl⟩
      | false =>
        have cp := HP.out _ hb x y HM.out
        rw [hl] at cp
        have CP := Lib.hid cp; have HL := Lib.hid hl; clear hl cp
        go_wp2_with (first | ((with_reducible refine CP.out.mono ?_); rintro e w1 ⟨_, rfl, hb1, rfl⟩))
        go_roundw
        case rel => exact IdxRel.next hb hb1 hlt D1.out HS.out HL.out
        case measure => simp [intOf]; omega
    · have HS := Lib.hid hs; clear hs
      go_wp2
      go_ret
      exact ⟨_, rfl, hb, by rw [HS.out, List.drop_of_length_le (by rw [<- h.len]; omega)]; rfl⟩
end Go.Proofs.YtphhhnjeojdnkaaGreatDoor

namespace Go.Proofs.YtphhhnjeojdnkaaGreatDoor
open Go.RowKit
theorem enters227 : ∀ args w, (callFunc 227 args).run Tryz.prog w = .ok (.enter 227 args) w := enters_of Tryz.func227 (by kernel_rfl) rfl
theorem enters243 : ∀ args w, (callFunc 243 args).run Tryz.prog w = .ok (.enter 243 args) w := enters_of Tryz.func243 (by kernel_rfl) rfl
theorem enters214 : ∀ args w, (callFunc 214 args).run Tryz.prog w = .ok (.enter 214 args) w := enters_of Tryz.func214 (by kernel_rfl) rfl
theorem enters168 : ∀ args w, (callFunc 168 args).run Tryz.prog w = .ok (.enter 168 args) w := enters_of Tryz.func168 (by kernel_rfl) rfl
theorem notvalid227 (x y : Int) (w : World) : Calls Tryz.prog 227 #[.agg #[.int .i64 x, .int .i64 y]] w (Ret w (IsB (!validD (x, y)))) := by
  have c := dvalid x y
  generalize validD (x, y) = v at *
  go_enter Tryz.func227, Tryz.ntmps227
  go_wp2_with (go_at_call 97; ((with_reducible refine (c _).mono ?_); rintro e w1 ⟨_, rfl, hb1, rfl⟩))
  go_ret
  exact retB rfl (((Below.refl _ _).alloc (Nat.le_refl _) _).le hb1)
theorem asks227 (l : List Dot) (w : World) : Asks w 227 #[] l (fun d => !validD d) := fun _ _ x y _ => notvalid227 x y _
theorem notvalid243 (x y : Int) (w : World) : Calls Tryz.prog 243 #[.agg #[.int .i64 x, .int .i64 y]] w (Ret w (IsB (!validD (x, y)))) := by
  have c := dvalid x y
  generalize validD (x, y) = v at *
  go_enter Tryz.func243, Tryz.ntmps243
  go_wp2_with (go_at_call 97; ((with_reducible refine (c _).mono ?_); rintro e w1 ⟨_, rfl, hb1, rfl⟩))
  go_ret
  exact retB rfl (((Below.refl _ _).alloc (Nat.le_refl _) _).le hb1)
theorem asks243 (l : List Dot) (w : World) : Asks w 243 #[] l (fun d => !validD d) := fun _ _ x y _ => notvalid243 x y _
def validL (l : List Dot) : Bool := l.all validD
theorem any_not (l : List Dot) : (!l.any fun d => !validD d) = validL l := by unfold validL; induction l with | nil => rfl | cons a t ih => simp [<- ih]
theorem ccontains58 (g : Nat) (cb : Array Value) (p : Dot -> Bool) (A : Option Addr) (n c : Nat) (l : List Dot) (w : World) (h : Dots w A n c l)
    (eg : ∀ args w, (callFunc g args).run Tryz.prog w = .ok (.enter g args) w) (hp : Asks w g cb l p) :
    Calls Tryz.prog 242 #[.slice A n c, .func (.func g) #[] cb] w (Ret w (IsB (l.any p))) := by
  have C := Lib.hid (cindex58 g cb p A n c l w h eg hp)
  have hx := idxFrom_any p l 0
  generalize idxFrom p 0 l = i at *
  generalize l.any p = r at *
  have HX := Lib.hid hx
  clear hx hp h eg
  go_enter Tryz.func242, Tryz.ntmps242
  go_wp2_with (go_at_call 213; ((with_reducible refine C.out.mono ?_); rintro e w1 ⟨_, rfl, hb1, rfl⟩))
  go_ret
  exact retB HX.out hb1
theorem ccontains57 (g : Nat) (cb : Array Value) (p : Dot -> Bool) (A : Option Addr) (n c : Nat) (l : List Dot) (w : World) (h : Dots w A n c l)
    (eg : ∀ args w, (callFunc g args).run Tryz.prog w = .ok (.enter g args) w) (hp : Asks w g cb l p) :
    Calls Tryz.prog 171 #[.slice A n c, .func (.func g) #[] cb] w (Ret w (IsB (l.any p))) := by
  have C := Lib.hid (cindex57 g cb p A n c l w h eg hp)
  have hx := idxFrom_any p l 0
  generalize idxFrom p 0 l = i at *
  generalize l.any p = r at *
  have HX := Lib.hid hx
  clear hx hp h eg
  go_enter Tryz.func171, Tryz.ntmps171
  go_wp2_with (go_at_call 217; ((with_reducible refine C.out.mono ?_); rintro e w1 ⟨_, rfl, hb1, rfl⟩))
  go_ret
  exact retB HX.out hb1
theorem cvalidL (A : Option Addr) (n c : Nat) (l : List Dot) (w : World) (h : Dots w A n c l) : Calls Tryz.prog 188 #[.slice A n c] w (Ret w (IsB (validL l))) := by
  have C := Lib.hid (ccontains57 227 #[] _ A n c l w h enters227 (asks227 l w))
  rw [<- any_not l]
  generalize (l.any fun d => !validD d) = r at *
  clear h
  go_enter Tryz.func188, Tryz.ntmps188
  go_wp2_with (go_at_call 171; ((with_reducible refine C.out.mono ?_); rintro e w1 ⟨_, rfl, hb1, rfl⟩))
  go_ret
  exact retB rfl hb1
def getV : List Dot -> Int -> Int
  | [], _ => 0
  | a :: t, r => if a.1 = r then a.2 else getV t r
theorem getV_idx (r : Int) : ∀ (l : List Dot) (k : Nat) (j : Nat), idxFrom (fun d => decide (d.1 = r)) k l = j -> ∃ d, l[j - k]? = some d ∧ k <= j ∧ getV l r = d.2
  | [], k, j, h => by simp only [idxFrom] at h; omega
  | a :: t, k, j, h => by
    simp only [idxFrom] at h
    by_cases ha : a.1 = r
    · simp [ha] at h
      obtain rfl : k = j := Int.ofNat.inj h
      exact ⟨a, by simp, Nat.le_refl _, by simp [getV, ha]⟩
    · simp [ha] at h
      obtain ⟨d, h1, h2, h3⟩ := getV_idx r t (k + 1) j h
      refine ⟨d, ?_, by omega, by simp [getV, ha, h3]⟩
      obtain ⟨m, rfl⟩ : ∃ m, j = k + 1 + m := ⟨j - (k + 1), by omega⟩
      rw [show k + 1 + m - k = m + 1 by omega]
      simpa using h1
theorem getV_none (r : Int) : ∀ (l : List Dot) (k : Nat), idxFrom (fun d => decide (d.1 = r)) k l < 0 -> getV l r = 0
  | [], _, _ => rfl
  | a :: t, k, h => by
    simp only [idxFrom] at h
    by_cases ha : a.1 = r
    · simp [ha] at h; exact absurd h (by omega)
    · simp [ha] at h
      simp [getV, ha, getV_none r t (k + 1) h]
theorem asksGet (r : Int) (b : Nat) (l : List Dot) (w : World) (hb : b < w.heap.size) (hc : w.cell? ⟨b, 0, none⟩ = some (.int .i64 r)) : Asks w 214 #[.pointer (some ⟨b, 0, none⟩)] l (fun d => decide (d.1 = r)) := by
  intro w' hw x y _
  have h1 : w'.cell? ⟨b, 0, none⟩ = some (.int .i64 r) := (hw.cell (p := ⟨b, 0, none⟩) hb).trans hc
  have hlt : b < w'.heap.size := Nat.lt_of_lt_of_le hb hw.size
  have e : decide (x = r) = (x == r) := by rw [Bool.eq_iff_iff]; simp
  show Calls Tryz.prog 214 #[.agg #[.int .i64 x, .int .i64 y], .pointer (some ⟨b, 0, none⟩)] w' (Ret w' (IsB (decide (x = r))))
  rw [e]; clear e hw hc
  go_enter Tryz.func214, Tryz.ntmps214
  go_wp2
  go_ret
  exact retB rfl (by go_grown)
theorem vget (A : Option Addr) (n c : Nat) (l : List Dot) (r : Int) (w : World) (h : Dots w A n c l) : Calls Tryz.prog 169 #[.slice A n c, .int .i64 r] w (Ret w (IsI (getV l r))) := by
  have hn := h.big
  have hb0 : Below w.heap.size w (w.alloc (.cells #[.int .i64 r] 3)) := (Below.refl _ _).alloc (Nat.le_refl _) _
  have C := Lib.hid (cindex58 214 #[.pointer (some ⟨w.heap.size, 0, none⟩)] _ A n c l (w.alloc (.cells #[.int .i64 r] 3)) (h.mono hb0) enters214 (asksGet r w.heap.size l _ (by simp) (by simp [go_sem])))
  have hbd := idxFrom_bd (fun d => decide (d.1 = r)) l 0
  by_cases hi : idxFrom (fun d => decide (d.1 = r)) 0 l < 0
  · have H0 := Lib.hid (getV_none r l 0 hi)
    generalize idxFrom (fun d => decide (d.1 = r)) 0 l = i at *
    clear h hbd
    go_enter Tryz.func169, Tryz.ntmps169
    go_wp2_with (go_at_call 213; ((with_reducible refine C.out.mono ?_); rintro e w1 ⟨_, rfl, hb1, rfl⟩))
    go_ret
    exact retI H0.out.symm (hb0.le hb1)
  · obtain ⟨j, hj⟩ : ∃ j : Nat, idxFrom (fun d => decide (d.1 = r)) 0 l = j := ⟨(idxFrom (fun d => decide (d.1 = r)) 0 l).toNat, by omega⟩
    rw [hj] at C hbd
    obtain ⟨⟨x, y⟩, h1, _, h3⟩ := getV_idx r l 0 j hj
    obtain ⟨b, o, rfl, hlt, c1, c2⟩ := h.cell _ _ h1
    have hjn : j < n := by have := h.len; omega
    have H1 := Lib.hid h1; have H3 := Lib.hid h3; have HJ := Lib.hid hj; have HL := Lib.hid hlt; have C2 := Lib.hid c2
    clear h h1 h3 hj hi hbd c1 hlt c2
    go_enter Tryz.func169, Tryz.ntmps169
    go_wp2_with (go_at_call 213; ((with_reducible refine C.out.mono ?_); rintro e w1 ⟨_, rfl, hb1, rfl⟩; have c3 : w1.cell? ⟨b, o + j * 2 + 1, none⟩ = some (.int .i64 y) := ((hb0.le hb1).cell (p := ⟨b, _, none⟩) HL.out).trans C2.out))
    go_ret
    exact retI H3.out.symm (hb0.le hb1)
end Go.Proofs.YtphhhnjeojdnkaaGreatDoor

namespace Go.Proofs.YtphhhnjeojdnkaaGreatDoor
open Go.RowKit
def memD (d : Dot) (l : List Dot) : Bool := l.any fun a => deq d a
theorem memD_iff {d : Dot} {l : List Dot} : memD d l = true ↔ d ∈ l := by
  unfold memD; rw [List.any_eq_true]
  constructor
  · rintro ⟨a, ha, h⟩; rw [deq_iff.1 h]; exact ha
  · intro h; exact ⟨d, h, deq_iff.2 rfl⟩
theorem memD_cons (d a : Dot) (l : List Dot) : memD d (a :: l) = (deq d a || memD d l) := by simp [memD]
theorem deq_comm (a b : Dot) : deq a b = deq b a := by rw [Bool.eq_iff_iff, deq_iff, deq_iff]; exact eq_comm
theorem cindexD (x y : Int) (A : Option Addr) (n c : Nat) (l : List Dot) (w : World) (h : Dots w A n c l) :
    Calls Tryz.prog 222 #[.slice A n c, .agg #[.int .i64 x, .int .i64 y]] w (Ret w (IsI (idxFrom (fun a => deq (x, y) a) 0 l))) := by
  have hn := h.big
  have hb0 : Below w.heap.size w (w.alloc (.cells #[.int .i64 x, .int .i64 y] 67)) := (Below.refl _ _).alloc (Nat.le_refl _) _
  go_enter Tryz.func222, Tryz.ntmps222
  go_wp2
  go_loopw [8] (fun i wr => IdxRel (w.alloc (.cells #[.int .i64 x, .int .i64 y] 67)) n l (fun a => deq (x, y) a) i wr) (fun i _ => n - (intOf i).toNat)
  case atStart => exact ⟨0, rfl, by omega, Below.refl _ _, by simp⟩
  case round =>
    obtain ⟨k, rfl, hk, hb, hs⟩ := hrel
    have b1 : wr.cell? ⟨w.heap.size, 0, none⟩ = some (.int .i64 x) := (hb.cell (p := ⟨w.heap.size, 0, none⟩) (by simp)).trans (by simp [go_sem])
    have b2 : wr.cell? ⟨w.heap.size, 1, none⟩ = some (.int .i64 y) := (hb.cell (p := ⟨w.heap.size, 1, none⟩) (by simp)).trans (by simp [go_sem])
    by_cases hlt : k < n
    · obtain ⟨b, o, u, v, rfl, hbk, -, d1, c1, c2⟩ := (h.mono (hb0.le hb)).at_ (k := k) hlt
      have D1 := Lib.hid d1; have HS := Lib.hid hs
      clear d1 hs
      cases hl : deq (x, y) (u, v) with
      | true =>
        have HL := Lib.hid hl
        go_wp2
        go_quiet (fail)
        go_wp2
        go_ret
        exact ⟨_, rfl, (hb0.le hb).drewN' _, by rw [HS.out, D1.out, idxFrom, HL.out]; rfl⟩
      | false =>
        have HL := Lib.hid hl
        go_wp2
        go_quiet (fail)
        go_wp2
        go_roundw
        case rel => exact IdxRel.next (hb.drewN' _) (Below.refl _ _) hlt D1.out HS.out HL.out
        case measure => simp [intOf]; omega
    · have HS := Lib.hid hs; clear hs
      go_wp2
      go_ret
      exact ⟨_, rfl, hb0.le hb, by rw [HS.out, List.drop_of_length_le (by rw [<- h.len]; omega)]; rfl⟩
theorem ccontainsD (x y : Int) (A : Option Addr) (n c : Nat) (l : List Dot) (w : World) (h : Dots w A n c l) :
    Calls Tryz.prog 179 #[.slice A n c, .agg #[.int .i64 x, .int .i64 y]] w (Ret w (IsB (memD (x, y) l))) := by
  have hb0 : Below w.heap.size w (w.alloc (.cells #[.int .i64 x, .int .i64 y] 67)) := (Below.refl _ _).alloc (Nat.le_refl _) _
  have C := Lib.hid (cindexD x y A n c l _ (h.mono hb0))
  have hx := idxFrom_any (fun a => deq (x, y) a) l 0
  unfold memD
  generalize idxFrom (fun a => deq (x, y) a) 0 l = i at *
  generalize (l.any fun a => deq (x, y) a) = r at *
  have HX := Lib.hid hx
  clear hx h
  go_enter Tryz.func179, Tryz.ntmps179
  go_wp2_with (go_at_call 222; ((with_reducible refine C.out.mono ?_); rintro e w1 ⟨_, rfl, hb1, rfl⟩))
  go_ret
  exact retB HX.out (hb0.le hb1)
theorem dhas (x y : Int) (A : Option Addr) (n c : Nat) (l : List Dot) (w : World) (h : Dots w A n c l) :
    Calls Tryz.prog 131 #[.slice A n c, .agg #[.int .i64 x, .int .i64 y]] w (Ret w (IsB (memD (x, y) l))) := by
  have hb0 : Below w.heap.size w (w.alloc (.cells #[.int .i64 x, .int .i64 y] 67)) := (Below.refl _ _).alloc (Nat.le_refl _) _
  have C := Lib.hid (ccontainsD x y A n c l _ (h.mono hb0))
  generalize memD (x, y) l = r at *
  clear h
  go_enter Tryz.func131, Tryz.ntmps131
  go_wp2_with (go_at_call 179; ((with_reducible refine C.out.mono ?_); rintro e w1 ⟨_, rfl, hb1, rfl⟩))
  go_ret
  exact retB rfl (hb0.le hb1)
def MemRel (w : World) (n : Nat) (l : List Dot) (d : Dot) (i : Value) (wr : World) : Prop :=
  ∃ k : Nat, i = .int .i64 k ∧ k <= n ∧ Below w.heap.size w wr ∧ memD d l = memD d (l.drop k)
theorem rhas (x y : Int) (A : Option Addr) (n c : Nat) (l : List Dot) (w : World) (h : Dots w A n c l) :
    Calls Tryz.prog 112 #[.slice A n c, .agg #[.int .i64 x, .int .i64 y]] w (Ret w (IsB (memD (x, y) l))) := by
  have hn := h.big
  have hb0 : Below w.heap.size w (w.alloc (.cells #[.int .i64 x, .int .i64 y] 67)) := (Below.refl _ _).alloc (Nat.le_refl _) _
  go_enter Tryz.func112, Tryz.ntmps112
  go_wp2
  go_loopw [5] (fun i wr => MemRel (w.alloc (.cells #[.int .i64 x, .int .i64 y] 67)) n l (x, y) i wr) (fun i _ => n - (intOf i).toNat)
  case atStart => exact ⟨0, rfl, by omega, Below.refl _ _, by simp⟩
  case round =>
    obtain ⟨k, rfl, hk, hb, hs⟩ := hrel
    have b1 : wr.cell? ⟨w.heap.size, 0, none⟩ = some (.int .i64 x) := (hb.cell (p := ⟨w.heap.size, 0, none⟩) (by simp)).trans (by simp [go_sem])
    have b2 : wr.cell? ⟨w.heap.size, 1, none⟩ = some (.int .i64 y) := (hb.cell (p := ⟨w.heap.size, 1, none⟩) (by simp)).trans (by simp [go_sem])
    by_cases hlt : k < n
    · obtain ⟨b, o, u, v, rfl, hbk, -, d1, c1, c2⟩ := (h.mono (hb0.le hb)).at_ (k := k) hlt
      have D1 := Lib.hid d1; have HS := Lib.hid hs
      clear d1 hs
      cases hl : deq (u, v) (x, y) with
      | true =>
        have HL := Lib.hid hl
        go_wp2
        go_quiet (fail)
        go_wp2
        go_ret
        exact retB (by rw [HS.out, D1.out, memD_cons, deq_comm, HL.out]; simp) ((hb0.le hb).drewN' _)
      | false =>
        have HL := Lib.hid hl
        go_wp2
        go_quiet (fail)
        go_wp2
        go_roundw
        case rel => exact ⟨k + 1, by simp, hlt, hb.drewN' _, by rw [HS.out, D1.out, memD_cons, deq_comm, HL.out]; simp⟩
        case measure => simp [intOf]; omega
    · have HS := Lib.hid hs; clear hs
      go_wp2
      go_ret
      exact retB (by rw [HS.out, List.drop_of_length_le (by rw [<- h.len]; omega)]; rfl) (hb0.le hb)
end Go.Proofs.YtphhhnjeojdnkaaGreatDoor

namespace Go.Proofs.YtphhhnjeojdnkaaGreatDoor
open Go.RowKit
section
variable {P : Program} {ops : List Oper} {Fs : List VT} {w0 : World} {a0 : Act} {i : Nat} {o : Oper}
def Has (ops : List Oper) (Fs : List VT) (w0 : World) (a0 : Act) (i : Nat) (o : Oper) (x : Operand) (G : VT) : Prop := ∀ a w, Cx ops Fs w0 a0 i o a w -> G w (a.eval x)
def Wanted (ops : List Oper) (Fs : List VT) (w0 : World) (a0 : Act) (i : Nat) (o : Oper) : Prop := ∀ a w, Cx ops Fs w0 a0 i o a w -> Region.wanted o (yielded ops.toArray a.tmps) = true
theorem Has.cst (v : Value) : Has ops Fs w0 a0 i o (.const v) (Is v) := fun _ _ _ => rfl
theorem Has.old {t : Tmp} {G : VT} (v : Value) (hn : (dstsOf ops).contains (some t) = false) (hv : a0.tmps.getD t undef = v) (hG : ∀ w, Below w0.heap.size w0 w -> G w v) : Has ops Fs w0 a0 i o (.tmp t) G := fun a w cx => by
  have : a.eval (.tmp t) = v := (cx.old t (by simpa using hn)).trans hv
  rw [this]; exact hG w cx.le
theorem slot_of {a : Act} {t : Tmp} {v : Value} (h : a.tmps.toList[t]? = some v) : a.tmps.getD t undef = v := by rw [Array.getD_eq_getD_getElem?, <- Array.getElem?_toList, h]; rfl
theorem Has.oldIs {t : Tmp} {v : Value} (hn : (dstsOf ops).contains (some t) = false := by kernel_rfl) (hv : a0.tmps.toList[t]? = some v := by exact rfl) : Has ops Fs w0 a0 i o (.tmp t) (Is v) := Has.old v hn (slot_of hv) fun _ _ => rfl
theorem Has.late {t : Tmp} {v : Value} (j : Nat) {oj : Oper} (ho : ops[j]? = some oj := by exact rfl) (he : hasEdge oj i = true := by exact rfl) (hd : oj.dst = some t := by exact rfl) (hv : a0.tmps.toList[t]? = some v := by exact rfl) : Has ops Fs w0 a0 i o (.tmp t) (Is v) := fun _ _ cx => (cx.late j oj t ho he hd).trans (slot_of hv)
def dstAt (ops : List Oper) (j : Nat) : Option Tmp := (ops[j]?).bind (·.dst)
theorem back {RF : List VT} {j k : Nat} {G : VT} (hl : RF.length = j + k + 1) (hF : RF[k]? = some G) : RF.reverse[j]? = some G := by
  rw [List.getElem?_reverse (by omega), <- hF]; congr 1; omega
theorem dstAt_some {j : Nat} {t : Tmp} (h : dstAt ops j = some t) : ∃ oj, ops[j]? = some oj ∧ oj.dst = some t := by
  unfold dstAt at h
  cases ho : ops[j]? with
  | none => rw [ho] at h; cases h
  | some oj => rw [ho] at h; exact ⟨oj, rfl, h⟩
theorem Has.new {t : Tmp} {G : VT} {RF : List VT} (j k : Nat) (hF : RF[k]? = some G := by exact rfl) (hl : RF.length = j + k + 1 := by kernel_rfl) (hd : dstAt ops j = some t := by kernel_rfl) (he : hasEdge o j = true := by kernel_rfl) : Has ops RF.reverse w0 a0 i o (.tmp t) G := fun _ _ cx => by
  obtain ⟨oj, h1, h2⟩ := dstAt_some hd
  exact cx.new j oj t G he h1 h2 (back hl hF)
theorem Wanted.free (h : o.guard = none := by exact rfl) : Wanted ops Fs w0 a0 i o := fun _ _ _ => by simp [Region.wanted, h]
theorem wanted_of {j : Nat} {want b : Bool} {oj : Oper} {t : Tmp} {a : Act} {w : World} (hg : o.guard = some (j, want)) (ho : ops[j]? = some oj) (hd : oj.dst = some t) (hv : IsB b w (a.tmps.getD t undef)) : Region.wanted o (yielded ops.toArray a.tmps) = (b == want) := by
  have e : a.tmps[t]? = some (.bool b) := by
    have hv : a.tmps.getD t undef = .bool b := hv
    rw [Array.getD_eq_getD_getElem?] at hv
    cases h : a.tmps[t]? with
    | none => rw [h] at hv; simp at hv; cases hv
    | some u => rw [h] at hv; simp at hv; rw [hv]
  simp [Region.wanted, hg, yielded, ho, hd, e]
theorem Wanted.on {RF : List VT} (j k : Nat) {want : Bool} (hg : o.guard = some (j, want) := by exact rfl) (hF : RF[k]? = some (IsB want) := by exact rfl) (hl : RF.length = j + k + 1 := by kernel_rfl) (hd : (dstAt ops j).isSome = true := by kernel_rfl) (he : hasEdge o j = true := by kernel_rfl) : Wanted ops RF.reverse w0 a0 i o := fun a w cx => by
  obtain ⟨t, hd⟩ := Option.isSome_iff_exists.1 hd
  obtain ⟨oj, h1, h2⟩ := dstAt_some hd
  rw [wanted_of hg h1 h2 (cx.new j oj t _ he h1 h2 (back hl hF))]; simp
theorem Ob.off {RF : List VT} (j k : Nat) {want b : Bool} (hg : o.guard = some (j, want) := by exact rfl) (hF : RF[k]? = some (IsB b) := by exact rfl) (hl : RF.length = j + k + 1 := by kernel_rfl) (hd : (dstAt ops j).isSome = true := by kernel_rfl) (he : hasEdge o j = true := by kernel_rfl) (hne : (b == want) = false := by exact rfl) : Ob P ops RF.reverse w0 a0 i o (Is undef) := fun a w cx => by
  obtain ⟨t, hd⟩ := Option.isSome_iff_exists.1 hd
  obtain ⟨oj, h1, h2⟩ := dstAt_some hd
  rw [wanted_of hg h1 h2 (cx.new j oj t _ he h1 h2 (back hl hF)), hne]; exact rfl
theorem Ob.offU {RF : List VT} (j k : Nat) {want : Bool} (hg : o.guard = some (j, want) := by exact rfl) (hF : RF[k]? = some (Is undef) := by exact rfl) (hl : RF.length = j + k + 1 := by kernel_rfl) (hd : (dstAt ops j).isSome = true := by kernel_rfl) (he : hasEdge o j = true := by kernel_rfl) : Ob P ops RF.reverse w0 a0 i o (Is undef) := fun a w cx => by
  obtain ⟨t, hd⟩ := Option.isSome_iff_exists.1 hd
  obtain ⟨oj, ho, h2⟩ := dstAt_some hd
  have hv : a.tmps.getD t undef = undef := cx.new j oj t _ he ho h2 (back hl hF)
  have : Region.wanted o (yielded ops.toArray a.tmps) = false := by
    cases h : a.tmps[t]? with
    | none => simp [Region.wanted, hg, yielded, ho, h2, h]
    | some u =>
      rw [Array.getD_eq_getD_getElem?, h] at hv
      simp at hv
      subst hv
      simp [Region.wanted, hg, yielded, ho, h2, h, undef]
  rw [this]; exact rfl
theorem Ob.any {F : VT} (hw : Wanted ops Fs w0 a0 i o) (h : ∀ a w, Cx ops Fs w0 a0 i o a w -> ∃ r w', (execOp a.eval o).run P w = .ok (.value r) w' ∧ Below w.heap.size w w' ∧ F w' r) : Ob P ops Fs w0 a0 i o F := fun a w cx => by
  rw [if_pos (hw a w cx)]
  obtain ⟨r, w', hr, hb, hF⟩ := h a w cx
  unfold Oper.wp
  rw [hr]
  exact ⟨r, rfl, hb, hF⟩
theorem Ob.stay {F : VT} (hw : Wanted ops Fs w0 a0 i o) (h : ∀ a w, Cx ops Fs w0 a0 i o a w -> ∃ r, (execOp a.eval o).run P w = .ok (.value r) w ∧ F w r) : Ob P ops Fs w0 a0 i o F :=
  Ob.any hw fun a w cx => let ⟨r, h1, h2⟩ := h a w cx; ⟨r, w, h1, Below.refl _ _, h2⟩
variable {d : Option Tmp} {ty : TypeId} {pos : String} {after : Array Edge} {g : Option (Nat × Bool)}
theorem Ob.move {x : Operand} {F : VT} (hw : Wanted ops Fs w0 a0 i ⟨d, .move x, ty, pos, after, g⟩) (hx : Has ops Fs w0 a0 i ⟨d, .move x, ty, pos, after, g⟩ x F) : Ob P ops Fs w0 a0 i ⟨d, .move x, ty, pos, after, g⟩ F :=
  Ob.stay hw fun a w cx => ⟨_, by simp [execOp], hx a w cx⟩
theorem Ob.assign {x : Operand} {F : VT} (hw : Wanted ops Fs w0 a0 i ⟨d, .assign x, ty, pos, after, g⟩) (hx : Has ops Fs w0 a0 i ⟨d, .assign x, ty, pos, after, g⟩ x F) : Ob P ops Fs w0 a0 i ⟨d, .assign x, ty, pos, after, g⟩ F :=
  Ob.stay hw fun a w cx => ⟨_, by simp [execOp], hx a w cx⟩
theorem run_pick (ρ : Operand -> Value) {c x y : Operand} {b : Bool} (h : ρ c = .bool b) (w : World) : (execOp ρ ⟨d, .pick c x y, ty, pos, after, g⟩).run P w = .ok (.value (if b then ρ x else ρ y)) w := by simp [execOp, asBool, h]
theorem run_not (ρ : Operand -> Value) {x : Operand} {t : TypeId} {b : Bool} (h : ρ x = .bool b) (w : World) : (execOp ρ ⟨d, .unOp .not t x, ty, pos, after, g⟩).run P w = .ok (.value (.bool (!b))) w := by simp [execOp, h, go_sem]
theorem Ob.pickT {c x y : Operand} {F : VT} (hw : Wanted ops Fs w0 a0 i ⟨d, .pick c x y, ty, pos, after, g⟩) (hc : Has ops Fs w0 a0 i ⟨d, .pick c x y, ty, pos, after, g⟩ c (IsB true)) (hx : Has ops Fs w0 a0 i ⟨d, .pick c x y, ty, pos, after, g⟩ x F) : Ob P ops Fs w0 a0 i ⟨d, .pick c x y, ty, pos, after, g⟩ F :=
  Ob.stay hw fun a w cx => ⟨a.eval x, by rw [run_pick a.eval (hc a w cx)]; rfl, hx a w cx⟩
theorem Ob.pickF {c x y : Operand} {F : VT} (hw : Wanted ops Fs w0 a0 i ⟨d, .pick c x y, ty, pos, after, g⟩) (hc : Has ops Fs w0 a0 i ⟨d, .pick c x y, ty, pos, after, g⟩ c (IsB false)) (hy : Has ops Fs w0 a0 i ⟨d, .pick c x y, ty, pos, after, g⟩ y F) : Ob P ops Fs w0 a0 i ⟨d, .pick c x y, ty, pos, after, g⟩ F :=
  Ob.stay hw fun a w cx => ⟨a.eval y, by rw [run_pick a.eval (hc a w cx)]; rfl, hy a w cx⟩
theorem Ob.not {x : Operand} {b : Bool} {t : TypeId} (hw : Wanted ops Fs w0 a0 i ⟨d, .unOp .not t x, ty, pos, after, g⟩) (hx : Has ops Fs w0 a0 i ⟨d, .unOp .not t x, ty, pos, after, g⟩ x (IsB b)) : Ob P ops Fs w0 a0 i ⟨d, .unOp .not t x, ty, pos, after, g⟩ (IsB (!b)) :=
  Ob.stay hw fun a w cx => ⟨_, run_not a.eval (hx a w cx) w, rfl⟩
theorem Ob.load {x : Operand} {G F : VT} {t : TypeId} (hw : Wanted ops Fs w0 a0 i ⟨d, .load t x, ty, pos, after, g⟩) (hx : Has ops Fs w0 a0 i ⟨d, .load t x, ty, pos, after, g⟩ x G)
    (h : ∀ w v, Below w0.heap.size w0 w -> G w v -> ∃ r, (Instr.loadAt t v).run P w = .ok r w ∧ F w r) : Ob P ops Fs w0 a0 i ⟨d, .load t x, ty, pos, after, g⟩ F :=
  Ob.stay hw fun a w cx => by
    obtain ⟨r, h1, h2⟩ := h w _ cx.le (hx a w cx)
    exact ⟨r, by simp [execOp, h1], h2⟩
theorem Ob.fieldAddr {x : Operand} {G F : VT} {t : TypeId} {f : Nat} (hw : Wanted ops Fs w0 a0 i ⟨d, .fieldAddr t x f, ty, pos, after, g⟩) (hx : Has ops Fs w0 a0 i ⟨d, .fieldAddr t x f, ty, pos, after, g⟩ x G)
    (h : ∀ w v, Below w0.heap.size w0 w -> G w v -> ∃ r, (Instr.fieldAt t v f).run P w = .ok r w ∧ F w r) : Ob P ops Fs w0 a0 i ⟨d, .fieldAddr t x f, ty, pos, after, g⟩ F :=
  Ob.stay hw fun a w cx => by
    obtain ⟨r, h1, h2⟩ := h w _ cx.le (hx a w cx)
    exact ⟨r, by simp [execOp, h1], h2⟩
theorem Ob.extract {x : Operand} {G F : VT} {n : Nat} (hw : Wanted ops Fs w0 a0 i ⟨d, .extract x n, ty, pos, after, g⟩) (hx : Has ops Fs w0 a0 i ⟨d, .extract x n, ty, pos, after, g⟩ x G)
    (h : ∀ w v, Below w0.heap.size w0 w -> G w v -> ∃ r, (Instr.extract v n).run P w = .ok r w ∧ F w r) : Ob P ops Fs w0 a0 i ⟨d, .extract x n, ty, pos, after, g⟩ F :=
  Ob.stay hw fun a w cx => by
    obtain ⟨r, h1, h2⟩ := h w _ cx.le (hx a w cx)
    exact ⟨r, by simp [execOp, h1], h2⟩
theorem Ob.indexAddr {x y : Operand} {G H F : VT} {t : TypeId} (hw : Wanted ops Fs w0 a0 i ⟨d, .indexAddr t x y, ty, pos, after, g⟩) (hx : Has ops Fs w0 a0 i ⟨d, .indexAddr t x y, ty, pos, after, g⟩ x G) (hy : Has ops Fs w0 a0 i ⟨d, .indexAddr t x y, ty, pos, after, g⟩ y H)
    (h : ∀ w u v, Below w0.heap.size w0 w -> G w u -> H w v -> ∃ r, (Instr.indexAt t u v).run P w = .ok r w ∧ F w r) : Ob P ops Fs w0 a0 i ⟨d, .indexAddr t x y, ty, pos, after, g⟩ F :=
  Ob.stay hw fun a w cx => by
    obtain ⟨r, h1, h2⟩ := h w _ _ cx.le (hx a w cx) (hy a w cx)
    exact ⟨r, by simp [execOp, h1], h2⟩
theorem Ob.bin {x y : Operand} {G H F : VT} {b : BinOp} {t t' : TypeId} (hw : Wanted ops Fs w0 a0 i ⟨d, .binOp b t x y t', ty, pos, after, g⟩) (hx : Has ops Fs w0 a0 i ⟨d, .binOp b t x y t', ty, pos, after, g⟩ x G) (hy : Has ops Fs w0 a0 i ⟨d, .binOp b t x y t', ty, pos, after, g⟩ y H)
    (h : ∀ w u v, Below w0.heap.size w0 w -> G w u -> H w v -> ∃ r, (eqGuard b t x y u v).run P w = .ok () w ∧ (binOp b t u v).run P w = .ok r w ∧ F w r) : Ob P ops Fs w0 a0 i ⟨d, .binOp b t x y t', ty, pos, after, g⟩ F :=
  Ob.stay hw fun a w cx => by
    obtain ⟨r, h0, h1, h2⟩ := h w _ _ cx.le (hx a w cx) (hy a w cx)
    exact ⟨r, by simp [execOp, h0, h1], h2⟩
theorem Ob.buildSlice {F : VT} {t : TypeId} {n : Nat} {ps : Array (Nat × Operand)} (hw : Wanted ops Fs w0 a0 i ⟨d, .buildSlice t n ps, ty, pos, after, g⟩)
    (h : ∀ a w, Cx ops Fs w0 a0 i ⟨d, .buildSlice t n ps, ty, pos, after, g⟩ a w -> ∃ r w', (Instr.buildSlice t n (ps.map fun (i, x) => (i, a.eval x))).run P w = .ok r w' ∧ Below w.heap.size w w' ∧ F w' r) : Ob P ops Fs w0 a0 i ⟨d, .buildSlice t n ps, ty, pos, after, g⟩ F :=
  Ob.any hw fun a w cx => by
    obtain ⟨r, w', h1, h2, h3⟩ := h a w cx
    exact ⟨r, w', by simp [execOp, h1], h2, h3⟩
theorem Ob.loadV {x : Operand} {p r : Value} {t : TypeId} (hw : Wanted ops Fs w0 a0 i ⟨d, .load t x, ty, pos, after, g⟩) (hx : Has ops Fs w0 a0 i ⟨d, .load t x, ty, pos, after, g⟩ x (Is p))
    (h : ∀ w, Below w0.heap.size w0 w -> (Instr.loadAt t p).run P w = .ok r w) : Ob P ops Fs w0 a0 i ⟨d, .load t x, ty, pos, after, g⟩ (Is r) :=
  Ob.load hw hx fun w v hb e => ⟨r, by rw [show v = p from e]; exact h w hb, rfl⟩
theorem Ob.fieldV {x : Operand} {p r : Value} {t : TypeId} {f : Nat} (hw : Wanted ops Fs w0 a0 i ⟨d, .fieldAddr t x f, ty, pos, after, g⟩) (hx : Has ops Fs w0 a0 i ⟨d, .fieldAddr t x f, ty, pos, after, g⟩ x (Is p))
    (h : ∀ w, (Instr.fieldAt t p f).run P w = .ok r w) : Ob P ops Fs w0 a0 i ⟨d, .fieldAddr t x f, ty, pos, after, g⟩ (Is r) :=
  Ob.fieldAddr hw hx fun w v _ e => ⟨r, by rw [show v = p from e]; exact h w, rfl⟩
theorem Ob.indexV {x y : Operand} {p q r : Value} {t : TypeId} (hw : Wanted ops Fs w0 a0 i ⟨d, .indexAddr t x y, ty, pos, after, g⟩) (hx : Has ops Fs w0 a0 i ⟨d, .indexAddr t x y, ty, pos, after, g⟩ x (Is p)) (hy : Has ops Fs w0 a0 i ⟨d, .indexAddr t x y, ty, pos, after, g⟩ y (Is q))
    (h : ∀ w, (Instr.indexAt t p q).run P w = .ok r w) : Ob P ops Fs w0 a0 i ⟨d, .indexAddr t x y, ty, pos, after, g⟩ (Is r) :=
  Ob.indexAddr hw hx hy fun w u v _ e e' => ⟨r, by rw [show u = p from e, show v = q from e']; exact h w, rfl⟩
theorem Ob.binV {x y : Operand} {p q r : Value} {b : BinOp} {t t' : TypeId} (hw : Wanted ops Fs w0 a0 i ⟨d, .binOp b t x y t', ty, pos, after, g⟩) (hx : Has ops Fs w0 a0 i ⟨d, .binOp b t x y t', ty, pos, after, g⟩ x (Is p)) (hy : Has ops Fs w0 a0 i ⟨d, .binOp b t x y t', ty, pos, after, g⟩ y (Is q))
    (h : ∀ w, (eqGuard b t x y p q).run P w = .ok () w ∧ (Go.binOp b t p q).run P w = .ok r w) : Ob P ops Fs w0 a0 i ⟨d, .binOp b t x y t', ty, pos, after, g⟩ (Is r) :=
  Ob.bin hw hx hy fun w u v _ e e' => ⟨r, by rw [show u = p from e, show v = q from e']; exact (h w).1, by rw [show u = p from e, show v = q from e']; exact (h w).2, rfl⟩
theorem Ob.lenV {x : Operand} {p r : Value} {t : TypeId} (hw : Wanted ops Fs w0 a0 i ⟨d, .call ⟨.builtin .len, #[x], #[t]⟩, ty, pos, after, g⟩) (hx : Has ops Fs w0 a0 i ⟨d, .call ⟨.builtin .len, #[x], #[t]⟩, ty, pos, after, g⟩ x (Is p))
    (h : ∀ w, (Builtin.len_ #[t] ty #[p]).run P w = .ok r w) : Ob P ops Fs w0 a0 i ⟨d, .call ⟨.builtin .len, #[x], #[t]⟩, ty, pos, after, g⟩ (Is r) :=
  Ob.stay hw fun a w cx => ⟨r, by
    have h1 : a.eval x = p := hx a w cx
    have h2 := h w
    generalize a.eval = ρ at h1
    simp [execOp, resolve, invoke, builtin, h1, h2], rfl⟩
theorem run_call {f : FuncId} {args : Array Operand} {tys : Array TypeId} (he : Enters P f) (a : Act) (w : World) : (execOp a.eval ⟨d, .call ⟨.value (.func f), args, tys⟩, ty, pos, after, g⟩).run P w = .ok (.enter f (args.map a.eval)) w := by
  have := he (args.map a.eval) w
  simp [execOp, resolve, Act.eval, Deferred.ofValue, invoke, this]
theorem Ob.call {f : FuncId} {args : Array Operand} {tys : Array TypeId} {F : VT} (hw : Wanted ops Fs w0 a0 i ⟨d, .call ⟨.value (.func f), args, tys⟩, ty, pos, after, g⟩) (he : Enters P f)
    (h : ∀ a w, Cx ops Fs w0 a0 i ⟨d, .call ⟨.value (.func f), args, tys⟩, ty, pos, after, g⟩ a w -> Calls P f (args.map a.eval) w (Ret w F)) : Ob P ops Fs w0 a0 i ⟨d, .call ⟨.value (.func f), args, tys⟩, ty, pos, after, g⟩ F := fun a w cx => by
  rw [if_pos (hw a w cx)]
  unfold Oper.wp
  rw [run_call he a w]
  refine (h a w cx).mono ?_
  rintro e w' ⟨v, rfl, hb, hF⟩
  exact ⟨v, rfl, hb, hF⟩
theorem Ob.call1 {f : FuncId} {tys : Array TypeId} {x : Operand} {G F : VT} (hw : Wanted ops Fs w0 a0 i ⟨d, .call ⟨.value (.func f), #[x], tys⟩, ty, pos, after, g⟩) (he : Enters P f)
    (hx : Has ops Fs w0 a0 i ⟨d, .call ⟨.value (.func f), #[x], tys⟩, ty, pos, after, g⟩ x G)
    (h : ∀ w v, Below w0.heap.size w0 w -> G w v -> Calls P f #[v] w (Ret w F)) : Ob P ops Fs w0 a0 i ⟨d, .call ⟨.value (.func f), #[x], tys⟩, ty, pos, after, g⟩ F := Ob.call hw he fun a w cx => by rw [List.map_toArray]; exact h w _ cx.le (hx a w cx)
theorem Ob.call2 {f : FuncId} {tys : Array TypeId} {x y : Operand} {G H F : VT} (hw : Wanted ops Fs w0 a0 i ⟨d, .call ⟨.value (.func f), #[x, y], tys⟩, ty, pos, after, g⟩) (he : Enters P f)
    (hx : Has ops Fs w0 a0 i ⟨d, .call ⟨.value (.func f), #[x, y], tys⟩, ty, pos, after, g⟩ x G) (hy : Has ops Fs w0 a0 i ⟨d, .call ⟨.value (.func f), #[x, y], tys⟩, ty, pos, after, g⟩ y H)
    (h : ∀ w u v, Below w0.heap.size w0 w -> G w u -> H w v -> Calls P f #[u, v] w (Ret w F)) : Ob P ops Fs w0 a0 i ⟨d, .call ⟨.value (.func f), #[x, y], tys⟩, ty, pos, after, g⟩ F := Ob.call hw he fun a w cx => by rw [List.map_toArray]; exact h w _ _ cx.le (hx a w cx) (hy a w cx)
theorem Ob.call1V {f : FuncId} {tys : Array TypeId} {x : Operand} {p1 : Value} {F : VT} (hw : Wanted ops Fs w0 a0 i ⟨d, .call ⟨.value (.func f), #[x], tys⟩, ty, pos, after, g⟩) (he : Enters P f) (hx : Has ops Fs w0 a0 i ⟨d, .call ⟨.value (.func f), #[x], tys⟩, ty, pos, after, g⟩ x (Is p1))
    (h : ∀ w, Below w0.heap.size w0 w -> Calls P f #[p1] w (Ret w F)) : Ob P ops Fs w0 a0 i ⟨d, .call ⟨.value (.func f), #[x], tys⟩, ty, pos, after, g⟩ F := Ob.call1 hw he hx fun w v0 hb e0 => by unfold Is at *; subst e0; exact h w hb
theorem Ob.call2V {f : FuncId} {tys : Array TypeId} {x y : Operand} {p1 p2 : Value} {F : VT} (hw : Wanted ops Fs w0 a0 i ⟨d, .call ⟨.value (.func f), #[x, y], tys⟩, ty, pos, after, g⟩) (he : Enters P f) (hx : Has ops Fs w0 a0 i ⟨d, .call ⟨.value (.func f), #[x, y], tys⟩, ty, pos, after, g⟩ x (Is p1)) (hy : Has ops Fs w0 a0 i ⟨d, .call ⟨.value (.func f), #[x, y], tys⟩, ty, pos, after, g⟩ y (Is p2))
    (h : ∀ w, Below w0.heap.size w0 w -> Calls P f #[p1, p2] w (Ret w F)) : Ob P ops Fs w0 a0 i ⟨d, .call ⟨.value (.func f), #[x, y], tys⟩, ty, pos, after, g⟩ F := Ob.call2 hw he hx hy fun w v0 v1 hb e0 e1 => by unfold Is at *; subst e0; subst e1; exact h w hb
end
theorem mixed : Tryz.prog.follows .mixedOrders = true := by kernel_rfl
section
variable {w0 w : World} {b o : Nat}
theorem load_dot {x y : Int} (hb : Below w0.heap.size w0 w) (h1 : w0.cell? ⟨b, o, none⟩ = some (.int .i64 x)) (h2 : w0.cell? ⟨b, o + 1, none⟩ = some (.int .i64 y)) : (Instr.loadAt 67 (.pointer (some ⟨b, o, none⟩))).run Tryz.prog w = .ok (.agg #[.int .i64 x, .int .i64 y]) w := by
  have c1 := cellKeep hb h1
  have c2 := cellKeep hb h2
  simp [go_sem, c1, c2]
theorem load_int {x : Int} (hb : Below w0.heap.size w0 w) (h1 : w0.cell? ⟨b, o, none⟩ = some (.int .i64 x)) : (Instr.loadAt 3 (.pointer (some ⟨b, o, none⟩))).run Tryz.prog w = .ok (.int .i64 x) w := by
  have c1 := cellKeep hb h1
  simp [go_sem, c1]
theorem field_dot0 : (Instr.fieldAt 67 (.pointer (some ⟨b, o, none⟩)) 0).run Tryz.prog w = .ok (.pointer (some ⟨b, o, none⟩)) w := by simp [go_sem]
theorem field_dot1 : (Instr.fieldAt 67 (.pointer (some ⟨b, o, none⟩)) 1).run Tryz.prog w = .ok (.pointer (some ⟨b, o + 1, none⟩)) w := by simp [go_sem]
theorem index_vec {n c k : Nat} (hk : k < n) : (Instr.indexAt 58 (.slice (some ⟨b, o, none⟩) n c) (.int .i64 (k : Int))).run Tryz.prog w = .ok (.pointer (some ⟨b, o + k * 2, none⟩)) w := by
  have h1 : (0 : Int) <= (k : Int) := by omega
  have h2 : (k : Int) < (n : Int) := by omega
  simp [go_sem, h1, h2]
theorem index_dots {n c k : Nat} (hk : k < n) : (Instr.indexAt 57 (.slice (some ⟨b, o, none⟩) n c) (.int .i64 (k : Int))).run Tryz.prog w = .ok (.pointer (some ⟨b, o + k * 2, none⟩)) w := by
  have h1 : (0 : Int) <= (k : Int) := by omega
  have h2 : (k : Int) < (n : Int) := by omega
  simp [go_sem, h1, h2]
theorem sub_one {x y : Operand} {k : Nat} (hk : k + 1 <= 9223372036854775807) : (eqGuard .sub 3 x y (.int .i64 ((k + 1 : Nat) : Int)) (.int .i64 1)).run Tryz.prog w = .ok () w ∧ (Go.binOp .sub 3 (.int .i64 ((k + 1 : Nat) : Int)) (.int .i64 1)).run Tryz.prog w = .ok (.int .i64 (k : Int)) w := by
  have e : IntKind.i64.wrap (k : Int) = k := IntWalk.i64_in _ (by omega)
  constructor
  · simp [go_sem]
  · simp [go_sem, e]
theorem field_con0 : (Instr.fieldAt 60 (.pointer (some ⟨b, o, none⟩)) 0).run Tryz.prog w = .ok (.pointer (some ⟨b, o, none⟩)) w := by simp [go_sem]
theorem field_con1 : (Instr.fieldAt 60 (.pointer (some ⟨b, o, none⟩)) 1).run Tryz.prog w = .ok (.pointer (some ⟨b, o + 1, none⟩)) w := by simp [go_sem]
theorem load_vec {A : Option Addr} {n c : Nat} (hb : Below w0.heap.size w0 w) (h1 : w0.cell? ⟨b, o, none⟩ = some (.slice A n c)) : (Instr.loadAt 58 (.pointer (some ⟨b, o, none⟩))).run Tryz.prog w = .ok (.slice A n c) w := by
  have c1 := cellKeep hb h1
  simp [go_sem, c1]
theorem load_dots {A : Option Addr} {n c : Nat} (hb : Below w0.heap.size w0 w) (h1 : w0.cell? ⟨b, o, none⟩ = some (.slice A n c)) : (Instr.loadAt 57 (.pointer (some ⟨b, o, none⟩))).run Tryz.prog w = .ok (.slice A n c) w := by
  have c1 := cellKeep hb h1
  simp [go_sem, c1]
theorem int_add {x y : Operand} {a c : Int} (r : Int) (h : IntKind.i64.wrap (a + c) = r) : (eqGuard .add 3 x y (.int .i64 a) (.int .i64 c)).run Tryz.prog w = .ok () w ∧ (Go.binOp .add 3 (.int .i64 a) (.int .i64 c)).run Tryz.prog w = .ok (.int .i64 r) w := by subst h; simp [go_sem]
theorem len_dots {A : Option Addr} {n c : Nat} {ty : TypeId} : (Builtin.len_ #[57] ty #[.slice A n c]).run Tryz.prog w = .ok (.int .i64 (n : Int)) w := by simp [go_sem]
theorem int_gtr {x y : Operand} {k : IntKind} {t : TypeId} {a c : Int} (r : Bool) (h : (decide (c < a)) = r) : (eqGuard .gtr t x y (.int k a) (.int k c)).run Tryz.prog w = .ok () w ∧ (Go.binOp .gtr t (.int k a) (.int k c)).run Tryz.prog w = .ok (.bool r) w := by subst h; simp [go_sem]
theorem int_geq {x y : Operand} {k : IntKind} {t : TypeId} {a c : Int} (r : Bool) (h : (decide (c <= a)) = r) : (eqGuard .geq t x y (.int k a) (.int k c)).run Tryz.prog w = .ok () w ∧ (Go.binOp .geq t (.int k a) (.int k c)).run Tryz.prog w = .ok (.bool r) w := by subst h; simp [go_sem]
theorem int_lss {x y : Operand} {k : IntKind} {t : TypeId} {a c : Int} (r : Bool) (h : (decide (a < c)) = r) : (eqGuard .lss t x y (.int k a) (.int k c)).run Tryz.prog w = .ok () w ∧ (Go.binOp .lss t (.int k a) (.int k c)).run Tryz.prog w = .ok (.bool r) w := by subst h; simp [go_sem]
theorem int_leq {x y : Operand} {k : IntKind} {t : TypeId} {a c : Int} (r : Bool) (h : (decide (a <= c)) = r) : (eqGuard .leq t x y (.int k a) (.int k c)).run Tryz.prog w = .ok () w ∧ (Go.binOp .leq t (.int k a) (.int k c)).run Tryz.prog w = .ok (.bool r) w := by subst h; simp [go_sem]
theorem int_eql {x y : Operand} {k : IntKind} {t : TypeId} {a c : Int} (r : Bool) (h : (a == c) = r) : (eqGuard .eql t x y (.int k a) (.int k c)).run Tryz.prog w = .ok () w ∧ (Go.binOp .eql t (.int k a) (.int k c)).run Tryz.prog w = .ok (.bool r) w := by subst h; simp [go_sem]
theorem int_neq {x y : Operand} {k : IntKind} {t : TypeId} {a c : Int} (r : Bool) (h : (a != c) = r) : (eqGuard .neq t x y (.int k a) (.int k c)).run Tryz.prog w = .ok () w ∧ (Go.binOp .neq t (.int k a) (.int k c)).run Tryz.prog w = .ok (.bool r) w := by subst h; simp [go_sem]
end
end Go.Proofs.YtphhhnjeojdnkaaGreatDoor

namespace Go.Proofs.YtphhhnjeojdnkaaGreatDoor
open Go.RowKit
def GetRel (w : World) (n : Nat) (l : List Dot) (r : Int) (i : Value) (wr : World) : Prop :=
  ∃ k : Nat, i = .int .i64 k ∧ k <= n ∧ Below w.heap.size w wr ∧ getV l r = getV (l.drop k) r
theorem rget (A : Option Addr) (n c : Nat) (l : List Dot) (r : Int) (w : World) (h : Dots w A n c l) : Calls Tryz.prog 147 #[.slice A n c, .int .i64 r] w (Ret w (IsI (getV l r))) := by
  have hn := h.big
  go_enter Tryz.func147, Tryz.ntmps147
  go_wp2
  go_loopw [5] (fun i wr => GetRel w n l r i wr) (fun i _ => n - (intOf i).toNat)
  case atStart => exact ⟨0, rfl, by omega, Below.refl _ _, by simp⟩
  case round =>
    obtain ⟨k, rfl, hk, hb, hs⟩ := hrel
    by_cases hlt : k < n
    · obtain ⟨b, o, x, y, rfl, hbk, -, d1, c1, c2⟩ := (h.mono hb).at_ (k := k) hlt
      have D1 := Lib.hid d1; have HS := Lib.hid hs
      clear d1 hs
      cases hl : (x == r) with
      | true =>
        have HL := Lib.hid hl
        go_wp2
        go_ret
        exact retI (by rw [HS.out, D1.out]; simp [getV, eq_of_beq HL.out]) hb
      | false =>
        have HL := Lib.hid hl
        go_wp2
        go_roundw
        case rel => exact ⟨k + 1, by simp, hlt, hb, by rw [HS.out, D1.out]; simp [getV, beq_eq_false_iff_ne.1 HL.out]⟩
        case measure => simp [intOf]; omega
    · have HS := Lib.hid hs; clear hs
      go_wp2
      go_ret
      exact retI (by rw [HS.out, List.drop_of_length_le (by rw [<- h.len]; omega)]; rfl) hb
def hasV (l : List Dot) (d : Dot) : Bool := validD d && decide (d.2 <= getV l d.1)
theorem hasV_no {l : List Dot} {d : Dot} (h : validD d = false) : hasV l d = false := by unfold hasV; rw [h]; rfl
theorem hasV_yes {l : List Dot} {d : Dot} (h : validD d = true) : hasV l d = decide (d.2 <= getV l d.1) := by unfold hasV; rw [h]; rfl
theorem entersV111 : Enters Tryz.prog 79 := enters_of Tryz.func79 (by kernel_rfl) rfl
theorem entersG111 : Enters Tryz.prog 147 := enters_of Tryz.func147 (by kernel_rfl) rfl
theorem hasv111 (x y : Int) (A : Option Addr) (n c : Nat) (l : List Dot) (w : World) (h : Dots w A n c l) :
    Calls Tryz.prog 111 #[.slice A n c, .agg #[.int .i64 x, .int .i64 y]] w (Ret w (IsB (hasV l (x, y)))) := by
  have hb0 : Below w.heap.size w (w.alloc (.cells #[.int .i64 x, .int .i64 y] 67)) := (Below.refl _ _).alloc (Nat.le_refl _) _
  have h0 := h.mono hb0
  have k1 : (w.alloc (.cells #[.int .i64 x, .int .i64 y] 67)).cell? ⟨w.heap.size, 0, none⟩ = some (.int .i64 x) := by simp [go_sem]
  have k2 : (w.alloc (.cells #[.int .i64 x, .int .i64 y] 67)).cell? ⟨w.heap.size, 1, none⟩ = some (.int .i64 y) := by simp [go_sem]
  have cv := rvalid x y
  have cg := fun w1 h1 => rget A n c l x w1 h1
  cases hv : validD (x, y) with
  | false =>
    rw [hv] at cv
    rw [hasV_no hv]
    go_enter Tryz.func111, Tryz.ntmps111
    go_wp2_with fail
    refine wp_region_M mixed (by kernel_rfl) ?_
    refine MDerR.step (Ob.loadV Wanted.free Has.oldIs (fun w1 hb => load_dot hb k1 k2)) ?_
    refine MDerR.step (Ob.call1V Wanted.free entersV111 (Has.new 0 0) (fun w1 _ => cv w1)) ?_
    refine MDerR.step (Ob.move Wanted.free (Has.new 1 0)) ?_
    refine MDerR.step (Ob.off 2 0) ?_
    refine MDerR.step (Ob.off 2 1) ?_
    refine MDerR.step (Ob.off 2 2) ?_
    refine MDerR.step (Ob.off 2 3) ?_
    refine MDerR.step (Ob.off 2 4) ?_
    refine MDerR.step (Ob.off 2 5) ?_
    refine MDerR.step (Ob.off 2 6) ?_
    refine MDerR.step (Ob.pickF Wanted.free (Has.new 2 7) (Has.cst _)) ?_
    refine MDerR.step (Ob.assign Wanted.free (Has.new 10 0)) ?_
    simp only [MDerR, dstsOf, List.map, EndM, List.reverse_cons, List.reverse_nil, List.nil_append, List.cons_append]
    intro wE hE
    iterate 12 (rintro _ rfl)
    simp only [Act.put, List.setIfInBounds_toArray, List.set_cons_zero, List.set_cons_succ]
    go_wp2
    go_ret
    exact retB rfl (hb0.le hE)
  | true =>
    rw [hv] at cv
    rw [hasV_yes hv]
    generalize getV l x = q at cg ⊢
    go_enter Tryz.func111, Tryz.ntmps111
    go_wp2_with fail
    refine wp_region_M mixed (by kernel_rfl) ?_
    refine MDerR.step (Ob.loadV Wanted.free Has.oldIs (fun w1 hb => load_dot hb k1 k2)) ?_
    refine MDerR.step (Ob.call1V Wanted.free entersV111 (Has.new 0 0) (fun w1 _ => cv w1)) ?_
    refine MDerR.step (Ob.move Wanted.free (Has.new 1 0)) ?_
    refine MDerR.step (Ob.fieldV (Wanted.on 2 0) Has.oldIs (fun w1 => field_dot1)) ?_
    refine MDerR.step (Ob.loadV (Wanted.on 2 1) (Has.new 3 0) (fun w1 hb => load_int hb k2)) ?_
    refine MDerR.step (Ob.move (Wanted.on 2 2) Has.oldIs) ?_
    refine MDerR.step (Ob.fieldV (Wanted.on 2 3) Has.oldIs (fun w1 => field_dot0)) ?_
    refine MDerR.step (Ob.loadV (Wanted.on 2 4) (Has.new 6 0) (fun w1 hb => load_int hb k1)) ?_
    refine MDerR.step (Ob.call2V (Wanted.on 2 5) entersG111 (Has.new 5 2) (Has.new 7 0) (fun w1 hb => cg w1 (h0.mono hb))) ?_
    refine MDerR.step (Ob.binV (Wanted.on 2 6) (Has.new 4 4) (Has.new 8 0) (fun w1 => int_leq _ rfl)) ?_
    refine MDerR.step (Ob.pickT Wanted.free (Has.new 2 7) (Has.new 9 0)) ?_
    refine MDerR.step (Ob.assign Wanted.free (Has.new 10 0)) ?_
    simp only [MDerR, dstsOf, List.map, EndM, List.reverse_cons, List.reverse_nil, List.nil_append, List.cons_append]
    intro wE hE
    iterate 12 (rintro _ rfl)
    simp only [Act.put, List.setIfInBounds_toArray, List.set_cons_zero, List.set_cons_succ]
    go_wp2
    go_ret
    exact retB rfl (hb0.le hE)
theorem entersV130 : Enters Tryz.prog 97 := enters_of Tryz.func97 (by kernel_rfl) rfl
theorem entersG130 : Enters Tryz.prog 169 := enters_of Tryz.func169 (by kernel_rfl) rfl
theorem hasv130 (x y : Int) (A : Option Addr) (n c : Nat) (l : List Dot) (w : World) (h : Dots w A n c l) :
    Calls Tryz.prog 130 #[.slice A n c, .agg #[.int .i64 x, .int .i64 y]] w (Ret w (IsB (hasV l (x, y)))) := by
  have hb0 : Below w.heap.size w (w.alloc (.cells #[.int .i64 x, .int .i64 y] 67)) := (Below.refl _ _).alloc (Nat.le_refl _) _
  have h0 := h.mono hb0
  have k1 : (w.alloc (.cells #[.int .i64 x, .int .i64 y] 67)).cell? ⟨w.heap.size, 0, none⟩ = some (.int .i64 x) := by simp [go_sem]
  have k2 : (w.alloc (.cells #[.int .i64 x, .int .i64 y] 67)).cell? ⟨w.heap.size, 1, none⟩ = some (.int .i64 y) := by simp [go_sem]
  have cv := dvalid x y
  have cg := fun w1 h1 => vget A n c l x w1 h1
  cases hv : validD (x, y) with
  | false =>
    rw [hv] at cv
    rw [hasV_no hv]
    go_enter Tryz.func130, Tryz.ntmps130
    go_wp2_with fail
    refine wp_region_M mixed (by kernel_rfl) ?_
    refine MDerR.step (Ob.loadV Wanted.free Has.oldIs (fun w1 hb => load_dot hb k1 k2)) ?_
    refine MDerR.step (Ob.call1V Wanted.free entersV130 (Has.new 0 0) (fun w1 _ => cv w1)) ?_
    refine MDerR.step (Ob.move Wanted.free (Has.new 1 0)) ?_
    refine MDerR.step (Ob.off 2 0) ?_
    refine MDerR.step (Ob.off 2 1) ?_
    refine MDerR.step (Ob.off 2 2) ?_
    refine MDerR.step (Ob.off 2 3) ?_
    refine MDerR.step (Ob.off 2 4) ?_
    refine MDerR.step (Ob.off 2 5) ?_
    refine MDerR.step (Ob.off 2 6) ?_
    refine MDerR.step (Ob.pickF Wanted.free (Has.new 2 7) (Has.cst _)) ?_
    refine MDerR.step (Ob.assign Wanted.free (Has.new 10 0)) ?_
    simp only [MDerR, dstsOf, List.map, EndM, List.reverse_cons, List.reverse_nil, List.nil_append, List.cons_append]
    intro wE hE
    iterate 12 (rintro _ rfl)
    simp only [Act.put, List.setIfInBounds_toArray, List.set_cons_zero, List.set_cons_succ]
    go_wp2
    go_ret
    exact retB rfl (hb0.le hE)
  | true =>
    rw [hv] at cv
    rw [hasV_yes hv]
    generalize getV l x = q at cg ⊢
    go_enter Tryz.func130, Tryz.ntmps130
    go_wp2_with fail
    refine wp_region_M mixed (by kernel_rfl) ?_
    refine MDerR.step (Ob.loadV Wanted.free Has.oldIs (fun w1 hb => load_dot hb k1 k2)) ?_
    refine MDerR.step (Ob.call1V Wanted.free entersV130 (Has.new 0 0) (fun w1 _ => cv w1)) ?_
    refine MDerR.step (Ob.move Wanted.free (Has.new 1 0)) ?_
    refine MDerR.step (Ob.fieldV (Wanted.on 2 0) Has.oldIs (fun w1 => field_dot1)) ?_
    refine MDerR.step (Ob.loadV (Wanted.on 2 1) (Has.new 3 0) (fun w1 hb => load_int hb k2)) ?_
    refine MDerR.step (Ob.move (Wanted.on 2 2) Has.oldIs) ?_
    refine MDerR.step (Ob.fieldV (Wanted.on 2 3) Has.oldIs (fun w1 => field_dot0)) ?_
    refine MDerR.step (Ob.loadV (Wanted.on 2 4) (Has.new 6 0) (fun w1 hb => load_int hb k1)) ?_
    refine MDerR.step (Ob.call2V (Wanted.on 2 5) entersG130 (Has.new 5 2) (Has.new 7 0) (fun w1 hb => cg w1 (h0.mono hb))) ?_
    refine MDerR.step (Ob.binV (Wanted.on 2 6) (Has.new 4 4) (Has.new 8 0) (fun w1 => int_leq _ rfl)) ?_
    refine MDerR.step (Ob.pickT Wanted.free (Has.new 2 7) (Has.new 9 0)) ?_
    refine MDerR.step (Ob.assign Wanted.free (Has.new 10 0)) ?_
    simp only [MDerR, dstsOf, List.map, EndM, List.reverse_cons, List.reverse_nil, List.nil_append, List.cons_append]
    intro wE hE
    iterate 12 (rintro _ rfl)
    simp only [Act.put, List.setIfInBounds_toArray, List.set_cons_zero, List.set_cons_succ]
    go_wp2
    go_ret
    exact retB rfl (hb0.le hE)
end Go.Proofs.YtphhhnjeojdnkaaGreatDoor

namespace Go.Proofs.YtphhhnjeojdnkaaGreatDoor
open Go.RowKit
def incV : List Dot -> Bool
  | a :: b :: t => decide (a.1 < b.1) && incV (b :: t)
  | _ => true
def validV (l : List Dot) : Bool := incV l && validL l
theorem incV_short {l : List Dot} (h : l.length <= 1) : incV l = true := by
  match l, h with
  | [], _ => rfl
  | [a], _ => rfl
def IncRel (w : World) (n : Nat) (l : List Dot) (i : Value) (wr : World) : Prop :=
  ∃ k : Nat, i = .int .i64 (k + 1 : Nat) ∧ (k < n ∨ k = 0) ∧ Below w.heap.size w wr ∧ incV l = incV (l.drop k)
theorem IncRel.next {w w1 : World} {n k : Nat} {l : List Dot} (hb : Below w.heap.size w w1) (hk : k + 1 < n) {a b : Dot} {t : List Dot} (h1 : l.drop k = a :: l.drop (k + 1)) (h2 : l.drop (k + 1) = b :: t)
    (hs : incV l = incV (l.drop k)) (hl : a.1 < b.1) : IncRel w n l (.int .i64 ((k : Int) + 1 + 1)) w1 :=
  ⟨k + 1, by simp, .inl hk, hb, by rw [hs, h1, h2, incV]; have : decide (a.1 < b.1) = true := by simpa using hl
                                   rw [this, Bool.true_and]⟩
theorem inc_no {l : List Dot} {k : Nat} {a b : Dot} {t : List Dot} (h1 : l.drop k = a :: l.drop (k + 1)) (h2 : l.drop (k + 1) = b :: t) (hs : incV l = incV (l.drop k)) (hl : b.1 <= a.1) : validV l = false := by
  have : decide (a.1 < b.1) = false := by simpa using hl
  unfold validV; rw [hs, h1, h2, incV, this, Bool.false_and, Bool.false_and]
theorem vvalid (A : Option Addr) (n c : Nat) (l : List Dot) (w : World) (h : Dots w A n c l) : Calls Tryz.prog 215 #[.slice A n c] w (Ret w (IsB (validV l))) := by
  have hn := h.big
  go_enter Tryz.func215, Tryz.ntmps215
  go_wp2
  go_loopw [3] (fun i wr => IncRel w n l i wr) (fun i _ => n + 1 - (intOf i).toNat)
  case atStart => exact ⟨0, rfl, .inr rfl, Below.refl _ _, rfl⟩
  case round =>
    obtain ⟨k, rfl, hk, hb, hs⟩ := hrel
    by_cases hlt : k + 1 < n
    · have hr := h.mono hb
      obtain ⟨b, o, x, y, rfl, hbk, -, d1, c1, c2⟩ := hr.at_ (k := k) (by omega)
      obtain ⟨b', o', u, v, e', -, -, d2, c3, c4⟩ := hr.at_ (k := k + 1) hlt
      obtain ⟨rfl, rfl⟩ : b = b' ∧ o = o' := by simpa using e'
      clear e'
      have ew : IntKind.i64.wrap (k : Int) = k := IntWalk.i64_in _ (by omega)
      have g1 : (k : Int) + 1 < n := by omega
      have g2 : (0 : Int) <= (k : Int) + 1 := by omega
      have g3 : ((k : Int) + 1).toNat = k + 1 := by omega
      have g4 : (k : Int) < n := by omega
      have D1 := Lib.hid d1; have D2 := Lib.hid d2; have HS := Lib.hid hs
      clear d1 d2 hs
      by_cases hl : u <= x
      · have hd : decide (u <= x) = true := by simpa using hl
        go_wp2
        go_quiet (fail)
        go_wp2
        go_ret
        exact retB (inc_no D1.out D2.out HS.out hl).symm (hb.drewN' _)
      · have hd : decide (u <= x) = false := by simpa using hl
        go_wp2
        go_quiet (fail)
        go_wp2
        go_roundw
        case rel => exact IncRel.next (hb.drewN' _) hlt D1.out D2.out HS.out (by show x < u; omega)
        case measure => simp [intOf]; omega
    · have e := incV_short (l := l.drop k) (by rw [List.length_drop, <- h.len]; omega)
      have HE := Lib.hid (hs.trans e)
      have C := Lib.hid (ccontains58 243 #[] _ A n c l wr (h.mono hb) enters243 (asks243 l wr))
      have HA := Lib.hid (any_not l)
      generalize (l.any fun d => !validD d) = r at *
      clear e hs
      go_wp2_with (go_at_call 242; ((with_reducible refine C.out.mono ?_); rintro e w1 ⟨_, rfl, hb1, rfl⟩))
      go_ret
      exact retB (by unfold validV; rw [HE.out, HA.out]; rfl) (hb.le hb1)
def okP (p : Option Int) (r : Int) : Bool := match p with | none => true | some q => decide (q < r)
def goV : Option Int -> List Dot -> Bool
  | _, [] => true
  | p, a :: t => validD a && okP p a.1 && goV (some a.1) t
theorem goV_cons (p : Option Int) (a : Dot) (t : List Dot) : goV p (a :: t) = (validD a && okP p a.1 && goV (some a.1) t) := by cases p <;> rfl
theorem goV_nil (p : Option Int) : goV p [] = true := by cases p <;> rfl
theorem goV_some : ∀ (t : List Dot) (a : Dot), goV (some a.1) t = (incV (a :: t) && validL t)
  | [], a => rfl
  | b :: t, a => by
    simp only [goV_cons, okP, incV, validL, List.all_cons, goV_some t b]
    cases decide (a.1 < b.1) <;> cases validD b <;> cases incV (b :: t) <;> simp
theorem goV_none (l : List Dot) : goV none l = validV l := by
  cases l with
  | nil => rfl
  | cons a t =>
    simp only [goV_cons, okP, goV_some, validV, validL, List.all_cons]
    cases validD a <;> cases incV (a :: t) <;> simp
def before (l : List Dot) : Nat -> Option Int
  | 0 => none
  | k + 1 => (l[k]?).map (·.1)
def GoRel (w : World) (n : Nat) (l : List Dot) (i : Value) (wr : World) : Prop :=
  ∃ k : Nat, i = .int .i64 k ∧ k <= n ∧ Below w.heap.size w wr ∧ validV l = goV (before l k) (l.drop k)
theorem GoRel.next {w w1 : World} {n k : Nat} {l : List Dot} (hb : Below w.heap.size w w1) (hk : k < n) {a : Dot} (h0 : l[k]? = some a) (h1 : l.drop k = a :: l.drop (k + 1)) (hs : validV l = goV (before l k) (l.drop k)) (hv : validD a = true)
    (hl : okP (before l k) a.1 = true) : GoRel w n l (.int .i64 ((k : Int) + 1)) w1 :=
  ⟨k + 1, by simp, hk, hb, by rw [hs, h1, goV_cons, hv, hl, before, h0]; rfl⟩
theorem go_no {k : Nat} {l : List Dot} {a : Dot} (h1 : l.drop k = a :: l.drop (k + 1)) (hs : validV l = goV (before l k) (l.drop k)) (hv : validD a = false ∨ okP (before l k) a.1 = false) : validV l = false := by
  rw [hs, h1, goV_cons]
  rcases hv with h | h <;> rw [h] <;> simp
theorem enters79 : Enters Tryz.prog 79 := enters_of Tryz.func79 (by kernel_rfl) rfl
theorem enters177 : Enters Tryz.prog 177 := enters_of Tryz.func177 (by kernel_rfl) rfl
theorem rvalidV (A : Option Addr) (n c : Nat) (l : List Dot) (w : World) (h : Dots w A n c l) : Calls Tryz.prog 193 #[.slice A n c] w (Ret w (IsB (validV l))) := by
  have hn := h.big
  go_enter Tryz.func193, Tryz.ntmps193
  go_wp2
  go_loopw [3] (fun i wr => GoRel w n l i wr) (fun i _ => n - (intOf i).toNat)
  case atStart => exact ⟨0, rfl, by omega, Below.refl _ _, by rw [before, goV_none]; rfl⟩
  case round =>
    obtain ⟨k, rfl, hk, hb, hs⟩ := hrel
    by_cases hlt : k < n
    · have hr := h.mono hb
      obtain ⟨b, o, x, y, rfl, hbk, e0, d1, c1, c2⟩ := hr.at_ (k := k) hlt
      have D0 := Lib.hid e0; have D1 := Lib.hid d1; have HS := Lib.hid hs
      clear d1 hs e0
      have cv := rvalid x y
      cases hv : validD (x, y) with
      | false =>
        rw [hv] at cv
        have HV := Lib.hid hv; clear hv
        have CV := Lib.hid cv; clear cv
        go_wp2_with fail
        refine wp_region_M mixed (by kernel_rfl) ?_
        refine MDerR.step (Ob.move Wanted.free Has.oldIs) ?_
        refine MDerR.step (Ob.move Wanted.free Has.oldIs) ?_
        refine MDerR.step (Ob.indexV Wanted.free (Has.new 0 1) (Has.new 1 0) (fun w1 => index_vec hlt)) ?_
        refine MDerR.step (Ob.loadV Wanted.free (Has.new 2 0) (fun w1 hb1 => load_dot hb1 c1 c2)) ?_
        refine MDerR.step (Ob.call1V Wanted.free enters79 (Has.new 3 0) (fun w1 _ => CV.out w1)) ?_
        refine MDerR.step (Ob.not Wanted.free (Has.new 4 0)) ?_
        refine MDerR.step (Ob.move Wanted.free (Has.new 5 0)) ?_
        refine MDerR.step (Ob.off 6 0) ?_
        refine MDerR.step (Ob.off 6 1) ?_
        refine MDerR.step (Ob.off 6 2) ?_
        refine MDerR.step (Ob.offU 9 0) ?_
        refine MDerR.step (Ob.offU 9 1) ?_
        refine MDerR.step (Ob.offU 9 2) ?_
        refine MDerR.step (Ob.offU 9 3) ?_
        refine MDerR.step (Ob.offU 9 4) ?_
        refine MDerR.step (Ob.offU 9 5) ?_
        refine MDerR.step (Ob.offU 9 6) ?_
        refine MDerR.step (Ob.offU 9 7) ?_
        refine MDerR.step (Ob.offU 9 8) ?_
        refine MDerR.step (Ob.offU 9 9) ?_
        refine MDerR.step (Ob.offU 9 10) ?_
        refine MDerR.step (Ob.offU 9 11) ?_
        refine MDerR.step (Ob.off 6 15) ?_
        refine MDerR.step (Ob.pickT Wanted.free (Has.new 6 16) (Has.cst _)) ?_
        simp only [MDerR, dstsOf, List.map, EndM, List.reverse_cons, List.reverse_nil, List.nil_append, List.cons_append]
        intro wE hE
        iterate 24 (rintro _ rfl)
        simp only [Act.put, List.setIfInBounds_toArray, List.set_cons_zero, List.set_cons_succ]
        go_wp2
        go_ret
        exact retB (go_no D1.out HS.out (.inl HV.out)).symm (hb.le hE)
      | true =>
        rw [hv] at cv
        have HV := Lib.hid hv; clear hv
        have CV := Lib.hid cv; clear cv
        cases k with
        | zero =>
          go_wp2_with fail
          refine wp_region_M mixed (by kernel_rfl) ?_
          refine MDerR.step (Ob.move Wanted.free Has.oldIs) ?_
          refine MDerR.step (Ob.move Wanted.free Has.oldIs) ?_
          refine MDerR.step (Ob.indexV Wanted.free (Has.new 0 1) (Has.new 1 0) (fun w1 => index_vec hlt)) ?_
          refine MDerR.step (Ob.loadV Wanted.free (Has.new 2 0) (fun w1 hb1 => load_dot hb1 c1 c2)) ?_
          refine MDerR.step (Ob.call1V Wanted.free enters79 (Has.new 3 0) (fun w1 _ => CV.out w1)) ?_
          refine MDerR.step (Ob.not Wanted.free (Has.new 4 0)) ?_
          refine MDerR.step (Ob.move Wanted.free (Has.new 5 0)) ?_
          refine MDerR.step (Ob.move (Wanted.on 6 0) Has.oldIs) ?_
          refine MDerR.step (Ob.binV (Wanted.on 6 1) (Has.new 7 0) (Has.cst _) (fun w1 => int_gtr false (by simp))) ?_
          refine MDerR.step (Ob.move (Wanted.on 6 2) (Has.new 8 0)) ?_
          refine MDerR.step (Ob.off 9 0) ?_
          refine MDerR.step (Ob.off 9 1) ?_
          refine MDerR.step (Ob.off 9 2) ?_
          refine MDerR.step (Ob.off 9 3) ?_
          refine MDerR.step (Ob.off 9 4) ?_
          refine MDerR.step (Ob.off 9 5) ?_
          refine MDerR.step (Ob.off 9 6) ?_
          refine MDerR.step (Ob.off 9 7) ?_
          refine MDerR.step (Ob.off 9 8) ?_
          refine MDerR.step (Ob.off 9 9) ?_
          refine MDerR.step (Ob.off 9 10) ?_
          refine MDerR.step (Ob.off 9 11) ?_
          refine MDerR.step (Ob.pickF (Wanted.on 6 15) (Has.new 9 12) (Has.cst _)) ?_
          refine MDerR.step (Ob.pickF Wanted.free (Has.new 6 16) (Has.new 22 0)) ?_
          simp only [MDerR, dstsOf, List.map, EndM, List.reverse_cons, List.reverse_nil, List.nil_append, List.cons_append]
          intro wE hE
          iterate 24 (rintro _ rfl)
          simp only [Act.put, List.setIfInBounds_toArray, List.set_cons_zero, List.set_cons_succ]
          go_wp2
          go_roundw
          case rel => exact GoRel.next (hb.le hE) hlt D0.out D1.out HS.out HV.out rfl
          case measure => simp [intOf]; omega
        | succ j =>
          obtain ⟨b', o', u, v, e', -, e1, -, c3, c4⟩ := hr.at_ (k := j) (by omega)
          obtain ⟨rfl, rfl⟩ : b = b' ∧ o = o' := by simpa using e'
          have hbf : before l (j + 1) = some u := by rw [before, e1]; rfl
          clear e' e1
          have HB := Lib.hid hbf; clear hbf
          have hgt : decide ((0 : Int) < ((j + 1 : Nat) : Int)) = true := by simp
          have HG := Lib.hid hgt; clear hgt
          cases hl : decide (x <= u) with
          | true =>
            have HL := Lib.hid hl; clear hl
            go_wp2_with fail
            refine wp_region_M mixed (by kernel_rfl) ?_
            refine MDerR.step (Ob.move Wanted.free Has.oldIs) ?_
            refine MDerR.step (Ob.move Wanted.free Has.oldIs) ?_
            refine MDerR.step (Ob.indexV Wanted.free (Has.new 0 1) (Has.new 1 0) (fun w1 => index_vec hlt)) ?_
            refine MDerR.step (Ob.loadV Wanted.free (Has.new 2 0) (fun w1 hb1 => load_dot hb1 c1 c2)) ?_
            refine MDerR.step (Ob.call1V Wanted.free enters79 (Has.new 3 0) (fun w1 _ => CV.out w1)) ?_
            refine MDerR.step (Ob.not Wanted.free (Has.new 4 0)) ?_
            refine MDerR.step (Ob.move Wanted.free (Has.new 5 0)) ?_
            refine MDerR.step (Ob.move (Wanted.on 6 0) Has.oldIs) ?_
            refine MDerR.step (Ob.binV (Wanted.on 6 1) (Has.new 7 0) (Has.cst _) (fun w1 => int_gtr true HG.out)) ?_
            refine MDerR.step (Ob.move (Wanted.on 6 2) (Has.new 8 0)) ?_
            refine MDerR.step (Ob.move (Wanted.on 9 0) Has.oldIs) ?_
            refine MDerR.step (Ob.move (Wanted.on 9 1) Has.oldIs) ?_
            refine MDerR.step (Ob.binV (Wanted.on 9 2) (Has.new 11 0) (Has.cst _) (fun w1 => sub_one (by omega))) ?_
            refine MDerR.step (Ob.indexV (Wanted.on 9 3) (Has.new 10 2) (Has.new 12 0) (fun w1 => index_vec (by omega))) ?_
            refine MDerR.step (Ob.fieldV (Wanted.on 9 4) (Has.new 13 0) (fun w1 => field_dot0)) ?_
            refine MDerR.step (Ob.loadV (Wanted.on 9 5) (Has.new 14 0) (fun w1 hb1 => load_int hb1 c3)) ?_
            refine MDerR.step (Ob.move (Wanted.on 9 6) Has.oldIs) ?_
            refine MDerR.step (Ob.move (Wanted.on 9 7) Has.oldIs) ?_
            refine MDerR.step (Ob.indexV (Wanted.on 9 8) (Has.new 16 1) (Has.new 17 0) (fun w1 => index_vec hlt)) ?_
            refine MDerR.step (Ob.fieldV (Wanted.on 9 9) (Has.new 18 0) (fun w1 => field_dot0)) ?_
            refine MDerR.step (Ob.loadV (Wanted.on 9 10) (Has.new 19 0) (fun w1 hb1 => load_int hb1 c1)) ?_
            refine MDerR.step (Ob.binV (Wanted.on 9 11) (Has.new 15 5) (Has.new 20 0) (fun w1 => int_geq true HL.out)) ?_
            refine MDerR.step (Ob.pickT (Wanted.on 6 15) (Has.new 9 12) (Has.new 21 0)) ?_
            refine MDerR.step (Ob.pickF Wanted.free (Has.new 6 16) (Has.new 22 0)) ?_
            simp only [MDerR, dstsOf, List.map, EndM, List.reverse_cons, List.reverse_nil, List.nil_append, List.cons_append]
            intro wE hE
            iterate 24 (rintro _ rfl)
            simp only [Act.put, List.setIfInBounds_toArray, List.set_cons_zero, List.set_cons_succ]
            go_wp2
            go_ret
            exact retB (go_no D1.out HS.out (.inr (by rw [HB.out]; have := HL.out; simp at this; simpa [okP] using this))).symm (hb.le hE)
          | false =>
            have HL := Lib.hid hl; clear hl
            go_wp2_with fail
            refine wp_region_M mixed (by kernel_rfl) ?_
            refine MDerR.step (Ob.move Wanted.free Has.oldIs) ?_
            refine MDerR.step (Ob.move Wanted.free Has.oldIs) ?_
            refine MDerR.step (Ob.indexV Wanted.free (Has.new 0 1) (Has.new 1 0) (fun w1 => index_vec hlt)) ?_
            refine MDerR.step (Ob.loadV Wanted.free (Has.new 2 0) (fun w1 hb1 => load_dot hb1 c1 c2)) ?_
            refine MDerR.step (Ob.call1V Wanted.free enters79 (Has.new 3 0) (fun w1 _ => CV.out w1)) ?_
            refine MDerR.step (Ob.not Wanted.free (Has.new 4 0)) ?_
            refine MDerR.step (Ob.move Wanted.free (Has.new 5 0)) ?_
            refine MDerR.step (Ob.move (Wanted.on 6 0) Has.oldIs) ?_
            refine MDerR.step (Ob.binV (Wanted.on 6 1) (Has.new 7 0) (Has.cst _) (fun w1 => int_gtr true HG.out)) ?_
            refine MDerR.step (Ob.move (Wanted.on 6 2) (Has.new 8 0)) ?_
            refine MDerR.step (Ob.move (Wanted.on 9 0) Has.oldIs) ?_
            refine MDerR.step (Ob.move (Wanted.on 9 1) Has.oldIs) ?_
            refine MDerR.step (Ob.binV (Wanted.on 9 2) (Has.new 11 0) (Has.cst _) (fun w1 => sub_one (by omega))) ?_
            refine MDerR.step (Ob.indexV (Wanted.on 9 3) (Has.new 10 2) (Has.new 12 0) (fun w1 => index_vec (by omega))) ?_
            refine MDerR.step (Ob.fieldV (Wanted.on 9 4) (Has.new 13 0) (fun w1 => field_dot0)) ?_
            refine MDerR.step (Ob.loadV (Wanted.on 9 5) (Has.new 14 0) (fun w1 hb1 => load_int hb1 c3)) ?_
            refine MDerR.step (Ob.move (Wanted.on 9 6) Has.oldIs) ?_
            refine MDerR.step (Ob.move (Wanted.on 9 7) Has.oldIs) ?_
            refine MDerR.step (Ob.indexV (Wanted.on 9 8) (Has.new 16 1) (Has.new 17 0) (fun w1 => index_vec hlt)) ?_
            refine MDerR.step (Ob.fieldV (Wanted.on 9 9) (Has.new 18 0) (fun w1 => field_dot0)) ?_
            refine MDerR.step (Ob.loadV (Wanted.on 9 10) (Has.new 19 0) (fun w1 hb1 => load_int hb1 c1)) ?_
            refine MDerR.step (Ob.binV (Wanted.on 9 11) (Has.new 15 5) (Has.new 20 0) (fun w1 => int_geq false HL.out)) ?_
            refine MDerR.step (Ob.pickT (Wanted.on 6 15) (Has.new 9 12) (Has.new 21 0)) ?_
            refine MDerR.step (Ob.pickF Wanted.free (Has.new 6 16) (Has.new 22 0)) ?_
            simp only [MDerR, dstsOf, List.map, EndM, List.reverse_cons, List.reverse_nil, List.nil_append, List.cons_append]
            intro wE hE
            iterate 24 (rintro _ rfl)
            simp only [Act.put, List.setIfInBounds_toArray, List.set_cons_zero, List.set_cons_succ]
            go_wp2
            go_roundw
            case rel => exact GoRel.next (hb.le hE) hlt D0.out D1.out HS.out HV.out (by rw [HB.out]; have := HL.out; simp at this; simpa [okP] using this)
            case measure => simp [intOf]; omega
    · have HS := Lib.hid hs; clear hs
      go_wp2
      go_ret
      exact retB (by rw [HS.out, List.drop_of_length_le (by rw [<- h.len]; omega), goV_nil]) hb
end Go.Proofs.YtphhhnjeojdnkaaGreatDoor

namespace Go.Proofs.YtphhhnjeojdnkaaGreatDoor
open Go.RowKit
abbrev Ctx := List Dot × List Dot
def validC (c : Ctx) : Bool := validV c.1 && (isSet c.2 && validL c.2)
def hasC (c : Ctx) (d : Dot) : Bool := hasV c.1 d || (validD d && memD d c.2)
theorem disset (A : Option Addr) (n c : Nat) (l : List Dot) (w : World) (h : Dots w A n c l) : Calls Tryz.prog 216 #[.slice A n c] w (Ret w (IsB (isSet l))) := by
  have hn := h.big
  go_enter Tryz.func216, Tryz.ntmps216
  go_wp2
  go_loopw [3] (fun i wr => SetRel w n l i wr) (fun i _ => n + 1 - (intOf i).toNat)
  case atStart => exact ⟨0, rfl, .inr rfl, Below.refl _ _, rfl⟩
  case round =>
    obtain ⟨k, rfl, hk, hb, hs⟩ := hrel
    by_cases hlt : k + 1 < n
    · have hr := h.mono hb
      obtain ⟨b, o, x, y, rfl, hbk, -, d1, c1, c2⟩ := hr.at_ (k := k) (by omega)
      obtain ⟨b', o', u, v, e', -, -, d2, c3, c4⟩ := hr.at_ (k := k + 1) hlt
      obtain ⟨rfl, rfl⟩ : b = b' ∧ o = o' := by simpa using e'
      clear e'
      have D1 := Lib.hid d1; have D2 := Lib.hid d2; have HS := Lib.hid hs
      clear d1 d2 hs
      have CL := Lib.hid (dcompare x y u v)
      have hi : k + 1 <= 9223372036854775807 := by omega
      cases hl : lessD (x, y) (u, v) with
      | true =>
        have HL := Lib.hid hl; clear hl
        have hc : decide (0 <= cmpD (x, y) (u, v)) = false := by rw [decide_eq_false_iff_not]; have := cmpD_lt.2 HL.out; omega
        have HC := Lib.hid hc; clear hc
        go_wp2_with fail
        refine wp_region_M mixed (by kernel_rfl) ?_
        refine MDerR.step (Ob.move Wanted.free Has.oldIs) ?_
        refine MDerR.step (Ob.move Wanted.free Has.oldIs) ?_
        refine MDerR.step (Ob.binV Wanted.free (Has.new 1 0) (Has.cst _) (fun w1 => sub_one hi)) ?_
        refine MDerR.step (Ob.indexV Wanted.free (Has.new 0 2) (Has.new 2 0) (fun w1 => index_dots (by omega))) ?_
        refine MDerR.step (Ob.loadV Wanted.free (Has.new 3 0) (fun w1 hb1 => load_dot hb1 c1 c2)) ?_
        refine MDerR.step (Ob.move Wanted.free Has.oldIs) ?_
        refine MDerR.step (Ob.move Wanted.free Has.oldIs) ?_
        refine MDerR.step (Ob.indexV Wanted.free (Has.new 5 1) (Has.new 6 0) (fun w1 => index_dots hlt)) ?_
        refine MDerR.step (Ob.loadV Wanted.free (Has.new 7 0) (fun w1 hb1 => load_dot hb1 c3 c4)) ?_
        refine MDerR.step (Ob.call2V Wanted.free enters177 (Has.new 4 4) (Has.new 8 0) (fun w1 _ => CL.out w1)) ?_
        refine MDerR.step (Ob.binV Wanted.free (Has.new 9 0) (Has.cst _) (fun w1 => int_geq false HC.out)) ?_
        simp only [MDerR, dstsOf, List.map, EndM, List.reverse_cons, List.reverse_nil, List.nil_append, List.cons_append]
        intro wE hE
        iterate 11 (rintro _ rfl)
        simp only [Act.put, List.setIfInBounds_toArray, List.set_cons_zero, List.set_cons_succ]
        go_wp2
        go_roundw
        case rel => exact SetRel.next hb hE hlt D1.out D2.out HS.out HL.out
        case measure => simp [intOf]; omega
      | false =>
        have HL := Lib.hid hl; clear hl
        have hc : decide (0 <= cmpD (x, y) (u, v)) = true := by
          rw [decide_eq_true_iff]
          by_cases h1 : cmpD (x, y) (u, v) < 0
          · rw [cmpD_lt, HL.out] at h1; cases h1
          · omega
        have HC := Lib.hid hc; clear hc
        go_wp2_with fail
        refine wp_region_M mixed (by kernel_rfl) ?_
        refine MDerR.step (Ob.move Wanted.free Has.oldIs) ?_
        refine MDerR.step (Ob.move Wanted.free Has.oldIs) ?_
        refine MDerR.step (Ob.binV Wanted.free (Has.new 1 0) (Has.cst _) (fun w1 => sub_one hi)) ?_
        refine MDerR.step (Ob.indexV Wanted.free (Has.new 0 2) (Has.new 2 0) (fun w1 => index_dots (by omega))) ?_
        refine MDerR.step (Ob.loadV Wanted.free (Has.new 3 0) (fun w1 hb1 => load_dot hb1 c1 c2)) ?_
        refine MDerR.step (Ob.move Wanted.free Has.oldIs) ?_
        refine MDerR.step (Ob.move Wanted.free Has.oldIs) ?_
        refine MDerR.step (Ob.indexV Wanted.free (Has.new 5 1) (Has.new 6 0) (fun w1 => index_dots hlt)) ?_
        refine MDerR.step (Ob.loadV Wanted.free (Has.new 7 0) (fun w1 hb1 => load_dot hb1 c3 c4)) ?_
        refine MDerR.step (Ob.call2V Wanted.free enters177 (Has.new 4 4) (Has.new 8 0) (fun w1 _ => CL.out w1)) ?_
        refine MDerR.step (Ob.binV Wanted.free (Has.new 9 0) (Has.cst _) (fun w1 => int_geq true HC.out)) ?_
        simp only [MDerR, dstsOf, List.map, EndM, List.reverse_cons, List.reverse_nil, List.nil_append, List.cons_append]
        intro wE hE
        iterate 11 (rintro _ rfl)
        simp only [Act.put, List.setIfInBounds_toArray, List.set_cons_zero, List.set_cons_succ]
        go_wp2
        go_ret
        exact retB (set_no D1.out D2.out HS.out HL.out).symm (hb.le hE)
    · have e := isSet_short (l := l.drop k) (by rw [List.length_drop, <- h.len]; omega)
      have HE := Lib.hid (hs.trans e)
      clear e hs
      go_wp2
      go_ret
      exact retB HE.out.symm hb
def AllRel (w : World) (n : Nat) (l : List Dot) (i : Value) (wr : World) : Prop :=
  ∃ k : Nat, i = .int .i64 k ∧ k <= n ∧ Below w.heap.size w wr ∧ validL l = validL (l.drop k)
theorem rvalidL (A : Option Addr) (n c : Nat) (l : List Dot) (w : World) (h : Dots w A n c l) : Calls Tryz.prog 195 #[.slice A n c] w (Ret w (IsB (validL l))) := by
  have hn := h.big
  go_enter Tryz.func195, Tryz.ntmps195
  go_wp2
  go_loopw [3] (fun i wr => AllRel w n l i wr) (fun i _ => n - (intOf i).toNat)
  case atStart => exact ⟨0, rfl, by omega, Below.refl _ _, rfl⟩
  case round =>
    obtain ⟨k, rfl, hk, hb, hs⟩ := hrel
    by_cases hlt : k < n
    · obtain ⟨b, o, x, y, rfl, hbk, -, d1, c1, c2⟩ := (h.mono hb).at_ (k := k) hlt
      have D1 := Lib.hid d1; have HS := Lib.hid hs
      clear d1 hs
      have cv := rvalid x y
      cases hv : validD (x, y) with
      | false =>
        rw [hv] at cv
        have HV := Lib.hid hv; clear hv
        have CV := Lib.hid cv; clear cv
        go_wp2_with (go_at_call 79; ((with_reducible refine (CV.out _).mono ?_); rintro e w1 ⟨_, rfl, hb1, rfl⟩))
        go_ret
        exact retB (by rw [HS.out, D1.out]; simp [validL, HV.out]) (hb.le hb1)
      | true =>
        rw [hv] at cv
        have HV := Lib.hid hv; clear hv
        have CV := Lib.hid cv; clear cv
        go_wp2_with (go_at_call 79; ((with_reducible refine (CV.out _).mono ?_); rintro e w1 ⟨_, rfl, hb1, rfl⟩))
        go_roundw
        case rel => exact ⟨k + 1, by simp, hlt, hb.le hb1, by rw [HS.out, D1.out]; simp [validL, HV.out]⟩
        case measure => simp [intOf]; omega
    · have HS := Lib.hid hs; clear hs
      go_wp2
      go_ret
      exact retB (by rw [HS.out, List.drop_of_length_le (by rw [<- h.len]; omega)]; rfl) hb
structure Con (w : World) (A : Option Addr) (n ca : Nat) (B : Option Addr) (m cb : Nat) (c : Ctx) : Prop where
  v : Dots w A n ca c.1
  k : Dots w B m cb c.2
theorem Con.mono {w w' : World} {A B : Option Addr} {n ca m cb : Nat} {c : Ctx} (h : Con w A n ca B m cb c) (hb : Below w.heap.size w w') : Con w' A n ca B m cb c := ⟨h.v.mono hb, h.k.mono hb⟩
abbrev conBox (A : Option Addr) (n ca : Nat) (B : Option Addr) (m cb : Nat) : Obj := .cells #[.slice A n ca, .slice B m cb] 60
theorem cvalid170 (A B : Option Addr) (n ca m cb : Nat) (c : Ctx) (w : World) (h : Con w A n ca B m cb c) :
    Calls Tryz.prog 170 #[.agg #[.slice A n ca, .slice B m cb]] w (Ret w (IsB (validC c))) := by
  have hb0 : Below w.heap.size w (w.alloc (conBox A n ca B m cb)) := (Below.refl _ _).alloc (Nat.le_refl _) _
  have h0 := h.mono hb0
  have hz : w.heap.size < (w.alloc (conBox A n ca B m cb)).heap.size := by simp
  have f1 := fun w1 h1 => vvalid A n ca c.1 w1 h1
  have f2 := fun w1 h1 => disset B m cb c.2 w1 h1
  have f3 := fun w1 h1 => cvalidL B m cb c.2 w1 h1
  unfold validC
  generalize validV c.1 = r1 at *
  generalize isSet c.2 = r2 at *
  generalize validL c.2 = r3 at *
  have F1 := Lib.hid f1; have F2 := Lib.hid f2; have F3 := Lib.hid f3; have H0 := Lib.hid h0; have HB := Lib.hid hb0
  clear f1 f2 f3 h0 h hb0
  cases r1 with
  | false =>
    go_enter Tryz.func170, Tryz.ntmps170
    go_wp2_with (first
      | (go_at_call 215; ((with_reducible refine (F1.out _ H0.out.v).mono ?_); rintro e w1 ⟨_, rfl, hb1, rfl⟩)))
    go_ret
    exact retB rfl (HB.out.le hb1)
  | true =>
    cases r2 with
    | false =>
      go_enter Tryz.func170, Tryz.ntmps170
      go_wp2_with (first
        | (go_at_call 215; ((with_reducible refine (F1.out _ H0.out.v).mono ?_); rintro e w1 ⟨_, rfl, hb1, rfl⟩; have hc1 := (bcell hb1).1))
        | (go_at_call 216; ((with_reducible refine (F2.out _ (H0.out.k.mono hb1)).mono ?_); rintro e w2 ⟨_, rfl, hb2, rfl⟩)))
      go_ret
      exact retB rfl ((HB.out.le hb1).le hb2)
    | true =>
      go_enter Tryz.func170, Tryz.ntmps170
      go_wp2_with (first
        | (go_at_call 215; ((with_reducible refine (F1.out _ H0.out.v).mono ?_); rintro e w1 ⟨_, rfl, hb1, rfl⟩; have hc1 := (bcell hb1).1))
        | (go_at_call 216; ((with_reducible refine (F2.out _ (H0.out.k.mono hb1)).mono ?_); rintro e w2 ⟨_, rfl, hb2, rfl⟩; have hc2 := (bcell (hb1.le hb2)).1))
        | (go_at_call 188; ((with_reducible refine (F3.out _ (H0.out.k.mono (hb1.le hb2))).mono ?_); rintro e w3 ⟨_, rfl, hb3, rfl⟩)))
      go_ret
      exact retB rfl (((HB.out.le hb1).le hb2).le hb3)
theorem cvalid148 (A B : Option Addr) (n ca m cb : Nat) (c : Ctx) (w : World) (h : Con w A n ca B m cb c) :
    Calls Tryz.prog 148 #[.agg #[.slice A n ca, .slice B m cb]] w (Ret w (IsB (validC c))) := by
  have hb0 : Below w.heap.size w (w.alloc (conBox A n ca B m cb)) := (Below.refl _ _).alloc (Nat.le_refl _) _
  have h0 := h.mono hb0
  have hz : w.heap.size < (w.alloc (conBox A n ca B m cb)).heap.size := by simp
  have f1 := fun w1 h1 => rvalidV A n ca c.1 w1 h1
  have f2 := fun w1 h1 => risset B m cb c.2 w1 h1
  have f3 := fun w1 h1 => rvalidL B m cb c.2 w1 h1
  unfold validC
  generalize validV c.1 = r1 at *
  generalize isSet c.2 = r2 at *
  generalize validL c.2 = r3 at *
  have F1 := Lib.hid f1; have F2 := Lib.hid f2; have F3 := Lib.hid f3; have H0 := Lib.hid h0; have HB := Lib.hid hb0
  clear f1 f2 f3 h0 h hb0
  cases r1 with
  | false =>
    go_enter Tryz.func148, Tryz.ntmps148
    go_wp2_with (first
      | (go_at_call 193; ((with_reducible refine (F1.out _ H0.out.v).mono ?_); rintro e w1 ⟨_, rfl, hb1, rfl⟩)))
    go_ret
    exact retB rfl (HB.out.le hb1)
  | true =>
    cases r2 with
    | false =>
      go_enter Tryz.func148, Tryz.ntmps148
      go_wp2_with (first
        | (go_at_call 193; ((with_reducible refine (F1.out _ H0.out.v).mono ?_); rintro e w1 ⟨_, rfl, hb1, rfl⟩; have hc1 := (bcell hb1).1))
        | (go_at_call 194; ((with_reducible refine (F2.out _ (H0.out.k.mono hb1)).mono ?_); rintro e w2 ⟨_, rfl, hb2, rfl⟩)))
      go_ret
      exact retB rfl ((HB.out.le hb1).le hb2)
    | true =>
      go_enter Tryz.func148, Tryz.ntmps148
      go_wp2_with (first
        | (go_at_call 193; ((with_reducible refine (F1.out _ H0.out.v).mono ?_); rintro e w1 ⟨_, rfl, hb1, rfl⟩; have hc1 := (bcell hb1).1))
        | (go_at_call 194; ((with_reducible refine (F2.out _ (H0.out.k.mono hb1)).mono ?_); rintro e w2 ⟨_, rfl, hb2, rfl⟩; have hc2 := (bcell (hb1.le hb2)).1))
        | (go_at_call 195; ((with_reducible refine (F3.out _ (H0.out.k.mono (hb1.le hb2))).mono ?_); rintro e w3 ⟨_, rfl, hb3, rfl⟩)))
      go_ret
      exact retB rfl (((HB.out.le hb1).le hb2).le hb3)
end Go.Proofs.YtphhhnjeojdnkaaGreatDoor

namespace Go.Proofs.YtphhhnjeojdnkaaGreatDoor
open Go.RowKit
theorem chas (x y : Int) (A B : Option Addr) (n ca m cb : Nat) (c : Ctx) (w : World) (h : Con w A n ca B m cb c) :
    Calls Tryz.prog 98 #[.agg #[.slice A n ca, .slice B m cb], .agg #[.int .i64 x, .int .i64 y]] w (Ret w (IsB (hasC c (x, y)))) := by
  have hb0 : Below w.heap.size w ((w.alloc (conBox A n ca B m cb)).alloc (.cells #[.int .i64 x, .int .i64 y] 67)) := by go_grown
  have h0 := h.mono hb0
  have hz : w.heap.size + 1 < ((w.alloc (conBox A n ca B m cb)).alloc (.cells #[.int .i64 x, .int .i64 y] 67)).heap.size := by simp
  have f1 := fun w1 h1 => hasv130 x y A n ca c.1 w1 h1
  have f2 := fun w1 => dvalid x y w1
  have f3 := fun w1 h1 => dhas x y B m cb c.2 w1 h1
  unfold hasC
  generalize hasV c.1 (x, y) = r1 at *
  generalize validD (x, y) = r2 at *
  generalize memD (x, y) c.2 = r3 at *
  have F1 := Lib.hid f1; have F2 := Lib.hid f2; have F3 := Lib.hid f3; have H0 := Lib.hid h0; have HB := Lib.hid hb0
  clear f1 f2 f3 h0 h hb0
  cases r1 with
  | true =>
    go_enter Tryz.func98, Tryz.ntmps98
    go_wp2_with (first
      | (go_at_call 130; ((with_reducible refine (F1.out _ H0.out.v).mono ?_); rintro e w1 ⟨_, rfl, hb1, rfl⟩)))
    go_ret
    exact retB rfl (HB.out.le hb1)
  | false =>
    cases r2 with
    | false =>
      go_enter Tryz.func98, Tryz.ntmps98
      go_wp2_with (first
        | (go_at_call 130; ((with_reducible refine (F1.out _ H0.out.v).mono ?_); rintro e w1 ⟨_, rfl, hb1, rfl⟩; have hc1 := (bcell hb1).1))
        | (go_at_call 97; ((with_reducible refine (F2.out _).mono ?_); rintro e w2 ⟨_, rfl, hb2, rfl⟩)))
      go_ret
      exact retB rfl ((HB.out.le hb1).le hb2)
    | true =>
      go_enter Tryz.func98, Tryz.ntmps98
      go_wp2_with (first
        | (go_at_call 130; ((with_reducible refine (F1.out _ H0.out.v).mono ?_); rintro e w1 ⟨_, rfl, hb1, rfl⟩; have hc1 := (bcell hb1).1))
        | (go_at_call 97; ((with_reducible refine (F2.out _).mono ?_); rintro e w2 ⟨_, rfl, hb2, rfl⟩; have hc2 := (bcell (hb1.le hb2)).1))
        | (go_at_call 131; ((with_reducible refine (F3.out _ (H0.out.k.mono (hb1.le hb2))).mono ?_); rintro e w3 ⟨_, rfl, hb3, rfl⟩)))
      go_ret
      exact retB rfl (((HB.out.le hb1).le hb2).le hb3)
theorem hasC_ref (c : Ctx) (d : Dot) : hasC c d = (validD d && (hasV c.1 d || memD d c.2)) := by
  unfold hasC hasV; cases validD d <;> simp
theorem rchas (x y : Int) (A B : Option Addr) (n ca m cb : Nat) (c : Ctx) (w : World) (h : Con w A n ca B m cb c) :
    Calls Tryz.prog 80 #[.agg #[.slice A n ca, .slice B m cb], .agg #[.int .i64 x, .int .i64 y]] w (Ret w (IsB (hasC c (x, y)))) := by
  have hb0 : Below w.heap.size w ((w.alloc (conBox A n ca B m cb)).alloc (.cells #[.int .i64 x, .int .i64 y] 67)) := by go_grown
  have h0 := h.mono hb0
  have hz : w.heap.size + 1 < ((w.alloc (conBox A n ca B m cb)).alloc (.cells #[.int .i64 x, .int .i64 y] 67)).heap.size := by simp
  have f1 := fun w1 h1 => hasv111 x y A n ca c.1 w1 h1
  have f2 := fun w1 => rvalid x y w1
  have f3 := fun w1 h1 => rhas x y B m cb c.2 w1 h1
  rw [hasC_ref]
  generalize hasV c.1 (x, y) = r1 at *
  generalize validD (x, y) = r2 at *
  generalize memD (x, y) c.2 = r3 at *
  have F1 := Lib.hid f1; have F2 := Lib.hid f2; have F3 := Lib.hid f3; have H0 := Lib.hid h0; have HB := Lib.hid hb0
  clear f1 f2 f3 h0 h hb0
  cases r2 with
  | false =>
    go_enter Tryz.func80, Tryz.ntmps80
    go_wp2_with (first
      | (go_at_call 79; ((with_reducible refine (F2.out _).mono ?_); rintro e w1 ⟨_, rfl, hb1, rfl⟩)))
    go_ret
    exact retB rfl (HB.out.le hb1)
  | true =>
    cases r1 with
    | true =>
      go_enter Tryz.func80, Tryz.ntmps80
      go_wp2_with (first
        | (go_at_call 79; ((with_reducible refine (F2.out _).mono ?_); rintro e w1 ⟨_, rfl, hb1, rfl⟩; have hc1 := (bcell hb1).1))
        | (go_at_call 111; ((with_reducible refine (F1.out _ (H0.out.v.mono hb1)).mono ?_); rintro e w2 ⟨_, rfl, hb2, rfl⟩)))
      go_ret
      exact retB rfl ((HB.out.le hb1).le hb2)
    | false =>
      go_enter Tryz.func80, Tryz.ntmps80
      go_wp2_with (first
        | (go_at_call 79; ((with_reducible refine (F2.out _).mono ?_); rintro e w1 ⟨_, rfl, hb1, rfl⟩; have hc1 := (bcell hb1).1))
        | (go_at_call 111; ((with_reducible refine (F1.out _ (H0.out.v.mono hb1)).mono ?_); rintro e w2 ⟨_, rfl, hb2, rfl⟩; have hc2 := (bcell (hb1.le hb2)).1))
        | (go_at_call 112; ((with_reducible refine (F3.out _ (H0.out.k.mono (hb1.le hb2))).mono ?_); rintro e w3 ⟨_, rfl, hb3, rfl⟩)))
      go_ret
      exact retB rfl (((HB.out.le hb1).le hb2).le hb3)
end Go.Proofs.YtphhhnjeojdnkaaGreatDoor

namespace Go.Proofs.YtphhhnjeojdnkaaGreatDoor
open Go.RowKit
def nearD (v : List Dot) (d : Dot) : Bool := decide (d.2 <= getV v d.1 + 1)
def compC (c : Ctx) : Bool := validC c && !c.2.any (nearD c.1)
theorem getV_bd : ∀ (l : List Dot) (r : Int), validL l = true -> 0 <= getV l r ∧ getV l r <= 4294967295
  | [], _, _ => ⟨by simp [getV], by simp [getV]⟩
  | a :: t, r, h => by
    simp only [validL, List.all_cons, Bool.and_eq_true] at h
    have h1 := validD_iff.1 h.1
    simp only [getV]
    split
    · omega
    · exact getV_bd t r h.2
theorem asksNear (A : Option Addr) (n ca : Nat) (v l : List Dot) (b : Nat) (w : World) (hv : validL v = true) (h : Dots w A n ca v) (hc : w.cell? ⟨b, 0, none⟩ = some (.slice A n ca)) :
    Asks w 168 #[.pointer (some ⟨b, 0, none⟩)] l (nearD v) := by
  intro w' hw x y _
  show Calls Tryz.prog 168 #[.agg #[.int .i64 x, .int .i64 y], .pointer (some ⟨b, 0, none⟩)] w' (Ret w' (IsB (nearD v (x, y))))
  have hb0 : Below w'.heap.size w' (w'.alloc (.cells #[.int .i64 x, .int .i64 y] 67)) := by go_grown
  have k1 : (w'.alloc (.cells #[.int .i64 x, .int .i64 y] 67)).cell? ⟨w'.heap.size, 0, none⟩ = some (.int .i64 x) := by simp [go_sem]
  have k2 : (w'.alloc (.cells #[.int .i64 x, .int .i64 y] 67)).cell? ⟨w'.heap.size, 1, none⟩ = some (.int .i64 y) := by simp [go_sem]
  have k3 : (w'.alloc (.cells #[.int .i64 x, .int .i64 y] 67)).cell? ⟨b, 0, none⟩ = some (.slice A n ca) := cellKeep hb0 (cellKeep hw hc)
  have h0 := (h.mono hw).mono hb0
  have cg := fun w1 h1 => vget A n ca v x w1 h1
  have hbd := getV_bd v x hv
  unfold nearD
  generalize getV v (x, y).1 = q at *
  have ew : IntKind.i64.wrap (q + 1) = q + 1 := IntWalk.i64_in _ (by omega)
  have CG := Lib.hid cg; have H0 := Lib.hid h0; have EW := Lib.hid ew; have HB := Lib.hid hb0; have K1 := Lib.hid k1; have K2 := Lib.hid k2; have K3 := Lib.hid k3
  clear cg h0 h hw hc ew hbd hv hb0 k1 k2 k3
  go_enter Tryz.func168, Tryz.ntmps168
  go_wp2_with fail
  refine wp_region_M mixed (by kernel_rfl) ?_
  refine MDerR.step (Ob.fieldV Wanted.free Has.oldIs (fun w1 => field_dot1)) ?_
  refine MDerR.step (Ob.loadV Wanted.free (Has.new 0 0) (fun w1 hb1 => load_int hb1 K2.out)) ?_
  refine MDerR.step (Ob.fieldV Wanted.free Has.oldIs (fun w1 => field_con0)) ?_
  refine MDerR.step (Ob.loadV Wanted.free (Has.new 2 0) (fun w1 hb1 => load_vec hb1 K3.out)) ?_
  refine MDerR.step (Ob.fieldV Wanted.free Has.oldIs (fun w1 => field_dot0)) ?_
  refine MDerR.step (Ob.loadV Wanted.free (Has.new 4 0) (fun w1 hb1 => load_int hb1 K1.out)) ?_
  refine MDerR.step (Ob.call2V Wanted.free entersG130 (Has.new 3 2) (Has.new 5 0) (fun w1 hb1 => CG.out w1 (H0.out.mono hb1))) ?_
  refine MDerR.step (Ob.binV Wanted.free (Has.new 6 0) (Has.cst _) (fun w1 => int_add _ EW.out)) ?_
  refine MDerR.step (Ob.binV Wanted.free (Has.new 1 6) (Has.new 7 0) (fun w1 => int_leq _ rfl)) ?_
  refine MDerR.step (Ob.assign Wanted.free (Has.new 8 0)) ?_
  simp only [MDerR, dstsOf, List.map, EndM, List.reverse_cons, List.reverse_nil, List.nil_append, List.cons_append]
  intro wE hE
  iterate 10 (rintro _ rfl)
  simp only [Act.put, List.setIfInBounds_toArray, List.set_cons_zero, List.set_cons_succ]
  go_wp2
  go_ret
  exact retB rfl (HB.out.le hE)
theorem ccompact (A B : Option Addr) (n ca m cb : Nat) (c : Ctx) (w : World) (h : Con w A n ca B m cb c) :
    Calls Tryz.prog 126 #[.agg #[.slice A n ca, .slice B m cb]] w (Ret w (IsB (compC c))) := by
  have hb0 : Below w.heap.size w (w.alloc (conBox A n ca B m cb)) := (Below.refl _ _).alloc (Nat.le_refl _) _
  have h0 := h.mono hb0
  have hz : w.heap.size < (w.alloc (conBox A n ca B m cb)).heap.size := by simp
  have hc0 : (w.alloc (conBox A n ca B m cb)).cell? ⟨w.heap.size, 0, none⟩ = some (.slice A n ca) := by simp [go_sem]
  have f1 := fun w1 h1 => cvalid170 A B n ca m cb c w1 h1
  cases hv : validC c with
  | false =>
    rw [hv] at f1
    have e : compC c = false := by unfold compC; rw [hv]; rfl
    rw [e]
    have F1 := Lib.hid f1; have H0 := Lib.hid h0; have HB := Lib.hid hb0
    clear f1 h0 h hb0 hv e hc0
    go_enter Tryz.func126, Tryz.ntmps126
    go_wp2_with (first
      | (go_at_call 170; ((with_reducible refine (F1.out _ H0.out).mono ?_); rintro e w1 ⟨_, rfl, hb1, rfl⟩)))
    go_ret
    exact retB rfl (HB.out.le hb1)
  | true =>
    rw [hv] at f1
    have hvl : validL c.1 = true := by unfold validC validV at hv; simp at hv; exact hv.1.2
    have f2 := fun w1 (hb1 : Below (w.alloc (conBox A n ca B m cb)).heap.size (w.alloc (conBox A n ca B m cb)) w1) => ccontains57 168 #[.pointer (some ⟨w.heap.size, 0, none⟩)] (nearD c.1) B m cb c.2 w1 (h0.k.mono hb1) enters168 (asksNear A n ca c.1 c.2 w.heap.size w1 hvl (h0.v.mono hb1) (cellKeep hb1 hc0))
    have e : compC c = !c.2.any (nearD c.1) := by unfold compC; rw [hv]; rfl
    rw [e]
    generalize c.2.any (nearD c.1) = r at *
    have F1 := Lib.hid f1; have F2 := Lib.hid f2; have H0 := Lib.hid h0; have HB := Lib.hid hb0
    clear f1 f2 h0 h hb0 hv e hc0 hvl
    go_enter Tryz.func126, Tryz.ntmps126
    go_wp2_with (first
      | (go_at_call 170; ((with_reducible refine (F1.out _ H0.out).mono ?_); rintro e w1 ⟨_, rfl, hb1, rfl⟩; have hc1 := (bcell hb1).1))
      | (go_at_call 171; ((with_reducible refine (F2.out _ hb1).mono ?_); rintro e w2 ⟨_, rfl, hb2, rfl⟩)))
    go_ret
    exact retB rfl ((HB.out.le hb1).le hb2)
def CompRel (w : World) (n : Nat) (c : Ctx) (i : Value) (wr : World) : Prop :=
  ∃ k : Nat, i = .int .i64 k ∧ k <= n ∧ Below w.heap.size w wr ∧ (validC c = true -> (c.2.take k).any (nearD c.1) = false)
theorem validC_mem {c : Ctx} {d : Dot} (h : validC c = true) (hd : d ∈ c.2) : validD d = true := by
  unfold validC at h; simp at h
  have := h.2.2; unfold validL at this; rw [List.all_eq_true] at this; exact this d hd
theorem near_of_has {c : Ctx} {d : Dot} (h : hasV c.1 d = true) : nearD c.1 d = true := by
  unfold hasV at h; unfold nearD; simp at h; simp; omega
theorem comp_no {c : Ctx} {d : Dot} (hd : d ∈ c.2) (h : validC c = true -> nearD c.1 d = true) : compC c = false := by
  unfold compC
  cases hv : validC c with
  | false => rfl
  | true =>
    have : c.2.any (nearD c.1) = true := List.any_eq_true.2 ⟨d, hd, h hv⟩
    rw [this]; rfl
theorem validC_wrap {c : Ctx} (h : validC c = true) (r : Int) : IntKind.i64.wrap (getV c.1 r + 1) = getV c.1 r + 1 := by
  have hv : validL c.1 = true := by unfold validC validV at h; simp at h; exact h.1.2
  have := getV_bd c.1 r hv
  exact IntWalk.i64_in _ (by omega)
theorem near_no {c : Ctx} {d : Dot} (h : validC c = true) (hd : d ∈ c.2) (h1 : hasV c.1 d = false) (h2 : (d.2 == IntKind.i64.wrap (getV c.1 d.1 + 1)) = false) : nearD c.1 d = false := by
  rw [validC_wrap h] at h2
  have h3 := validC_mem h hd
  unfold hasV at h1; rw [h3] at h1; simp at h1 h2
  unfold nearD; simp; omega
theorem entersHV : Enters Tryz.prog 111 := enters_of Tryz.func111 (by kernel_rfl) rfl
theorem rccompact (A B : Option Addr) (n ca m cb : Nat) (c : Ctx) (w : World) (h : Con w A n ca B m cb c) :
    Calls Tryz.prog 108 #[.agg #[.slice A n ca, .slice B m cb]] w (Ret w (IsB (compC c))) := by
  have hm := h.k.big
  have hb0 : Below w.heap.size w (w.alloc (conBox A n ca B m cb)) := (Below.refl _ _).alloc (Nat.le_refl _) _
  have h0 := h.mono hb0
  have hc0 : (w.alloc (conBox A n ca B m cb)).cell? ⟨w.heap.size, 0, none⟩ = some (.slice A n ca) := by simp [go_sem]
  have hc1 : (w.alloc (conBox A n ca B m cb)).cell? ⟨w.heap.size, 1, none⟩ = some (.slice B m cb) := by simp [go_sem]
  go_enter Tryz.func108, Tryz.ntmps108
  go_wp2
  go_loopw [3] (fun i wr => CompRel (w.alloc (conBox A n ca B m cb)) m c i wr) (fun i _ => m - (intOf i).toNat)
  case atStart => exact ⟨0, rfl, by omega, Below.refl _ _, fun _ => rfl⟩
  case round =>
    obtain ⟨k, rfl, hk, hb, hs⟩ := hrel
    have v0 := cellKeep hb hc0
    have v1 := cellKeep hb hc1
    have hzr : w.heap.size < wr.heap.size := World.block_lt_of_cell? wr _ v0
    by_cases hlt : k < m
    · obtain ⟨b, o, x, y, rfl, hbk, e0, d1, c1, c2⟩ := (h0.k.mono hb).at_ (k := k) hlt
      have hmem := List.mem_of_getElem? e0
      have E0 := Lib.hid e0; have HS := Lib.hid hs; have HM := Lib.hid hmem
      clear d1 hs e0 hmem hc0 hc1
      have b1 : Below wr.heap.size wr (wr.alloc (.cells #[.int .i64 x, .int .i64 y] 67)) := by go_grown
      have k1 : (wr.alloc (.cells #[.int .i64 x, .int .i64 y] 67)).cell? ⟨wr.heap.size, 0, none⟩ = some (.int .i64 x) := by simp [go_sem]
      have k2 : (wr.alloc (.cells #[.int .i64 x, .int .i64 y] 67)).cell? ⟨wr.heap.size, 1, none⟩ = some (.int .i64 y) := by simp [go_sem]
      have k3 : (wr.alloc (.cells #[.int .i64 x, .int .i64 y] 67)).cell? ⟨w.heap.size, 0, none⟩ = some (.slice A n ca) := cellKeep b1 v0
      have K1 := Lib.hid k1; have K2 := Lib.hid k2; have K3 := Lib.hid k3
      clear k1 k2 k3
      have f1 := fun w1 h1 => hasv111 x y A n ca c.1 w1 h1
      have f2 := fun w1 h1 => rget A n ca c.1 x w1 h1
      cases hh : hasV c.1 (x, y) with
      | true =>
        rw [hh] at f1
        have F1 := Lib.hid f1; have HH := Lib.hid hh; clear f1 f2 hh
        go_wp2_with fail
        refine wp_region_M mixed (by kernel_rfl) ?_
        refine MDerR.step (Ob.fieldV Wanted.free Has.oldIs (fun w1 => field_con0)) ?_
        refine MDerR.step (Ob.loadV Wanted.free (Has.new 0 0) (fun w1 hb1 => load_vec hb1 K3.out)) ?_
        refine MDerR.step (Ob.loadV Wanted.free Has.oldIs (fun w1 hb1 => load_dot hb1 K1.out K2.out)) ?_
        refine MDerR.step (Ob.call2V Wanted.free entersHV (Has.new 1 1) (Has.new 2 0) (fun w1 hb1 => F1.out w1 (((h0.v.mono hb).mono b1).mono hb1))) ?_
        refine MDerR.step (Ob.move Wanted.free (Has.new 3 0)) ?_
        refine MDerR.step (Ob.off 4 0) ?_
        refine MDerR.step (Ob.off 4 1) ?_
        refine MDerR.step (Ob.off 4 2) ?_
        refine MDerR.step (Ob.off 4 3) ?_
        refine MDerR.step (Ob.off 4 4) ?_
        refine MDerR.step (Ob.off 4 5) ?_
        refine MDerR.step (Ob.off 4 6) ?_
        refine MDerR.step (Ob.off 4 7) ?_
        refine MDerR.step (Ob.off 4 8) ?_
        refine MDerR.step (Ob.pickT Wanted.free (Has.new 4 9) (Has.cst _)) ?_
        simp only [MDerR, dstsOf, List.map, EndM, List.reverse_cons, List.reverse_nil, List.nil_append, List.cons_append]
        intro wE hE
        iterate 15 (rintro _ rfl)
        simp only [Act.put, List.setIfInBounds_toArray, List.set_cons_zero, List.set_cons_succ]
        go_wp2
        go_ret
        exact retB (comp_no HM.out fun _ => near_of_has HH.out).symm (((hb0.le hb).le b1).le hE)
      | false =>
        rw [hh] at f1
        cases hq : (y == IntKind.i64.wrap (getV c.1 x + 1)) with
        | true =>
          have F1 := Lib.hid f1; have F2 := Lib.hid f2; have HH := Lib.hid hh; have HQ := Lib.hid hq; clear f1 f2 hh hq
          go_wp2_with fail
          refine wp_region_M mixed (by kernel_rfl) ?_
          refine MDerR.step (Ob.fieldV Wanted.free Has.oldIs (fun w1 => field_con0)) ?_
          refine MDerR.step (Ob.loadV Wanted.free (Has.new 0 0) (fun w1 hb1 => load_vec hb1 K3.out)) ?_
          refine MDerR.step (Ob.loadV Wanted.free Has.oldIs (fun w1 hb1 => load_dot hb1 K1.out K2.out)) ?_
          refine MDerR.step (Ob.call2V Wanted.free entersHV (Has.new 1 1) (Has.new 2 0) (fun w1 hb1 => F1.out w1 (((h0.v.mono hb).mono b1).mono hb1))) ?_
          refine MDerR.step (Ob.move Wanted.free (Has.new 3 0)) ?_
          refine MDerR.step (Ob.fieldV (Wanted.on 4 0) Has.oldIs (fun w1 => field_dot1)) ?_
          refine MDerR.step (Ob.loadV (Wanted.on 4 1) (Has.new 5 0) (fun w1 hb1 => load_int hb1 K2.out)) ?_
          refine MDerR.step (Ob.fieldV (Wanted.on 4 2) Has.oldIs (fun w1 => field_con0)) ?_
          refine MDerR.step (Ob.loadV (Wanted.on 4 3) (Has.new 7 0) (fun w1 hb1 => load_vec hb1 K3.out)) ?_
          refine MDerR.step (Ob.fieldV (Wanted.on 4 4) Has.oldIs (fun w1 => field_dot0)) ?_
          refine MDerR.step (Ob.loadV (Wanted.on 4 5) (Has.new 9 0) (fun w1 hb1 => load_int hb1 K1.out)) ?_
          refine MDerR.step (Ob.call2V (Wanted.on 4 6) entersG111 (Has.new 8 2) (Has.new 10 0) (fun w1 hb1 => F2.out w1 (((h0.v.mono hb).mono b1).mono hb1))) ?_
          refine MDerR.step (Ob.binV (Wanted.on 4 7) (Has.new 11 0) (Has.cst _) (fun w1 => int_add _ rfl)) ?_
          refine MDerR.step (Ob.binV (Wanted.on 4 8) (Has.new 6 6) (Has.new 12 0) (fun w1 => int_eql true HQ.out)) ?_
          refine MDerR.step (Ob.pickF Wanted.free (Has.new 4 9) (Has.new 13 0)) ?_
          simp only [MDerR, dstsOf, List.map, EndM, List.reverse_cons, List.reverse_nil, List.nil_append, List.cons_append]
          intro wE hE
          iterate 15 (rintro _ rfl)
          simp only [Act.put, List.setIfInBounds_toArray, List.set_cons_zero, List.set_cons_succ]
          go_wp2
          go_ret
          exact retB (comp_no HM.out fun hv => by have := HQ.out; rw [validC_wrap hv] at this; unfold nearD; simp at this ⊢; omega).symm (((hb0.le hb).le b1).le hE)
        | false =>
          have F1 := Lib.hid f1; have F2 := Lib.hid f2; have HH := Lib.hid hh; have HQ := Lib.hid hq; clear f1 f2 hh hq
          go_wp2_with fail
          refine wp_region_M mixed (by kernel_rfl) ?_
          refine MDerR.step (Ob.fieldV Wanted.free Has.oldIs (fun w1 => field_con0)) ?_
          refine MDerR.step (Ob.loadV Wanted.free (Has.new 0 0) (fun w1 hb1 => load_vec hb1 K3.out)) ?_
          refine MDerR.step (Ob.loadV Wanted.free Has.oldIs (fun w1 hb1 => load_dot hb1 K1.out K2.out)) ?_
          refine MDerR.step (Ob.call2V Wanted.free entersHV (Has.new 1 1) (Has.new 2 0) (fun w1 hb1 => F1.out w1 (((h0.v.mono hb).mono b1).mono hb1))) ?_
          refine MDerR.step (Ob.move Wanted.free (Has.new 3 0)) ?_
          refine MDerR.step (Ob.fieldV (Wanted.on 4 0) Has.oldIs (fun w1 => field_dot1)) ?_
          refine MDerR.step (Ob.loadV (Wanted.on 4 1) (Has.new 5 0) (fun w1 hb1 => load_int hb1 K2.out)) ?_
          refine MDerR.step (Ob.fieldV (Wanted.on 4 2) Has.oldIs (fun w1 => field_con0)) ?_
          refine MDerR.step (Ob.loadV (Wanted.on 4 3) (Has.new 7 0) (fun w1 hb1 => load_vec hb1 K3.out)) ?_
          refine MDerR.step (Ob.fieldV (Wanted.on 4 4) Has.oldIs (fun w1 => field_dot0)) ?_
          refine MDerR.step (Ob.loadV (Wanted.on 4 5) (Has.new 9 0) (fun w1 hb1 => load_int hb1 K1.out)) ?_
          refine MDerR.step (Ob.call2V (Wanted.on 4 6) entersG111 (Has.new 8 2) (Has.new 10 0) (fun w1 hb1 => F2.out w1 (((h0.v.mono hb).mono b1).mono hb1))) ?_
          refine MDerR.step (Ob.binV (Wanted.on 4 7) (Has.new 11 0) (Has.cst _) (fun w1 => int_add _ rfl)) ?_
          refine MDerR.step (Ob.binV (Wanted.on 4 8) (Has.new 6 6) (Has.new 12 0) (fun w1 => int_eql false HQ.out)) ?_
          refine MDerR.step (Ob.pickF Wanted.free (Has.new 4 9) (Has.new 13 0)) ?_
          simp only [MDerR, dstsOf, List.map, EndM, List.reverse_cons, List.reverse_nil, List.nil_append, List.cons_append]
          intro wE hE
          iterate 15 (rintro _ rfl)
          simp only [Act.put, List.setIfInBounds_toArray, List.set_cons_zero, List.set_cons_succ]
          go_wp2
          go_roundw
          case rel => exact ⟨k + 1, by simp, hlt, (hb.le b1).le hE, fun hv => by rw [List.take_add_one, E0.out]; simp only [List.any_append, HS.out hv, Bool.false_or]; simp [near_no hv HM.out HH.out HQ.out]⟩
          case measure => simp [intOf]; omega
    · have F := Lib.hid (cvalid148 A B n ca m cb c wr (h0.mono hb))
      have HS := Lib.hid hs
      have e : (c.2.take k) = c.2 := List.take_of_length_le (by rw [<- h.k.len]; omega)
      have HE := Lib.hid e
      clear hs e
      go_wp2_with (go_at_call 148; ((with_reducible refine F.out.mono ?_); rintro e w1 ⟨_, rfl, hb1, rfl⟩))
      go_ret
      refine retB ?_ ((hb0.le hb).le hb1)
      unfold compC
      cases hv : validC c with
      | false => rfl
      | true => have := HS.out hv; rw [HE.out] at this; rw [this]; rfl
end Go.Proofs.YtphhhnjeojdnkaaGreatDoor

namespace Go.Proofs.YtphhhnjeojdnkaaGreatDoor
open Go.RowKit Go.Sort
def Grew (w w' : World) : Prop := ∃ (q : Nat) (os : Array Obj), w' = grow (w.drewN q) os
theorem Grew.refl (w : World) : Grew w w := ⟨0, #[], by simp [World.drewN]⟩
theorem Grew.alloc {w w' : World} (h : Grew w w') (o : Obj) : Grew w (w'.alloc o) := by
  obtain ⟨q, os, rfl⟩ := h
  exact ⟨q, os ++ #[o], by rw [alloc_eq_grow, grow_grow]⟩
theorem Grew.drew {w w' : World} (h : Grew w w') : Grew w w'.drew := by
  obtain ⟨q, os, rfl⟩ := h
  exact ⟨q + 1, os, rfl⟩
theorem made1 (a b x y : Int) (w : World) : Calls Tryz.prog 267 #[.agg #[.int .i64 a, .int .i64 b], .agg #[.int .i64 x, .int .i64 y]] w fun e w' => e = .returned (.int .i64 (cmpI a x)) ∧ Grew w w' := by
  have c1 := fun w => ccompare a x w
  generalize cmpI a x = r at *
  go_enter Tryz.func267, Tryz.ntmps267
  go_wp2_with (go_at_call 187; ((with_reducible refine (c1 _).mono ?_); rintro e w' ⟨rfl, rfl⟩))
  go_ret
  exact ⟨rfl, ((Grew.refl w).alloc _).alloc _⟩
theorem dcompareG (a b x y : Int) (w : World) : Calls Tryz.prog 177 #[.agg #[.int .i64 a, .int .i64 b], .agg #[.int .i64 x, .int .i64 y]] w fun e w' => e = .returned (.int .i64 (cmpD (a, b) (x, y))) ∧ Grew w w' := by
  have e := orI_cmp (a, b) (x, y)
  generalize cmpD (a, b) (x, y) = r at *
  generalize hp : cmpI (a, b).2 (x, y).2 = p at *
  generalize hq : cmpI (a, b).1 (x, y).1 = q at *
  have E := Lib.hid e; clear e
  have c1 := fun w => ccompare b y w
  have c2 := fun w => ccompare a x w
  simp only at hp hq
  rw [hp] at c1; rw [hq] at c2
  clear hp hq
  go_enter Tryz.func177, Tryz.ntmps177
  go_wp2_with fail
  go_region_held3 (fun w' => w'.cell? ⟨w.heap.size, 0, none⟩ = some (.int .i64 a) ∧ w'.cell? ⟨w.heap.size, 1, none⟩ = some (.int .i64 b) ∧ w'.cell? ⟨w.heap.size + 1, 0, none⟩ = some (.int .i64 x) ∧ w'.cell? ⟨w.heap.size + 1, 1, none⟩ = some (.int .i64 y)) (simp [go_sem, World.cell?_alloc_past])
    (first
      | (go_at_call 187; ((with_reducible refine (c1 _).mono ?_); rintro e w' ⟨rfl, rfl⟩))
      | (go_at_call 187; ((with_reducible refine (c2 _).mono ?_); rintro e w' ⟨rfl, rfl⟩))
      | (go_at_call 185; ((with_reducible refine (cor2 p q _ _ (by simp [go_sem]) (by simp [go_sem])).mono ?_); rintro e w' ⟨rfl, rfl⟩)))
  go_wp2
  go_ret
  rw [E.out]
  exact ⟨rfl, ((((Grew.refl w).alloc _).alloc _).alloc _).drew⟩
end Go.Proofs.YtphhhnjeojdnkaaGreatDoor

namespace Go.Proofs.YtphhhnjeojdnkaaGreatDoor
open Go.RowKit
def dcells (l : List Dot) : List Value := l.flatMap fun d => [.int .i64 d.1, .int .i64 d.2]
theorem dcells_cons (d : Dot) (l : List Dot) : dcells (d :: l) = .int .i64 d.1 :: .int .i64 d.2 :: dcells l := rfl
theorem dcells_append (a b : List Dot) : dcells (a ++ b) = dcells a ++ dcells b := by unfold dcells; rw [List.flatMap_append]
theorem dcells_length : ∀ l : List Dot, (dcells l).length = l.length * 2
  | [] => rfl
  | d :: l => by rw [dcells_cons]; simp only [List.length_cons, dcells_length l]; omega
theorem dcells_get : ∀ (l : List Dot) (i : Nat) (d : Dot), l[i]? = some d -> (dcells l)[i * 2]? = some (.int .i64 d.1) ∧ (dcells l)[i * 2 + 1]? = some (.int .i64 d.2)
  | [], i, d, h => by simp at h
  | a :: l, 0, d, h => by simp at h; subst h; exact ⟨rfl, rfl⟩
  | a :: l, i + 1, d, h => by
    have := dcells_get l i d (by simpa using h)
    rw [dcells_cons, show (i + 1) * 2 = i * 2 + 1 + 1 by omega]
    simpa using this
theorem dcells_at (l : List Dot) (j : Nat) (u : Value) (h : (dcells l)[j]? = some u) : ∃ i d, l[i]? = some d ∧ ((j = i * 2 ∧ u = .int .i64 d.1) ∨ (j = i * 2 + 1 ∧ u = .int .i64 d.2)) := by
  have hl : j < l.length * 2 := by rw [<- dcells_length]; exact (List.getElem?_eq_some_iff.1 h).1
  have hi : j / 2 < l.length := by omega
  obtain ⟨h1, h2⟩ := dcells_get l (j / 2) l[j / 2] (List.getElem?_eq_getElem hi)
  refine ⟨j / 2, l[j / 2], List.getElem?_eq_getElem hi, ?_⟩
  rcases Nat.mod_two_eq_zero_or_one j with hm | hm
  · left
    have e : j = j / 2 * 2 := by omega
    rw [<- e, h] at h1
    exact ⟨e, by simpa using h1⟩
  · right
    have e : j = j / 2 * 2 + 1 := by omega
    rw [<- e, h] at h2
    exact ⟨e, by simpa using h2⟩
theorem dcells_one (l : List Dot) : ∀ u ∈ dcells l, u.oneCell' = true := by
  intro u hu
  obtain ⟨j, hj⟩ := List.getElem?_of_mem hu
  obtain ⟨i, d, _, h | h⟩ := dcells_at l j u hj <;> rw [h.2] <;> rfl
theorem add_lit (b o j : Nat) : (⟨b, o, none⟩ : Addr).add j = ⟨b, o + j, none⟩ := by unfold Addr.add; split <;> simp_all
theorem Dots.cells {w : World} {A : Option Addr} {n c : Nat} {l : List Dot} (h : Dots w A n c l) {a : Addr} (hA : A = some a) (j : Nat) (u : Value) (hu : (dcells l)[j]? = some u) : w.cell? (a.add j) = some u := by
  obtain ⟨i, d, hi, hh⟩ := dcells_at l j u hu
  obtain ⟨b, o, e, _, h1, h2⟩ := h.cell i d hi
  rw [hA] at e; cases e
  rw [add_lit]
  rcases hh with ⟨rfl, rfl⟩ | ⟨rfl, rfl⟩
  · exact h1
  · exact h2
def cutA (A : Option Addr) (c k : Nat) : Option Addr := if c = k then A else A.map (·.add (k * 2))
theorem slice_to_dots {w : World} {A : Option Addr} {n c k : Nat} (h : k <= c) : (Instr.sliceAt 57 (.slice A n c) none (some (.int .i64 (k : Int))) none).run Tryz.prog w = .ok (.slice A k c) w := by
  have h1 : (0 : Int) <= (k : Int) := by omega
  have h2 : (k : Int) <= (c : Int) := by omega
  simp [go_sem, h1, h2]
theorem slice_from_dots {w : World} {A : Option Addr} {n c k : Nat} (h : k <= n) (hc : n <= c) : (Instr.sliceAt 57 (.slice A n c) (some (.int .i64 (k : Int))) none none).run Tryz.prog w = .ok (.slice (cutA A c k) (n - k) (c - k)) w := by
  have h1 : (0 : Int) <= (k : Int) := by omega
  have h2 : (k : Int) <= (n : Int) := by omega
  have h3 : (n : Int) <= (c : Int) := by omega
  unfold cutA
  simp [go_sem, h1, h2]
theorem Dots.take {w : World} {A : Option Addr} {n c k : Nat} {l : List Dot} (h : Dots w A n c l) (hk : k <= n) : Dots w A k c (l.take k) :=
  ⟨by rw [List.length_take, <- h.len]; omega, Nat.le_trans hk h.cap, h.max, h.nil, fun i d hi => h.cell i d (by rw [List.getElem?_take] at hi; split at hi; exact hi; cases hi)⟩
theorem Dots.drop {w : World} {A : Option Addr} {n c k : Nat} {l : List Dot} (h : Dots w A n c l) (hk : k <= n) : Dots w (cutA A c k) (n - k) (c - k) (l.drop k) := by
  refine ⟨by rw [List.length_drop, <- h.len], by have := h.cap; omega, by have := h.max; omega, fun e => ?_, fun i d hi => ?_⟩
  · by_cases hc : c = k
    · omega
    · unfold cutA at e; rw [if_neg hc] at e
      have : A = none := by cases A with | none => rfl | some a => cases e
      have := h.nil this; omega
  · rw [List.getElem?_drop] at hi
    obtain ⟨b, o, rfl, hb, h1, h2⟩ := h.cell _ d hi
    have hl : k + i < l.length := (List.getElem?_eq_some_iff.1 hi).1
    have hc : ¬ c = k := by have := h.cap; have := h.len; omega
    unfold cutA; rw [if_neg hc]
    refine ⟨b, o + k * 2, by simp [add_lit], hb, ?_, ?_⟩
    · rw [show o + k * 2 + i * 2 = o + (k + i) * 2 by omega]; exact h1
    · rw [show o + k * 2 + i * 2 + 1 = o + (k + i) * 2 + 1 by omega]; exact h2
def Row (w : World) (B : Nat) (v : Value) (l : List Dot) : Prop := w.ownsRow B 67 2 v l.length (dcells l)
section
variable {w w' : World} {B : Nat} {v : Value} {l : List Dot}
theorem Row.mono (h : Row w B v l) (hb : Below w.heap.size w w') : Row w' B v l := by
  refine ⟨h.1, ?_⟩
  rcases h.2 with h2 | ⟨g, cap, cur, hv, hg, hh, r⟩
  · exact .inl h2
  · exact .inr ⟨g, cap, cur, hv, hg, (hb.block g (Array.getElem?_eq_some_iff.1 hh).1).trans hh, r⟩
theorem Row.low (h : Row w B v l) {B' : Nat} (hB : B' <= B) : Row w B' v l := by
  refine ⟨h.1, ?_⟩
  rcases h.2 with h2 | ⟨g, cap, cur, hv, hg, r⟩
  · exact .inl h2
  · exact .inr ⟨g, cap, cur, hv, by omega, r⟩
theorem Row.dots (h : Row w B v l) : ∃ A c, v = .slice A l.length c ∧ Dots w A l.length c l := by
  rcases h.2 with ⟨rfl, h0⟩ | ⟨g, cap, cur, rfl, hg, hh, hn, hm, hs, ht⟩
  · have : l = [] := List.eq_nil_of_length_eq_zero h0
    subst this
    exact ⟨none, 0, rfl, Dots.nil_⟩
  · refine ⟨some ⟨g, 0, none⟩, cap, rfl, rfl, hn, hm, (fun e => nomatch e), fun i d hi => ?_⟩
    obtain ⟨h1, h2⟩ := dcells_get l i d hi
    have hil : i < l.length := (List.getElem?_eq_some_iff.1 hi).1
    refine ⟨g, 0, rfl, (Array.getElem?_eq_some_iff.1 hh).1, ?_, ?_⟩
    · rw [cell_of_row w g _ cur _ (0, 0) hh]
      rw [<- ht, List.getElem?_take] at h1
      split at h1
      · simpa using h1
      · cases h1
    · rw [cell_of_row w g _ cur _ (0, 0) hh]
      rw [<- ht, List.getElem?_take] at h2
      split at h2
      · simpa using h2
      · cases h2
theorem Row.nil_ (w : World) (B : Nat) : Row w B (.slice none 0 0) [] := World.ownsRow_nil w B _ 2
end
def IsRow (B : Nat) (l : List Dot) (w : World) (v : Value) : Prop := Row w B v l
def IsDots (l : List Dot) (w : World) (v : Value) : Prop := ∃ A n c, v = .slice A n c ∧ Dots w A n c l
instance (B : Nat) (l : List Dot) : Grows (IsRow B l) := ⟨fun hb h => Row.mono h hb⟩
instance (l : List Dot) : Grows (IsDots l) := ⟨fun hb ⟨A, n, c, e, h⟩ => ⟨A, n, c, e, h.mono hb⟩⟩
theorem IsRow.dots {B : Nat} {l : List Dot} {w : World} {v : Value} (h : IsRow B l w v) : IsDots l w v := let ⟨A, c, e, h'⟩ := Row.dots h; ⟨A, _, c, e, h'⟩
theorem info_dot : ∃ i : TypeInfo, Tryz.prog.info? 67 = some i ∧ i.zero = some (.agg #[.int .i64 0, .int .i64 0]) ∧ i.size = 2 ∧ i.bytes = 16 := by
  obtain ⟨i, h1, h2, h3, h4⟩ := info_parts (P := Tryz.prog) (show (Tryz.prog.info? 67).map (fun i => (i.zero, i.size, i.bytes)) = some (some (.agg #[.int .i64 0, .int .i64 0]), 2, 16) by kernel_rfl)
  exact ⟨i, h1, h2, h3, h4⟩
theorem run_app {t ty : TypeId} (ht : Tryz.prog.underlying t = some (.slice 67)) {w : World} {B : Nat} {v : Value} {l k : List Dot} {A : Option Addr} {n c : Nat} (h : Row w B v l) (hk : Dots w A n c k) (hs : l.length + k.length <= 1000000000) (hB : B <= w.heap.size) :
    ∃ v' w', (Builtin.append_ #[t, t] ty #[v, .slice A n c]).run Tryz.prog w = .ok v' w' ∧ Row w' B v' (l ++ k) ∧ w.grownBy w' v.ownBlock := by
  obtain ⟨i, hi, hz, hsz, hby⟩ := info_dot
  cases A with
  | none =>
    have hc := hk.nil rfl
    have hn : n = 0 := by have := hk.cap; omega
    subst hc; subst hn
    have hk0 : k = [] := List.eq_nil_of_length_eq_zero hk.len.symm
    subst hk0
    refine ⟨v, w, run_append_owned_none (P := Tryz.prog) (w := w) B t ty 67 i 2 ht hi v l.length (dcells l) h, by rw [List.append_nil]; exact h, ⟨rfl, rfl, rfl, Nat.le_refl _, fun _ _ _ => rfl⟩⟩
  | some a =>
    obtain ⟨v', w', h1, h2, h3, _⟩ := run_append_own (P := Tryz.prog) w B t ty 67 i _ 2 16 ht hi hz hsz hby rfl (by omega) v l.length (dcells l) h a n c (dcells k) (by rw [dcells_length, hk.len]) (fun j u hu => hk.cells rfl j u hu) (dcells_one k)
      (by rw [hk.len]; unfold maxLen; omega) (by rw [hk.len]; omega) hB
    refine ⟨v', w', h1, ?_, h3⟩
    unfold Row
    rw [List.length_append, dcells_append]
    rw [hk.len] at h2
    exact h2
theorem run_app_block {t ty : TypeId} (ht : Tryz.prog.underlying t = some (.slice 67)) {w w' : World} {B : Nat} {v v' : Value} {l k : List Dot} {A : Option Addr} {n c : Nat} (h : Row w B v l) (hk : Dots w A n c k) (hs : l.length + k.length <= 1000000000)
    (hr : (Builtin.append_ #[t, t] ty #[v, .slice A n c]).run Tryz.prog w = .ok v' w') : ∀ g, v'.ownBlock = some g -> v.ownBlock = some g ∨ w.heap.size <= g := by
  obtain ⟨i, hi, hz, hsz, hby⟩ := info_dot
  cases A with
  | none =>
    have hc := hk.nil rfl
    have hn : n = 0 := by have := hk.cap; omega
    subst hc; subst hn
    rw [run_append_owned_none (P := Tryz.prog) (w := w) B t ty 67 i 2 ht hi v l.length (dcells l) h] at hr
    cases hr
    exact fun g hg => .inl hg
  | some a =>
    have hnews : ∀ j u, (dcells k)[j]? = some u -> w.cell? (a.add j) = some u := fun j u hu => hk.cells rfl j u hu
    have hlen : (dcells k).length = n * i.size := by rw [dcells_length, hk.len, hsz]
    have hkl := hk.len
    rcases h.2 with ⟨rfl, h0⟩ | ⟨g, cap, cur, rfl, hbg, hg, hnc, hcm, hcs, htake⟩
    · by_cases hm : n = 0
      · subst hm
        have hk0 : k = [] := List.eq_nil_of_length_eq_zero hkl.symm
        subst hk0
        have e : (Builtin.append_ #[t, t] ty #[.slice none 0 0, .slice (some a) 0 c]).run Tryz.prog w = .ok (.slice none 0 0) w := by
          simp [Builtin.append_, run_underlying ht, sizeOf, typeInfo, hi, Builtin.lenOf, Builtin.firstCells, loadCells, loadCellsFrom]
        rw [e] at hr; cases hr
        exact fun g hg => .inl hg
      · rw [run_append_nil (P := Tryz.prog) w t ty 67 i _ ht hi hz a n c (dcells k) hlen hnews (by omega) (by omega) (by rw [hby]; omega)] at hr
        cases hr
        intro g hg; simp [Value.ownBlock] at hg; exact .inr (by omega)
    · by_cases hroom : l.length + n <= cap
      · rw [run_append_room (P := Tryz.prog) w t ty 67 i ht hi g l.length cap cur hg a n c (dcells k) hlen hnews (dcells_one k) hroom (by rw [hlen, hsz, hcs, <- Nat.add_mul]; exact Nat.mul_le_mul_right _ hroom)] at hr
        cases hr
        exact fun g hg => .inl hg
      · have holds : ∀ j u, (dcells l)[j]? = some u -> w.cell? ((⟨g, 0, none⟩ : Addr).add j) = some u := World.ownsRow.cells (v := .slice (some ⟨g, 0, none⟩) l.length cap) h rfl
        rw [run_append_grow (P := Tryz.prog) w t ty 67 i _ ht hi hz ⟨g, 0, none⟩ l.length cap (dcells l) (by rw [dcells_length, hsz]) holds a n c (dcells k) hlen hnews (by omega) (by omega) (by rw [hby]; exact growslice_fits (by omega) (by omega))] at hr
        cases hr
        intro g hg; simp [Value.ownBlock] at hg; exact .inr (by omega)
theorem Row.empty {w : World} {B g : Nat} (hB : B <= g) (h : w.heap[g]? = some (.cells #[] 67 (0, 0))) : Row w B (.slice (some ⟨g, 0, none⟩) 0 0) [] :=
  ⟨rfl, .inr ⟨g, 0, #[], rfl, hB, h, Nat.le_refl _, Nat.zero_le _, rfl, rfl⟩⟩
theorem Row.grown {w w1 : World} {B : Nat} {v : Value} {l : List Dot} {row : Option Nat} (h : Row w B v l) (hg : w.grownBy w1 row) (hne : v.ownBlock = none ∨ v.ownBlock ≠ row) : Row w1 B v l := World.ownsRow.kept h hg hne
theorem Dots.grown {w w1 : World} {A : Option Addr} {n c : Nat} {l : List Dot} {row : Option Nat} (h : Dots w A n c l) (hg : w.grownBy w1 row) (hne : ∀ a, A = some a -> some a.block ≠ row) : Dots w1 A n c l :=
  ⟨h.len, h.cap, h.max, h.nil, fun i d hi => by
    obtain ⟨b, o, rfl, hlt, h1, h2⟩ := h.cell i d hi
    exact ⟨b, o, rfl, Nat.lt_of_lt_of_le hlt hg.size, hg.cell h1 (hne ⟨b, o, none⟩ rfl), hg.cell h2 (hne ⟨b, o, none⟩ rfl)⟩⟩
theorem Dots.set_ {w : World} {A : Option Addr} {n c : Nat} {l : List Dot} (h : Dots w A n c l) {p : Addr} (hne : ∀ a, A = some a -> a.block ≠ p.block) (u : Value) : Dots (w.setCell p u) A n c l :=
  ⟨h.len, h.cap, h.max, h.nil, fun i d hi => by
    obtain ⟨b, o, rfl, hlt, h1, h2⟩ := h.cell i d hi
    have hb : b ≠ p.block := hne ⟨b, o, none⟩ rfl
    refine ⟨b, o, rfl, by simpa [World.setCell] using hlt, ?_, ?_⟩
    · rw [World.cell?_setCell_other w p _ u (fun e => hb (by rw [e]))]; exact h1
    · rw [World.cell?_setCell_other w p _ u (fun e => hb (by rw [e]))]; exact h2⟩
theorem Row.set_ {w : World} {B : Nat} {v : Value} {l : List Dot} (h : Row w B v l) {p : Addr} (hne : ∀ k, v.ownBlock = some k -> k ≠ p.block) (u : Value) : Row (w.setCell p u) B v l := by
  refine ⟨h.1, ?_⟩
  rcases h.2 with h2 | ⟨g, cap, cur, hv, hg, hh, r⟩
  · exact .inl h2
  · exact .inr ⟨g, cap, cur, hv, hg, by rw [Below.heap_setCell w p u g (hne g (by rw [hv]; rfl))]; exact hh, r⟩
theorem Row.from_ {w : World} {B : Nat} {A : Option Addr} {n c : Nat} {l : List Dot} (h : Row w B (.slice A n c) l) : ∀ a, A = some a -> B <= a.block := fun a e => (World.ownsRow.lt h a.block (by rw [e]; rfl)).1
theorem cutA_block {A : Option Addr} {c k : Nat} {p : Nat -> Prop} (h : ∀ a, A = some a -> p a.block) : ∀ a, cutA A c k = some a -> p a.block := by
  intro a e
  unfold cutA at e
  split at e
  · exact h a e
  · cases A with
    | none => cases e
    | some a' => simp at e; subst e; rw [show (a'.add (k * 2)).block = a'.block by unfold Addr.add; split <;> rfl]; exact h a' rfl
theorem Row.own (w : World) {B : Nat} {v : Value} {l : List Dot} (h : Row w B v l) : ∀ k, v.ownBlock = some k -> B <= k := fun k hk => (World.ownsRow.lt h k hk).1
theorem wpList_app {ops : Array Oper} {rest : List Oper} {o : Oper} {a : Act} {Q : Exit -> Act -> World -> Prop} {s x : Operand} {t : TypeId} {w : World} {B : Nat} {v : Value} {l k : List Dot} {A : Option Addr} {n c : Nat}
    (hgd : o.guard = none) (ho : o.op = .call { callee := .builtin .append, args := #[s, x], argTypes := #[t, t] }) (ht : Tryz.prog.underlying t = some (.slice 67)) (hsv : a.eval s = v) (hxv : a.eval x = .slice A n c)
    (h : Row w B v l) (hk : Dots w A n c k) (hs : l.length + k.length <= 1000000000) (hB : B <= w.heap.size)
    (K : ∀ v' w', Row w' B v' (l ++ k) -> w.grownBy w' v.ownBlock -> wpList Tryz.prog ops Q rest (a.put o.dst v') w') : wpList Tryz.prog ops Q (o :: rest) a w := by
  refine wpList_plain hgd fun K' hK => ?_
  obtain ⟨v', w', hr, h2, h3⟩ := run_app (ty := o.type) ht h hk hs hB
  unfold Oper.wp
  simp [execOp, ho, resolve, invoke, builtin, hsv, hxv, hr, Result.andThen]
  exact hK _ _ (K v' w' h2 h3)
theorem wpList_appO {ops : Array Oper} {rest : List Oper} {o : Oper} {a : Act} {Q : Exit -> Act -> World -> Prop} {s x : Operand} {t : TypeId} {w : World} {B : Nat} {v : Value} {l k : List Dot} {A : Option Addr} {n c : Nat}
    (hgd : o.guard = none) (ho : o.op = .call { callee := .builtin .append, args := #[s, x], argTypes := #[t, t] }) (ht : Tryz.prog.underlying t = some (.slice 67)) (hsv : a.eval s = v) (hxv : a.eval x = .slice A n c)
    (h : Row w B v l) (hk : Dots w A n c k) (hs : l.length + k.length <= 1000000000) (hB : B <= w.heap.size)
    (K : ∀ v' w', Row w' B v' (l ++ k) -> w.grownBy w' v.ownBlock -> (∀ g, v'.ownBlock = some g -> v.ownBlock = some g ∨ w.heap.size <= g) -> wpList Tryz.prog ops Q rest (a.put o.dst v') w') : wpList Tryz.prog ops Q (o :: rest) a w := by
  refine wpList_plain hgd fun K' hK => ?_
  obtain ⟨v', w', hr, h2, h3⟩ := run_app (ty := o.type) ht h hk hs hB
  have h4 := run_app_block ht h hk hs hr
  unfold Oper.wp
  simp [execOp, ho, resolve, invoke, builtin, hsv, hxv, hr, Result.andThen]
  exact hK _ _ (K v' w' h2 h3 h4)
section
variable {P : Program} {ops : List Oper} {Fs : List VT} {w0 : World} {a0 : Act} {i : Nat} {d : Option Tmp} {ty : TypeId} {pos : String} {after : Array Edge} {g : Option (Nat × Bool)}
theorem Ob.appNilV {x : Operand} {t : TypeId} {l : List Dot} {A : Option Addr} {n c : Nat} (hw : Wanted ops Fs w0 a0 i ⟨d, .call ⟨.builtin .append, #[.const (.slice none 0 0), x], #[t, t]⟩, ty, pos, after, g⟩) (ht : Tryz.prog.underlying t = some (.slice 67))
    (hx : Has ops Fs w0 a0 i ⟨d, .call ⟨.builtin .append, #[.const (.slice none 0 0), x], #[t, t]⟩, ty, pos, after, g⟩ x (Is (.slice A n c))) (hd : ∀ w, Below w0.heap.size w0 w -> Dots w A n c l) (hs : l.length <= 1000000000) :
    Ob Tryz.prog ops Fs w0 a0 i ⟨d, .call ⟨.builtin .append, #[.const (.slice none 0 0), x], #[t, t]⟩, ty, pos, after, g⟩ (IsRow w0.heap.size l) :=
  Ob.any hw fun a w cx => by
    have e : a.eval x = .slice A n c := hx a w cx
    have hd := hd w cx.le
    obtain ⟨v', w', hr, h2, h3⟩ := run_app (ty := ty) ht (Row.nil_ w w.heap.size) hd (by simpa using hs) (Nat.le_refl _)
    refine ⟨v', w', ?_, (Below.refl _ w).grown h3 (Nat.le_refl _) (fun k hk => by simp [Value.ownBlock] at hk), Row.low h2 cx.le.size⟩
    have hc : a.eval (.const (.slice none 0 0)) = .slice none 0 0 := rfl
    generalize a.eval = ρ at e hc
    simp [execOp, resolve, invoke, builtin, e, hc, hr]
theorem Ob.sliceTo_dots {x y : Operand} {A : Option Addr} {n c k : Nat} (hw : Wanted ops Fs w0 a0 i ⟨d, .slice 57 x none (some y) none, ty, pos, after, g⟩) (hx : Has ops Fs w0 a0 i ⟨d, .slice 57 x none (some y) none, ty, pos, after, g⟩ x (Is (.slice A n c))) (hy : Has ops Fs w0 a0 i ⟨d, .slice 57 x none (some y) none, ty, pos, after, g⟩ y (IsI (k : Int))) (h : k <= c) :
    Ob Tryz.prog ops Fs w0 a0 i ⟨d, .slice 57 x none (some y) none, ty, pos, after, g⟩ (Is (.slice A k c)) :=
  Ob.stay hw fun a w cx => ⟨_, by
    have h1 : a.eval x = .slice A n c := hx a w cx
    have h2 : a.eval y = .int .i64 (k : Int) := hy a w cx
    have h3 := slice_to_dots (w := w) (A := A) (n := n) h
    generalize a.eval = ρ at h1 h2
    simp only [execOp, Option.map, h1, h2]
    simp [h3], rfl⟩
theorem Ob.sliceFrom_dots {x y : Operand} {A : Option Addr} {n c k : Nat} (hw : Wanted ops Fs w0 a0 i ⟨d, .slice 57 x (some y) none none, ty, pos, after, g⟩) (hx : Has ops Fs w0 a0 i ⟨d, .slice 57 x (some y) none none, ty, pos, after, g⟩ x (Is (.slice A n c))) (hy : Has ops Fs w0 a0 i ⟨d, .slice 57 x (some y) none none, ty, pos, after, g⟩ y (IsI (k : Int))) (h : k <= n) (hc : n <= c) :
    Ob Tryz.prog ops Fs w0 a0 i ⟨d, .slice 57 x (some y) none none, ty, pos, after, g⟩ (Is (.slice (cutA A c k) (n - k) (c - k))) :=
  Ob.stay hw fun a w cx => ⟨_, by
    have h1 : a.eval x = .slice A n c := hx a w cx
    have h2 : a.eval y = .int .i64 (k : Int) := hy a w cx
    have h3 := slice_from_dots (w := w) (A := A) h hc
    generalize a.eval = ρ at h1 h2
    simp only [execOp, Option.map, h1, h2]
    simp [h3], rfl⟩
theorem Ob.mkDots157 {x : Operand} {m n : Int} (hw : Wanted ops Fs w0 a0 i ⟨d, .buildSlice 57 1 #[(0, x)], ty, pos, after, g⟩) (hx : Has ops Fs w0 a0 i ⟨d, .buildSlice 57 1 #[(0, x)], ty, pos, after, g⟩ x (Is (.agg #[.int .i64 m, .int .i64 n]))) :
    Ob Tryz.prog ops Fs w0 a0 i ⟨d, .buildSlice 57 1 #[(0, x)], ty, pos, after, g⟩ (IsDots [(m, n)]) :=
  Ob.any hw fun a w cx => by
    have h1 : a.eval x = .agg #[.int .i64 m, .int .i64 n] := hx a w cx
    refine ⟨.slice (some ⟨w.heap.size, 0, none⟩) 1 1, w.alloc (.cells #[.int .i64 m, .int .i64 n] 67), ?_, by go_grown, some ⟨w.heap.size, 0, none⟩, 1, 1, rfl, rfl, Nat.le_refl _, by unfold maxLen; omega, (fun e => nomatch e), fun j e hj => ?_⟩
    · generalize a.eval = ρ at h1
      simp [execOp, h1, go_sem]
    · have : j = 0 := by have := (List.getElem?_eq_some_iff.1 hj).1; simpa using this
      subst this
      simp at hj; subst hj
      exact ⟨w.heap.size, 0, rfl, by simp, by simp [go_sem], by simp [go_sem]⟩
end
end Go.Proofs.YtphhhnjeojdnkaaGreatDoor

namespace Go.Proofs
open Go.Shelf
def Tryz.sortD_ren : Go.Shelf.Ren := ⟨fun | 6 => 176 | 15 => 221 | 14 => 220 | 28 => 252 | 29 => 253 | 20 => 244 | 21 => 245 | 22 => 246 | 23 => 247 | 24 => 248 | 25 => 249 | 26 => 250 | 27 => 251 | 46 => 258 | 47 => 259 | 48 => 260 | 49 => 261 | 50 => 262 | 57 => 265 | n => n, fun | 22 => 57 | 24 => 67 | 25 => 220 | 3 => 3 | 39 => 85 | 0 => 0 | 53 => 78 | 55 => 98 | 4 => 4 | 46 => 272 | 45 => 271 | 50 => 276 | 5 => 5 | 9 => 9 | 66 => 288 | 70 => 291 | 76 => 295 | 77 => 296 | n => n, fun | n => n⟩
theorem Tryz.sortD : Go.Proofs.SlLaysF0.n6 Tryz.prog Tryz.sortD_ren := {
  mixed := by kernel_rfl
  f6 := ⟨Tryz.f176.name, by decide, Tryz.func176.trans (congrArg some (by kernel_rfl))⟩
  f14 := ⟨Tryz.f220.name, by decide, Tryz.func220.trans (congrArg some (by kernel_rfl))⟩
  f15 := Tryz.func221.trans (congrArg some (by kernel_rfl))
  f20 := ⟨Tryz.f244.name, by decide, Tryz.func244.trans (congrArg some (by kernel_rfl))⟩
  f21 := ⟨Tryz.f245.name, by decide, Tryz.func245.trans (congrArg some (by kernel_rfl))⟩
  f22 := ⟨Tryz.f246.name, by decide, Tryz.func246.trans (congrArg some (by kernel_rfl))⟩
  f23 := ⟨Tryz.f247.name, by decide, Tryz.func247.trans (congrArg some (by kernel_rfl))⟩
  f24 := ⟨Tryz.f248.name, by decide, Tryz.func248.trans (congrArg some (by kernel_rfl))⟩
  f25 := ⟨Tryz.f249.name, by decide, Tryz.func249.trans (congrArg some (by kernel_rfl))⟩
  f26 := ⟨Tryz.f250.name, by decide, Tryz.func250.trans (congrArg some (by kernel_rfl))⟩
  f27 := ⟨Tryz.f251.name, by decide, Tryz.func251.trans (congrArg some (by kernel_rfl))⟩
  f28 := Tryz.func252.trans (congrArg some (by kernel_rfl))
  f29 := Tryz.func253.trans (congrArg some (by kernel_rfl))
  f46 := ⟨Tryz.f258.name, by decide, Tryz.func258.trans (congrArg some (by kernel_rfl))⟩
  f47 := Tryz.func259.trans (congrArg some (by kernel_rfl))
  f48 := Tryz.func260.trans (congrArg some (by kernel_rfl))
  f49 := ⟨Tryz.f261.name, by decide, Tryz.func261.trans (congrArg some (by kernel_rfl))⟩
  f50 := ⟨Tryz.f262.name, by decide, Tryz.func262.trans (congrArg some (by kernel_rfl))⟩
  f57 := ⟨Tryz.f265.name, by decide, Tryz.func265.trans (congrArg some (by kernel_rfl))⟩
  t0 := Tryz.underlying0
  a0 := Tryz.isAgg0
  z0 := Tryz.sizeOf0
  v0 := Tryz.zeroValue0
  t3 := Tryz.underlying3
  a3 := Tryz.isAgg3
  z3 := Tryz.sizeOf3
  v3 := Tryz.zeroValue3
  t4 := Tryz.underlying4
  a4 := Tryz.isAgg4
  z4 := Tryz.sizeOf4
  v4 := Tryz.zeroValue4
  t5 := Tryz.underlying5
  a5 := Tryz.isAgg5
  z5 := Tryz.sizeOf5
  v5 := Tryz.zeroValue5
  t9 := Tryz.underlying9
  a9 := Tryz.isAgg9
  z9 := Tryz.sizeOf9
  v9 := Tryz.zeroValue9
  t22 := Tryz.underlying57
  a22 := Tryz.isAgg57
  z22 := Tryz.sizeOf57
  v22 := Tryz.zeroValue57
  t25 := Tryz.underlying220
  a25 := Tryz.isAgg220
  z25 := Tryz.sizeOf220
  v25 := Tryz.zeroValue220
  t39 := Tryz.underlying85
  a39 := Tryz.isAgg85
  z39 := Tryz.sizeOf85
  v39 := Tryz.zeroValue85
  t45 := Tryz.underlying271
  a45 := Tryz.isAgg271
  z45 := Tryz.sizeOf271
  v45 := Tryz.zeroValue271
  t46 := Tryz.underlying272
  a46 := Tryz.isAgg272
  z46 := Tryz.sizeOf272
  v46 := Tryz.zeroValue272
  t50 := Tryz.underlying276
  a50 := Tryz.isAgg276
  z50 := Tryz.sizeOf276
  v50 := Tryz.zeroValue276
  t53 := Tryz.underlying78
  a53 := Tryz.isAgg78
  z53 := Tryz.sizeOf78
  v53 := Tryz.zeroValue78
  t55 := Tryz.underlying98
  a55 := Tryz.isAgg98
  z55 := Tryz.sizeOf98
  v55 := Tryz.zeroValue98
  t66 := Tryz.underlying288
  a66 := Tryz.isAgg288
  z66 := Tryz.sizeOf288
  v66 := Tryz.zeroValue288
  t70 := Tryz.underlying291
  a70 := Tryz.isAgg291
  z70 := Tryz.sizeOf291
  v70 := Tryz.zeroValue291
  t76 := Tryz.underlying295
  a76 := Tryz.isAgg295
  z76 := Tryz.sizeOf295
  v76 := Tryz.zeroValue295
  t77 := Tryz.underlying296
  a77 := Tryz.isAgg296
  z77 := Tryz.sizeOf296
  v77 := Tryz.zeroValue296 }
end Go.Proofs

namespace Go.Proofs.YtphhhnjeojdnkaaGreatDoor
open Go.RowKit Go.Sort
def encD (d : Dot) : List Value := [.int .i64 d.1, .int .i64 d.2]
theorem flat_dcells (l : List Dot) : flatK encD 2 l.toArray = (dcells l).toArray := by
  apply Array.ext
  · simp [dcells_length]
  · intro j h1 h2
    have hj : j < l.length * 2 := by simpa using h1
    have hi : j / 2 < l.length := by omega
    obtain ⟨g1, g2⟩ := dcells_get l (j / 2) l[j / 2] (List.getElem?_eq_getElem hi)
    have e : (flatK encD 2 l.toArray)[j] = (flatK encD 2 l.toArray)[j]! := (getElem!_pos _ j h1).symm
    rw [e, get_flatK _ _ _ _ (by simpa using hj)]
    have e2 : l.toArray[j / 2]! = l[j / 2] := by rw [getElem!_pos _ _ (by simpa using hi)]; simp
    rw [e2]
    have e3 : (dcells l).toArray[j] = (dcells l)[j]'(by simpa [dcells_length] using hj) := by simp
    rw [e3]
    rcases Nat.mod_two_eq_zero_or_one j with hm | hm
    · have ej : j / 2 * 2 = j := by omega
      rw [ej] at g1
      rw [hm]
      have := (List.getElem?_eq_some_iff.1 g1).2
      rw [this]; rfl
    · have ej : j / 2 * 2 + 1 = j := by omega
      rw [ej] at g2
      rw [hm]
      have := (List.getElem?_eq_some_iff.1 g2).2
      rw [this]; rfl
section
variable {w : World} {B g cap : Nat} {l l' : List Dot}
theorem Row.holds (h : Row w B (.slice (some ⟨g, 0, none⟩) l.length cap) l) : HoldsK encD 2 w g 0 l.toArray ∧ g < w.heap.size := by
  rcases h.2 with ⟨h2, _⟩ | ⟨g', cap', cur, hv, hg, hh, hn, hm, hs, ht⟩
  · cases h2
  · cases hv
    refine ⟨fun j hj => ?_, (Array.getElem?_eq_some_iff.1 hh).1⟩
    rw [flat_dcells] at hj ⊢
    have hj' : j < (dcells l).length := by simpa using hj
    rw [cell_of_row w g _ cur _ (0, 0) hh, frozen_of_row w g _ cur _ hh]
    obtain ⟨u, e2⟩ : ∃ u, (dcells l)[j]? = some u := ⟨_, List.getElem?_eq_getElem hj'⟩
    have e : (dcells l).toArray[j]! = u := by
      rw [getElem!_pos (dcells l).toArray j hj]
      have := (List.getElem?_eq_some_iff.1 e2).2
      simpa using this
    rw [e]
    rw [<- ht, List.getElem?_take] at e2
    split at e2
    · exact ⟨by simpa using e2, rfl⟩
    · cases e2
theorem Row.resorted (h : Row w B (.slice (some ⟨g, 0, none⟩) l.length cap) l) (hl : l'.length = l.length) (n : Nat) (os : Array Obj) : Row (sortWorldK encD 2 w g 0 n l'.toArray os) B (.slice (some ⟨g, 0, none⟩) l.length cap) l' ∧ Below B w (sortWorldK encD 2 w g 0 n l'.toArray os) := by
  rcases h.2 with ⟨h2, _⟩ | ⟨g', cap', cur, hv, hg, hh, hn, hm, hs, ht⟩
  · cases h2
  · cases hv
    have hgz : g < w.heap.size := (Array.getElem?_eq_some_iff.1 hh).1
    have hblock : ∀ k, k < w.heap.size -> (sortWorldK encD 2 w g 0 n l'.toArray os).heap[k]? = (w.heap.modify g (onCells (putCells id 0 (flatK encD 2 l'.toArray))))[k]? := by
      intro k hk
      show ((w.heap.modify g (onCells (putCells id 0 (flatK encD 2 l'.toArray)))) ++ os)[k]? = _
      rw [Array.getElem?_append, if_pos (by simpa using hk)]
    refine ⟨⟨by rw [dcells_length], .inr ⟨g, cap, putCells id 0 (flatK encD 2 l'.toArray) cur, by rw [hl], hg, ?_, by rw [hl]; exact hn, hm, ?_, ?_⟩⟩, ⟨rfl, rfl, rfl, ?_, fun k hk => ?_⟩⟩
    · rw [hblock g hgz, Array.getElem?_modify, if_pos rfl, hh]; rfl
    · simpa [putCells] using hs
    · rw [flat_dcells]
      apply List.ext_getElem?
      intro j
      rw [List.getElem?_take]
      by_cases hj : j < l'.length * 2
      · rw [if_pos hj]
        have hjc : j < cur.size := by rw [hs]; have := Nat.mul_le_mul_right 2 hn; omega
        have hjd : j < (dcells l').length := by rw [dcells_length]; exact hj
        simp [putCells, hjc, hjd]
      · rw [if_neg hj, List.getElem?_eq_none (by rw [dcells_length]; omega)]
    · show _ <= ((w.heap.modify g _) ++ os).size
      simp
    · rw [hblock k (by omega), Array.getElem?_modify, if_neg (by omega)]
end
end Go.Proofs.YtphhhnjeojdnkaaGreatDoor

namespace Go.Proofs.YtphhhnjeojdnkaaGreatDoor
open Go.RowKit
theorem lt_dot (x y : Dot) : ltOf cmpD x y = lessD x y := by
  unfold ltOf
  cases h : lessD x y with
  | true => rw [decide_eq_true_iff]; exact cmpD_lt.2 h
  | false => rw [decide_eq_false_iff_not]; intro h2; rw [cmpD_lt, h] at h2; cases h2
theorem swoDot : Go.Sort.SWO (ltOf cmpD) where
  irrefl x := by rw [lt_dot]; cases h : lessD x x with | false => rfl | true => rw [lessD_iff] at h; omega
  trans x y z h1 h2 := by rw [lt_dot, lessD_iff] at *; omega
  ntrans x y z h1 h2 := by
    rw [lt_dot] at *
    cases h : lessD x z with
    | false => rfl
    | true =>
      have n1 : ¬ lessD x y = true := by rw [h1]; simp
      have n2 : ¬ lessD y z = true := by rw [h2]; simp
      rw [lessD_iff] at h n1 n2; omega
theorem laysD (blk off size : Nat) (w : World) : CmpLays Tryz.prog 177 #[] encD 2 cmpD blk off size w := fun _ _ _ _ x y => dcompareG x.1 x.2 y.1 y.2 _
def keyV (a b : Dot) : Int := cmpI a.1 b.1
theorem lt_key (x y : Dot) : ltOf keyV x y = decide (x.1 < y.1) := by
  unfold ltOf keyV cmpI
  by_cases h1 : x.1 < y.1
  · simp [h1]
  · by_cases h2 : y.1 < x.1 <;> simp [h1, h2]
theorem swoKey : Go.Sort.SWO (ltOf keyV) where
  irrefl x := by rw [lt_key]; simp
  trans x y z h1 h2 := by rw [lt_key] at *; simp at *; omega
  ntrans x y z h1 h2 := by rw [lt_key] at *; simp at *; omega
theorem laysV (blk off size : Nat) (w : World) : CmpLays Tryz.prog 267 #[] encD 2 keyV blk off size w := fun _ _ _ _ x y => made1 x.1 x.2 y.1 y.2 _
theorem encD_len (x : Dot) : (encD x).length = 2 := rfl
theorem encD_one (x : Dot) : ∀ v ∈ encD x, v.oneCell' = true := by
  intro v hv; simp [encD] at hv; rcases hv with rfl | rfl <;> rfl
def SortOf (lt : Dot -> Dot -> Bool) (l l' : List Dot) : Prop := l'.Perm l ∧ l'.Pairwise (fun a b => lt b a = false)
theorem SortOf.of {lt : Dot -> Dot -> Bool} {l : List Dot} {d : Array Dot} (h1 : Go.Sort.PermIn 0 l.toArray.size l.toArray d) (h2 : Go.Sort.SortedIn lt 0 l.toArray.size d) : SortOf lt l d.toList := by
  have hs : d.size = l.length := by simpa using h1.1
  refine ⟨?_, ?_⟩
  · have := h1.2.2
    rw [Array.extract_eq_self_of_le (by simp [hs]), Array.extract_eq_self_of_le (Nat.le_refl _)] at this
    simpa using this
  · rw [List.pairwise_iff_getElem]
    intro i j hi hj hij
    have := h2 i j (Nat.zero_le _) hij (by simp at hj ⊢; omega)
    rw [getElem!_pos d j (by simpa using hj), getElem!_pos d i (by simpa using hi)] at this
    simpa using this
def SortPost (B : Nat) (lt : Dot -> Dot -> Bool) (v : Value) (l : List Dot) (w : World) (e : Ending) (w' : World) : Prop :=
  e = .returned (.tuple #[]) ∧ Go.RowKit.Below B w w' ∧ ∃ l', SortOf lt l l' ∧ Row w' B v l'
theorem enterDCmp : ∀ args w, (callFunc 177 args).run Tryz.prog w = .ok (.enter 177 args) w := enters_of Tryz.func177 (by kernel_rfl) rfl
theorem enterMade1 : ∀ args w, (callFunc 267 args).run Tryz.prog w = .ok (.enter 267 args) w := enters_of Tryz.func267 (by kernel_rfl) rfl
theorem dsort_row (B g cap : Nat) (l : List Dot) (w : World) (h : Row w B (.slice (some ⟨g, 0, none⟩) l.length cap) l) (hs : Small l.length) :
    Calls Tryz.prog 176 #[.slice (some ⟨g, 0, none⟩) l.length cap, .func (.func 177) #[] #[]] w (SortPost B lessD (.slice (some ⟨g, 0, none⟩) l.length cap) l w) := by
  obtain ⟨hh, hg⟩ := Row.holds h
  have hcon := AnyQ.slices_SortFunc Tryz.sortD 2 Tryz.isAgg67 Tryz.sizeOf67 encD encD_len encD_one cmpD swoDot 177 #[] g 0 cap l.toArray w enterDCmp (laysD g 0 _ w) hh hg (by have := hs.out; simp; omega)
  change Calls Tryz.prog 176 _ _ _ at hcon
  have e : l.toArray.size = l.length := by simp
  rw [e] at hcon
  refine hcon.mono ?_
  rintro e w' ⟨rfl, d', n, os, h1, h2, rfl⟩
  have hl : d'.toList.length = l.length := by simpa using h1.1
  have hr := Row.resorted h hl n os
  refine ⟨rfl, by simpa using hr.2, d'.toList, ?_, by simpa using hr.1⟩
  have hlt : ltOf cmpD = lessD := by funext x y; exact lt_dot x y
  rw [hlt] at h2
  exact SortOf.of (by simpa using h1) (by simpa using h2)
end Go.Proofs.YtphhhnjeojdnkaaGreatDoor

namespace Go.Proofs.YtphhhnjeojdnkaaGreatDoor
open Go.RowKit
def pairs : List Int -> List Dot
  | a :: b :: t => (a, b) :: pairs t
  | _ => []
theorem cclone58 (A : Option Addr) (n c : Nat) (l : List Dot) (w : World) (h : Dots w A n c l) (hs : Small n) : Calls Tryz.prog 228 #[.slice A n c] w (Ret w (IsRow w.heap.size l)) := by
  have hq := fun w a n c => Lib.run_eql_slice_nil (P := Tryz.prog) w 58 67 a n c 0 0 Tryz.underlying58
  cases A with
  | none =>
    have hc := h.nil rfl
    have hn : n = 0 := by have := h.cap; omega
    subst hc; subst hn
    have hl : l = [] := List.eq_nil_of_length_eq_zero h.len.symm
    subst hl
    clear h
    go_enter Tryz.func228, Tryz.ntmps228
    go_wp2
    go_ret
    exact ⟨_, rfl, Below.refl _ _, Row.nil_ _ _⟩
  | some a =>
    have H := Lib.hid h; clear h
    go_enter Tryz.func228, Tryz.ntmps228
    go_wp2_with (at_builtin; refine wpList_app (B := w.heap.size) (v := .slice (some ⟨w.heap.size, 0, none⟩) 0 0) (l := []) rfl rfl Tryz.underlying58 rfl rfl (Row.empty (Nat.le_refl _) (heap_alloc_new w _)) (H.out.mono (by go_grown)) (by have := hs.out; have := H.out.len; simp; omega) (by simp) ?_; intro v' w' hr' hg'; simp only [Act.put, List.setIfInBounds_toArray, List.set_cons_zero, List.set_cons_succ])
    go_ret
    exact ⟨_, rfl, (Below.alloc (Below.refl _ _) (Nat.le_refl _) _).grown hg' (by simp) (fun k hk => by simp [Value.ownBlock] at hk; omega), hr'⟩
theorem cclone57 (A : Option Addr) (n c : Nat) (l : List Dot) (w : World) (h : Dots w A n c l) (hs : Small n) : Calls Tryz.prog 175 #[.slice A n c] w (Ret w (IsRow w.heap.size l)) := by
  have hq := fun w a n c => Lib.run_eql_slice_nil (P := Tryz.prog) w 57 67 a n c 0 0 Tryz.underlying57
  cases A with
  | none =>
    have hc := h.nil rfl
    have hn : n = 0 := by have := h.cap; omega
    subst hc; subst hn
    have hl : l = [] := List.eq_nil_of_length_eq_zero h.len.symm
    subst hl
    clear h
    go_enter Tryz.func175, Tryz.ntmps175
    go_wp2
    go_ret
    exact ⟨_, rfl, Below.refl _ _, Row.nil_ _ _⟩
  | some a =>
    have H := Lib.hid h; clear h
    go_enter Tryz.func175, Tryz.ntmps175
    go_wp2_with (at_builtin; refine wpList_app (B := w.heap.size) (v := .slice (some ⟨w.heap.size, 0, none⟩) 0 0) (l := []) rfl rfl Tryz.underlying57 rfl rfl (Row.empty (Nat.le_refl _) (heap_alloc_new w _)) (H.out.mono (by go_grown)) (by have := hs.out; have := H.out.len; simp; omega) (by simp) ?_; intro v' w' hr' hg'; simp only [Act.put, List.setIfInBounds_toArray, List.set_cons_zero, List.set_cons_succ])
    go_ret
    exact ⟨_, rfl, (Below.alloc (Below.refl _ _) (Nat.le_refl _) _).grown hg' (by simp) (fun k hk => by simp [Value.ownBlock] at hk; omega), hr'⟩
end Go.Proofs.YtphhhnjeojdnkaaGreatDoor

namespace Go.Proofs.YtphhhnjeojdnkaaGreatDoor
open Go.RowKit
theorem cell_set {w : World} {a : Addr} {v u : Value} (h : w.cell? a = some u) : (w.setCell a v).cell? a = some v := World.cell?_setCell_same w a v h
theorem cell_far {w : World} {a b : Addr} {v u : Value} (hne : b ≠ a) (h : w.cell? a = some u) : (w.setCell b v).cell? a = some u := by rw [World.cell?_setCell_other w b a v hne]; exact h
def IsCon (c : Ctx) (w : World) (v : Value) : Prop := ∃ A n ca B m cb, v = .agg #[.slice A n ca, .slice B m cb] ∧ Con w A n ca B m cb c
instance (c : Ctx) : Grows (IsCon c) := ⟨fun hb ⟨A, n, ca, B, m, cb, e, h⟩ => ⟨A, n, ca, B, m, cb, e, h.mono hb⟩⟩
def IsConO (b : Nat) (c : Ctx) (w : World) (v : Value) : Prop := ∃ A n ca B m cb, v = .agg #[.slice A n ca, .slice B m cb] ∧ Con w A n ca B m cb c ∧ Row w b (.slice A n ca) c.1 ∧ Row w b (.slice B m cb) c.2
instance (b : Nat) (c : Ctx) : Grows (IsConO b c) := ⟨fun hb ⟨A, n, ca, B, m, cb, e, h, h1, h2⟩ => ⟨A, n, ca, B, m, cb, e, h.mono hb, h1.mono hb, h2.mono hb⟩⟩
section
variable {ops : List Oper} {Fs : List VT} {w0 : World} {a0 : Act} {i : Nat} {d : Option Tmp} {ty : TypeId} {pos : String} {after : Array Edge} {g : Option (Nat × Bool)}
end
end Go.Proofs.YtphhhnjeojdnkaaGreatDoor

namespace Go.Proofs.YtphhhnjeojdnkaaGreatDoor
open Go.RowKit
def posOf (π : List Nat) (j : Nat) : Nat := π.idxOf j
def reOp (π : List Nat) (o : Oper) : Oper := { o with after := (o.after.toList.filterMap fun e => if π.contains e.on then some { e with on := posOf π e.on } else none).toArray, guard := match o.guard with | none => none | some (j, b) => some (posOf π j, b) }
def reOps (π : List Nat) (ops : List Oper) : List Oper := π.map fun i => reOp π (ops.getD i default)
def okPerm (π : List Nat) (ops : List Oper) : Bool :=
  (List.range π.length).all fun p => match π[p]? with
    | none => false
    | some j => decide (posOf π j = p) && decide (j < ops.length) && (match ops[j]? with | some o => (o.after.toList.all fun e => decide (e.on < ops.length)) && (match o.guard with | none => true | some (i, _) => π.contains i) | none => false)
section
variable {P : Program} {ops : List Oper} {π : List Nat} {Q : Exit -> Act -> World -> Prop}
theorem okPerm_spec (h : okPerm π ops = true) {p j : Nat} (hp : π[p]? = some j) : posOf π j = p ∧ j < ops.length ∧ ∀ o, ops[j]? = some o -> (∀ e ∈ o.after, e.on < ops.length) ∧ ∀ i b, o.guard = some (i, b) -> i ∈ π := by
  have hl : p < π.length := (List.getElem?_eq_some_iff.1 hp).1
  have := List.all_eq_true.1 h p (List.mem_range.2 hl)
  simp only [hp, Bool.and_eq_true, decide_eq_true_eq] at this
  obtain ⟨⟨h1, h2⟩, h4⟩ := this
  refine ⟨h1, h2, fun o ho => ?_⟩
  rw [ho] at h4
  simp only [Bool.and_eq_true] at h4
  refine ⟨fun e he => by simpa using List.all_eq_true.1 h4.1 e (by simpa using he), fun i b hg => ?_⟩
  have := h4.2
  rw [hg] at this; simpa using this
theorem posOf_at {j : Nat} (h : j ∈ π) : π[posOf π j]? = some j := by
  unfold posOf
  have := List.idxOf_lt_length_of_mem h
  rw [List.getElem?_eq_getElem this, List.getElem_idxOf]
theorem reOps_at {p j : Nat} {o : Oper} (hp : π[p]? = some j) (ho : ops[j]? = some o) : (reOps π ops)[p]? = some (reOp π o) := by
  unfold reOps
  rw [List.getElem?_map, hp]
  simp [List.getD_eq_getElem?_getD, ho]
theorem wanted_re (h : okPerm π ops = true) {p j : Nat} {o : Oper} (hp : π[p]? = some j) (ho : ops[j]? = some o) (tmps : Array Value) : Region.wanted (reOp π o) (yielded (reOps π ops).toArray tmps) = Region.wanted o (yielded ops.toArray tmps) := by
  obtain ⟨_, hg⟩ := (okPerm_spec h hp).2.2 o ho
  unfold Region.wanted
  cases hgd : o.guard with
  | none => simp [reOp, hgd]
  | some g =>
    obtain ⟨i, b⟩ := g
    have hi := posOf_at (hg i b hgd)
    have hil := (okPerm_spec h hi).2.1
    have := reOps_at hi (List.getElem?_eq_getElem hil)
    simp [reOp, hgd, yielded, this, hil]
theorem wp_re (π : List Nat) (o : Oper) (a : Act) (w : World) (K : Act -> World -> Prop) : (reOp π o).wp P a w K Q = o.wp P a w K Q := by
  have e : execOp a.eval (reOp π o) = execOp a.eval o := rfl
  unfold Oper.wp
  rw [e]
  generalize (execOp a.eval o).run P w = r
  cases r with
  | ok n w' => cases n <;> rfl
  | halt x w' => cases x <;> rfl
theorem asks_re (π : List Nat) (o : Oper) (a : Act) (w : World) : (reOp π o).asks P a w = o.asks P a w := rfl
theorem wpOp_re (h : okPerm π ops = true) {p j : Nat} {o : Oper} (hp : π[p]? = some j) (ho : ops[j]? = some o) {a : Act} {w : World} {K : Act -> World -> Prop} (hh : wpOp P (reOps π ops).toArray Q p K a w) : wpOp P ops.toArray Q j K a w := by
  unfold wpOp at *
  have e := reOps_at hp ho
  simp only [List.getElem?_toArray, e] at hh
  simp only [List.getElem?_toArray, ho]
  rw [wanted_re h hp ho, wp_re, asks_re] at hh
  exact hh
theorem mem_re {o : Oper} {e : Edge} : e ∈ (reOp π o).after ↔ ∃ e', e' ∈ o.after ∧ e'.on ∈ π ∧ e = { e' with on := posOf π e'.on } := by
  simp only [reOp, List.mem_toArray, List.mem_filterMap, Array.mem_toList_iff]
  constructor
  · rintro ⟨e', h1, h2⟩
    by_cases hc : e'.on ∈ π
    · rw [if_pos (by simpa using hc)] at h2; exact ⟨e', h1, hc, by cases h2; rfl⟩
    · rw [if_neg (by simpa using hc)] at h2; cases h2
  · rintro ⟨e', h1, h2, rfl⟩
    exact ⟨e', h1, by rw [if_pos (by simpa using h2)]⟩
def Same (π : List Nat) (n : Nat) (l l' : Array Bool) : Prop := l.size = n ∧ l'.size = π.length ∧ (∀ (p j : Nat), π[p]? = some j -> l[j]? = l'[p]?) ∧ ∀ (i : Nat), i < n -> i ∉ π -> l[i]? = some true
theorem ready_re (h : okPerm π ops = true) {l l' : Array Bool} (hs : Same π ops.length l l') {p j : Nat} (hp : π[p]? = some j) : j ∈ Region.ready .any ops.toArray l ↔ p ∈ Region.ready .any (reOps π ops).toArray l' := by
  obtain ⟨_, hj, hsp⟩ := okPerm_spec h hp
  have hoi : ops[j]? = some ops[j] := List.getElem?_eq_getElem hj
  have e := reOps_at hp hoi
  obtain ⟨hed, _⟩ := hsp _ hoi
  have hg : l.getD j true = l'.getD p true := by simp [Array.getD_eq_getD_getElem?, hs.2.2.1 p j hp]
  rw [mem_ready, mem_ready, hg]
  simp only [List.getElem?_toArray, hoi, e, Option.some.injEq, exists_eq_left']
  refine and_congr_right fun _ => ⟨fun ha e' he' hb => ?_, fun ha e' he' hb => ?_⟩
  · obtain ⟨e0, h1, h2, rfl⟩ := mem_re.1 he'
    have := ha e0 h1 hb
    have hq := hs.2.2.1 _ _ (posOf_at h2)
    simpa [Array.getD_eq_getD_getElem?, hq] using this
  · by_cases hc : e'.on ∈ π
    · have := ha _ (mem_re.2 ⟨e', he', hc, rfl⟩) hb
      have hq := hs.2.2.1 _ _ (posOf_at hc)
      simpa [Array.getD_eq_getD_getElem?, hq] using this
    · simp [Array.getD_eq_getD_getElem?, hs.2.2.2 _ (hed e' he') hc]
theorem ready_in {l l' : Array Bool} (hs : Same π ops.length l l') {i : Nat} (hi : i ∈ Region.ready .any ops.toArray l) : ∃ p : Nat, π[p]? = some i := by
  obtain ⟨h0, o, ho, _⟩ := mem_ready.1 hi
  have hil : i < ops.length := by simpa using (Array.getElem?_eq_some_iff.1 ho).1
  by_cases hc : i ∈ π
  · exact ⟨_, posOf_at hc⟩
  · have := hs.2.2.2 i hil hc
    simp [Array.getD_eq_getD_getElem?, this] at h0
theorem wpAny_re (h : okPerm π ops = true) : ∀ (fuel : Nat) (l l' : Array Bool) (a : Act) (w : World), Same π ops.length l l' -> wpAny P .any (reOps π ops).toArray Q fuel l' a w -> wpAny P .any ops.toArray Q fuel l a w := by
  have back : ∀ (l l' : Array Bool), Same π ops.length l l' -> Region.ready .any ops.toArray l = [] -> Region.ready .any (reOps π ops).toArray l' = [] := by
    intro l l' hs hr
    rw [List.eq_nil_iff_forall_not_mem]
    intro p hp
    have hpl : p < π.length := by
      obtain ⟨_, o, ho, _⟩ := mem_ready.1 hp
      have := (Array.getElem?_eq_some_iff.1 ho).1
      simpa [reOps] using this
    have := (ready_re h hs (List.getElem?_eq_getElem hpl)).2 hp
    rw [hr] at this; cases this
  intro fuel
  induction fuel with
  | zero =>
    intro l l' a w hs hw
    refine ⟨?_, hw.2⟩
    rw [List.eq_nil_iff_forall_not_mem]
    intro i hi
    obtain ⟨p, hp⟩ := ready_in hs hi
    have := (ready_re h hs hp).1 hi
    rw [hw.1] at this; cases this
  | succ fuel ih =>
    intro l l' a w hs hw
    refine ⟨fun hr => hw.1 (back l l' hs hr), fun i hi => ?_⟩
    obtain ⟨p, hp⟩ := ready_in hs hi
    obtain ⟨hpo, hil, _⟩ := okPerm_spec h hp
    refine wpOp_re h hp (List.getElem?_eq_getElem hil) (wpOp_mono (fun a' w' h' => ih _ _ a' w' ?_ h') (hw.2 _ ((ready_re h hs hp).1 hi)))
    have hpl : p < π.length := (List.getElem?_eq_some_iff.1 hp).1
    refine ⟨by simp [hs.1], by simp [hs.2.1], fun q k hq => ?_, fun k hk hn => ?_⟩
    · by_cases hki : i = k
      · subst hki
        have hqp : q = p := by rw [<- (okPerm_spec h hq).1, hpo]
        subst hqp
        simp [hs.1, hs.2.1, hil, hpl]
      · have hne : p ≠ q := fun e => by subst e; rw [hp] at hq; cases hq; exact hki rfl
        rw [Array.getElem?_setIfInBounds_ne hki, Array.getElem?_setIfInBounds_ne hne]; exact hs.2.2.1 q k hq
    · by_cases hki : i = k
      · subst hki; simp [hs.1, hil]
      · rw [Array.getElem?_setIfInBounds_ne hki]; exact hs.2.2.2 k hk hn
theorem wp_left {w0 : World} {a0 : Act} {l : Array Bool} (π : List Nat) (n : Nat) (hp : okPerm π ops = true) (hs : (decide (l.size = ops.length) && (List.range ops.length).all fun i => l[i]? == some (!π.contains i)) = true)
    (hok : okM a0.tmps.size 0 ((reOps π ops).take n) [] = true) (hot : (decide (n < (reOps π ops).length) && okT n (reOps π ops)) = true) (h : MDerT P (reOps π ops) n w0 a0 Q ((reOps π ops).take n) []) : wpAny P .any ops.toArray Q π.length l a0 w0 := by
  rw [Bool.and_eq_true, decide_eq_true_iff] at hot hs
  obtain ⟨Gs, h1, h2, h3⟩ := MDer.all (Fs := []) h.fore [] rfl (by simp) (fun i o F hi => by simp at hi)
  have hl : (reOps π ops).length = π.length := by simp [reOps]
  have hu : unlisted (Array.replicate (reOps π ops).length false) = (reOps π ops).length := by simp [unlisted, List.countP_replicate]
  have := region_MT_any (Q := Q) hot.1 hok hot.2 h1 h2 h3 (reOps π ops).length (Array.replicate (reOps π ops).length false) a0 w0
    ⟨Below.refl _ w0, rfl, rfl, by simp [List.length_take]; omega, fun _ _ => rfl, fun j oj d G hj => by simp [Array.getElem?_replicate] at hj, fun j oj i hj => by simp [Array.getElem?_replicate] at hj, fun j oj d _ _ _ => rfl⟩ (by simp) (fun j _ hj => by simp [hj]) hu
  rw [hl] at this
  refine wpAny_re hp _ _ _ _ _ ⟨hs.1, by simp, fun p j hpj => ?_, fun i hi hn => ?_⟩ this
  · have hpl : p < π.length := (List.getElem?_eq_some_iff.1 hpj).1
    have hjl := (okPerm_spec hp hpj).2.1
    have h5 := List.all_eq_true.1 hs.2 j (List.mem_range.2 hjl)
    have hm : j ∈ π := List.mem_of_getElem? hpj
    simp [hm] at h5
    rw [h5]; simp [hpl]
  · have h5 := List.all_eq_true.1 hs.2 i (List.mem_range.2 hi)
    simp [hn] at h5
    exact h5
theorem take_pure {i fuel : Nat} {listed : Array Bool} {a : Act} {w : World} {oi : Oper} {v : Value} (hi : ops[i]? = some oi) (hg : oi.guard = none) (hc : (Region.noSelect ops.toArray && (Region.free .any ops.toArray listed i && (Region.ready .any ops.toArray listed).contains i)) = true)
    (hQ : ∀ c a w, Q (.panic c) (a.put oi.dst v) w -> Q (.panic c) a w) (hv : ∀ w, (execOp a.eval oi).run P w = .ok (.value v) w) (h : wpAny P .any ops.toArray Q fuel (listed.setIfInBounds i true) (a.put oi.dst v) w) : wpAny P .any ops.toArray Q (fuel + 1) listed a w := by
  simp only [Bool.and_eq_true] at hc
  exact wpAny_take (by simpa using hi) hc.1 hc.2.1 hc.2.2 hQ (.inl ⟨by simp [Region.wanted, hg], hv⟩) h
theorem wpList_assign {ops : Array Oper} {rest : List Oper} {o : Oper} {a : Act} {w : World} {x : Operand} {v : Value} (hg : o.guard = none) (ho : o.op = .assign x) (hx : a.eval x = v) (h : wpList P ops Q rest (a.put o.dst v) w) : wpList P ops Q (o :: rest) a w := by
  refine wpList_plain hg fun K hK => ?_
  have e : (execOp a.eval o).run P w = .ok (.value v) w := by
    generalize a.eval = ρ at hx
    simp [execOp, ho, hx]
  unfold Oper.wp
  rw [e]
  exact hK _ _ h
end
end Go.Proofs.YtphhhnjeojdnkaaGreatDoor

namespace Go.Proofs.YtphhhnjeojdnkaaGreatDoor
open Go.RowKit
def cutD (d : Dot) : List Dot -> Nat
  | [] => 0
  | a :: t => if lessD a d then cutD d t + 1 else 0
def withD (s : List Dot) (d : Dot) : List Dot := if memD d s then s else s.take (cutD d s) ++ d :: s.drop (cutD d s)
theorem cutD_le (d : Dot) : ∀ s : List Dot, cutD d s <= s.length
  | [] => Nat.le_refl _
  | a :: t => by
    have := cutD_le d t
    simp only [cutD, List.length_cons]; split <;> omega
def WithRel (w : World) (n : Nat) (s : List Dot) (d : Dot) (i : Value) (wr : World) : Prop :=
  ∃ k : Nat, i = .int .i64 k ∧ k <= n ∧ Below w.heap.size w wr ∧ cutD d s = k + cutD d (s.drop k)
theorem WithRel.next {w w1 : World} {n k : Nat} {s : List Dot} {a d : Dot} (hb : Below w.heap.size w w1) (hk : k < n) (h1 : s.drop k = a :: s.drop (k + 1)) (hs : cutD d s = k + cutD d (s.drop k)) (hl : lessD a d = true) : WithRel w n s d (.int .i64 ((k : Int) + 1)) w1 :=
  ⟨k + 1, by simp, hk, hb, by rw [hs, h1, cutD, if_pos hl]; omega⟩
theorem entersLess : Enters Tryz.prog 199 := enters_of Tryz.func199 (by kernel_rfl) rfl
theorem rwith (x y : Int) (A : Option Addr) (n c : Nat) (s : List Dot) (w : World) (h : Dots w A n c s) (hs : Small n) :
    Calls Tryz.prog 152 #[.slice A n c, .agg #[.int .i64 x, .int .i64 y]] w (Ret w (IsDots (withD s (x, y)))) := by
  have hn := h.big
  have hb0 : Below w.heap.size w (w.alloc (.cells #[.int .i64 x, .int .i64 y] 67)) := by go_grown
  have h0 := h.mono hb0
  have k1 : (w.alloc (.cells #[.int .i64 x, .int .i64 y] 67)).cell? ⟨w.heap.size, 0, none⟩ = some (.int .i64 x) := by simp [go_sem]
  have k2 : (w.alloc (.cells #[.int .i64 x, .int .i64 y] 67)).cell? ⟨w.heap.size, 1, none⟩ = some (.int .i64 y) := by simp [go_sem]
  have f1 := rhas x y A n c s _ h0
  cases hm : memD (x, y) s with
  | true =>
    rw [hm] at f1
    have F1 := Lib.hid f1; have H0 := Lib.hid h0; have HM := Lib.hid hm
    clear f1 hm h0 h k1 k2
    go_enter Tryz.func152, Tryz.ntmps152
    go_wp2_with fail
    refine F1.out.mono ?_
    rintro e w1 ⟨_, rfl, hb1, rfl⟩
    go_wp2
    go_ret
    exact ⟨_, rfl, hb0.le hb1, A, n, c, rfl, by unfold withD; rw [if_pos HM.out]; exact H0.out.mono hb1⟩
  | false =>
    rw [hm] at f1
    have F1 := Lib.hid f1; have HM := Lib.hid hm
    clear f1 hm
    go_enter Tryz.func152, Tryz.ntmps152
    go_wp2_with fail
    refine F1.out.mono ?_
    rintro e w1 ⟨_, rfl, hb1, rfl⟩
    go_wp2_with fail
    go_loopw [5] (fun i wr => WithRel w1 n s (x, y) i wr) (fun i _ => n - (intOf i).toNat)
    case atStart => exact ⟨0, rfl, by omega, Below.refl _ _, by simp⟩
    case round =>
      obtain ⟨k, rfl, hk, hb, hc⟩ := hrel
      have y1 := cellKeep hb (cellKeep hb1 k1)
      have y2 := cellKeep hb (cellKeep hb1 k2)
      have hr := (h0.mono hb1).mono hb
      have Y1 := Lib.hid y1; have Y2 := Lib.hid y2; have HR := Lib.hid hr; have HC := Lib.hid hc
      clear y1 y2 hr hc k1 k2
      have hzr : w.heap.size < wr.heap.size := World.block_lt_of_cell? wr _ Y1.out
      by_cases hlt : k < n
      · obtain ⟨b, o, u, v, hA, hbk, e0, d1, c1, c2⟩ := HR.out.at_ (k := k) hlt
        have hix := fun w => (show (Instr.indexAt 57 (.slice A n c) (.int .i64 (k : Int))).run Tryz.prog w = .ok (.pointer (some ⟨b, o + k * 2, none⟩)) w by rw [hA]; exact index_dots hlt)
        have HIX := Lib.hid hix; have HA := Lib.hid hA
        have D1 := Lib.hid d1; clear d1 e0 hix hA
        have cl := rless u v x y
        have hT : decide ((k : Int) < (n : Int)) = true := by simpa using hlt
        have HT := Lib.hid hT; clear hT
        cases hl : lessD (u, v) (x, y) with
        | true =>
          rw [hl] at cl
          have CL := Lib.hid cl; have HL := Lib.hid hl; clear cl hl
          go_wp2_with fail
          refine wp_region_M mixed (by kernel_rfl) ?_
          refine MDerR.step (Ob.move Wanted.free Has.oldIs) ?_
          refine MDerR.step (Ob.move Wanted.free Has.oldIs) ?_
          refine MDerR.step (Ob.lenV Wanted.free (Has.new 1 0) (fun w1 => len_dots)) ?_
          refine MDerR.step (Ob.binV Wanted.free (Has.new 0 2) (Has.new 2 0) (fun w1 => int_lss true HT.out)) ?_
          refine MDerR.step (Ob.move Wanted.free (Has.new 3 0)) ?_
          refine MDerR.step (Ob.move (Wanted.on 4 0) Has.oldIs) ?_
          refine MDerR.step (Ob.move (Wanted.on 4 1) Has.oldIs) ?_
          refine MDerR.step (Ob.indexV (Wanted.on 4 2) (Has.new 5 1) (Has.new 6 0) (fun w1 => HIX.out w1)) ?_
          refine MDerR.step (Ob.loadV (Wanted.on 4 3) (Has.new 7 0) (fun w1 hb1 => load_dot hb1 c1 c2)) ?_
          refine MDerR.step (Ob.loadV (Wanted.on 4 4) Has.oldIs (fun w1 hb1 => load_dot hb1 Y1.out Y2.out)) ?_
          refine MDerR.step (Ob.call2V (Wanted.on 4 5) entersLess (Has.new 8 1) (Has.new 9 0) (fun w1 _ => CL.out w1)) ?_
          refine MDerR.step (Ob.pickT Wanted.free (Has.new 4 6) (Has.new 10 0)) ?_
          simp only [MDerR, dstsOf, List.map, EndM, List.reverse_cons, List.reverse_nil, List.nil_append, List.cons_append]
          intro wE hE
          iterate 12 (rintro _ rfl)
          simp only [Act.put, List.setIfInBounds_toArray, List.set_cons_zero, List.set_cons_succ]
          go_wp2
          go_roundw
          case rel => exact WithRel.next (hb.le hE) hlt D1.out HC.out HL.out
          case measure => simp [intOf]; omega
        | false =>
          rw [hl] at cl
          have CL := Lib.hid cl; have HL := Lib.hid hl; clear cl hl
          go_wp2_with fail
          refine wp_region_M mixed (by kernel_rfl) ?_
          refine MDerR.step (Ob.move Wanted.free Has.oldIs) ?_
          refine MDerR.step (Ob.move Wanted.free Has.oldIs) ?_
          refine MDerR.step (Ob.lenV Wanted.free (Has.new 1 0) (fun w1 => len_dots)) ?_
          refine MDerR.step (Ob.binV Wanted.free (Has.new 0 2) (Has.new 2 0) (fun w1 => int_lss true HT.out)) ?_
          refine MDerR.step (Ob.move Wanted.free (Has.new 3 0)) ?_
          refine MDerR.step (Ob.move (Wanted.on 4 0) Has.oldIs) ?_
          refine MDerR.step (Ob.move (Wanted.on 4 1) Has.oldIs) ?_
          refine MDerR.step (Ob.indexV (Wanted.on 4 2) (Has.new 5 1) (Has.new 6 0) (fun w1 => HIX.out w1)) ?_
          refine MDerR.step (Ob.loadV (Wanted.on 4 3) (Has.new 7 0) (fun w1 hb1 => load_dot hb1 c1 c2)) ?_
          refine MDerR.step (Ob.loadV (Wanted.on 4 4) Has.oldIs (fun w1 hb1 => load_dot hb1 Y1.out Y2.out)) ?_
          refine MDerR.step (Ob.call2V (Wanted.on 4 5) entersLess (Has.new 8 1) (Has.new 9 0) (fun w1 _ => CL.out w1)) ?_
          refine MDerR.step (Ob.pickT Wanted.free (Has.new 4 6) (Has.new 10 0)) ?_
          simp only [MDerR, dstsOf, List.map, EndM, List.reverse_cons, List.reverse_nil, List.nil_append, List.cons_append]
          intro wE hE
          iterate 12 (rintro _ rfl)
          simp only [Act.put, List.setIfInBounds_toArray, List.set_cons_zero, List.set_cons_succ]
          have hcut : cutD (x, y) s = k := by rw [HC.out, D1.out, cutD, if_neg (by rw [HL.out]; simp)]; rfl
          have HCU := Lib.hid hcut
          have q1 := cellKeep hE Y1.out
          have q2 := cellKeep hE Y2.out
          have dd := HR.out.mono hE
          have hbw := ((hb0.le hb1).le hb).le hE
          have Q1 := Lib.hid q1; have Q2 := Lib.hid q2; have DD := Lib.hid dd; have BW := Lib.hid hbw
          clear hcut q1 q2 dd hbw hE hb hb1 hb0 h h0
          generalize wE = W at *
          go_wp2_with fail
          have sl1 := fun w => slice_to_dots (w := w) (A := A) (n := n) (c := c) (k := k) (Nat.le_trans hk DD.out.cap)
          have sl2 := fun w => slice_from_dots (w := w) (A := A) (n := n) (c := c) (k := k) hk DD.out.cap
          refine wp_region_any mixed ?_
          refine take_pure (i := 7) rfl rfl (by kernel_rfl) (fun _ _ _ h => h) (v := .slice A n c) (fun w => by simp [execOp, Act.eval]) ?_
          refine take_pure (i := 8) rfl rfl (by kernel_rfl) (fun _ _ _ h => h) (v := .int .i64 (k : Int)) (fun w => by simp [execOp, Act.eval, Act.put]) ?_
          refine take_pure (i := 9) rfl rfl (by kernel_rfl) (fun _ _ _ h => h) (v := .slice (cutA A c k) (n - k) (c - k)) (fun w => by simp [execOp, Act.eval, Act.put, sl2]) ?_
          simp only [Act.put, List.setIfInBounds_toArray, List.set_cons_zero, List.set_cons_succ]
          refine wp_left [0, 1, 2, 3, 4, 5, 6, 10, 11] 6 (by kernel_rfl) (by kernel_rfl) (by kernel_rfl) (by kernel_rfl) ?_
          refine MDerT.step (Ob.move Wanted.free Has.oldIs) ?_
          refine MDerT.step (Ob.move Wanted.free Has.oldIs) ?_
          refine MDerT.step (Ob.sliceTo_dots Wanted.free (Has.new 0 1) (Has.new 1 0) (Nat.le_trans hk DD.out.cap)) ?_
          refine MDerT.step (Ob.appNilV Wanted.free Tryz.underlying57 (Has.new 2 0) (fun w1 hb1 => (DD.out.take hk).mono (Below.ofDrew hb1)) (by have := hs.out; rw [List.length_take]; have := DD.out.len; omega)) ?_
          refine MDerT.step (Ob.loadV Wanted.free Has.oldIs (fun w1 hb1 => load_dot (Below.ofDrew hb1) Q1.out Q2.out)) ?_
          refine MDerT.step (Ob.mkDots157 Wanted.free (Has.new 4 0)) ?_
          intro wE hE
          change EndM _ [some 24, some 25, some 26, some 27, some 28, some 29] _ _ _
          simp only [EndM, List.reverse_cons, List.reverse_nil, List.nil_append, List.cons_append]
          iterate 3 (rintro _ rfl)
          rintro v3 r3
          rintro _ rfl
          rintro _ ⟨A5, n5, c5, rfl, d5⟩
          simp only [Act.put, List.setIfInBounds_toArray, List.set_cons_zero, List.set_cons_succ]
          replace hE := Below.ofDrew hE
          have hsz := hE.size
          have hlen := DD.out.len
          have hsm := hs.out
          refine wpList_app (B := W.heap.size) rfl rfl Tryz.underlying57 rfl rfl r3 d5 (by rw [List.length_take]; simp; omega) hsz ?_
          intro v6 w6 r6 g6
          change wpList _ _ _ _ (Act.put _ (some 30) v6) w6
          simp only [Act.put, List.setIfInBounds_toArray, List.set_cons_zero, List.set_cons_succ]
          have b6 : Below W.heap.size W w6 := hE.grown g6 hsz (fun q hq => Row.own _ r3 q hq)
          refine wpList_app (B := W.heap.size) rfl rfl Tryz.underlying57 rfl rfl r6 ((DD.out.drop hk).mono b6) (by rw [List.length_append, List.length_take, List.length_drop]; simp; omega) b6.size ?_
          intro v7 w7 r7 g7
          change wpList _ _ _ _ (Act.put _ (some 34) v7) w7
          simp only [Act.put, List.setIfInBounds_toArray, List.set_cons_zero, List.set_cons_succ]
          have b7 : Below W.heap.size W w7 := b6.grown g7 b6.size (fun q hq => Row.own _ r6 q hq)
          refine wpList_assign (v := v7) rfl rfl rfl ?_
          change wpList _ _ _ _ (Act.put _ (some 4) v7) w7
          refine wpList_nil ?_
          simp only [Act.put, List.setIfInBounds_toArray, List.set_cons_zero, List.set_cons_succ]
          have R7 := Lib.hid r7; have B7 := Lib.hid b7
          clear r7 b7 r6 g6 b6 g7 r3 d5 hE hsz hlen hsm sl1 sl2
          go_wp2
          go_ret
          refine ⟨_, rfl, BW.out.le B7.out, ?_⟩
          have := IsRow.dots R7.out
          unfold withD
          rw [if_neg (by rw [HM.out]; simp), HCU.out]
          simpa using this
      · have hF : decide ((k : Int) < (n : Int)) = false := by simpa using hlt
        have HF := Lib.hid hF; clear hF
        go_wp2_with fail
        refine wp_region_M mixed (by kernel_rfl) ?_
        refine MDerR.step (Ob.move Wanted.free Has.oldIs) ?_
        refine MDerR.step (Ob.move Wanted.free Has.oldIs) ?_
        refine MDerR.step (Ob.lenV Wanted.free (Has.new 1 0) (fun w1 => len_dots)) ?_
        refine MDerR.step (Ob.binV Wanted.free (Has.new 0 2) (Has.new 2 0) (fun w1 => int_lss false HF.out)) ?_
        refine MDerR.step (Ob.move Wanted.free (Has.new 3 0)) ?_
        refine MDerR.step (Ob.off 4 0) ?_
        refine MDerR.step (Ob.off 4 1) ?_
        refine MDerR.step (Ob.off 4 2) ?_
        refine MDerR.step (Ob.off 4 3) ?_
        refine MDerR.step (Ob.off 4 4) ?_
        refine MDerR.step (Ob.off 4 5) ?_
        refine MDerR.step (Ob.pickF Wanted.free (Has.new 4 6) (Has.cst _)) ?_
        simp only [MDerR, dstsOf, List.map, EndM, List.reverse_cons, List.reverse_nil, List.nil_append, List.cons_append]
        intro wE hE
        iterate 12 (rintro _ rfl)
        simp only [Act.put, List.setIfInBounds_toArray, List.set_cons_zero, List.set_cons_succ]
        have hcut : cutD (x, y) s = k := by rw [HC.out, List.drop_of_length_le (by rw [<- h.len]; omega)]; rfl
        have HCU := Lib.hid hcut
        have q1 := cellKeep hE Y1.out
        have q2 := cellKeep hE Y2.out
        have dd := HR.out.mono hE
        have hbw := ((hb0.le hb1).le hb).le hE
        have Q1 := Lib.hid q1; have Q2 := Lib.hid q2; have DD := Lib.hid dd; have BW := Lib.hid hbw
        clear hcut q1 q2 dd hbw hE hb hb1 hb0 h h0
        generalize wE = W at *
        go_wp2_with fail
        have sl1 := fun w => slice_to_dots (w := w) (A := A) (n := n) (c := c) (k := k) (Nat.le_trans hk DD.out.cap)
        have sl2 := fun w => slice_from_dots (w := w) (A := A) (n := n) (c := c) (k := k) hk DD.out.cap
        refine wp_region_any mixed ?_
        refine take_pure (i := 7) rfl rfl (by kernel_rfl) (fun _ _ _ h => h) (v := .slice A n c) (fun w => by simp [execOp, Act.eval]) ?_
        refine take_pure (i := 8) rfl rfl (by kernel_rfl) (fun _ _ _ h => h) (v := .int .i64 (k : Int)) (fun w => by simp [execOp, Act.eval, Act.put]) ?_
        refine take_pure (i := 9) rfl rfl (by kernel_rfl) (fun _ _ _ h => h) (v := .slice (cutA A c k) (n - k) (c - k)) (fun w => by simp [execOp, Act.eval, Act.put, sl2]) ?_
        simp only [Act.put, List.setIfInBounds_toArray, List.set_cons_zero, List.set_cons_succ]
        refine wp_left [0, 1, 2, 3, 4, 5, 6, 10, 11] 6 (by kernel_rfl) (by kernel_rfl) (by kernel_rfl) (by kernel_rfl) ?_
        refine MDerT.step (Ob.move Wanted.free Has.oldIs) ?_
        refine MDerT.step (Ob.move Wanted.free Has.oldIs) ?_
        refine MDerT.step (Ob.sliceTo_dots Wanted.free (Has.new 0 1) (Has.new 1 0) (Nat.le_trans hk DD.out.cap)) ?_
        refine MDerT.step (Ob.appNilV Wanted.free Tryz.underlying57 (Has.new 2 0) (fun w1 hb1 => (DD.out.take hk).mono (Below.ofDrew hb1)) (by have := hs.out; rw [List.length_take]; have := DD.out.len; omega)) ?_
        refine MDerT.step (Ob.loadV Wanted.free Has.oldIs (fun w1 hb1 => load_dot (Below.ofDrew hb1) Q1.out Q2.out)) ?_
        refine MDerT.step (Ob.mkDots157 Wanted.free (Has.new 4 0)) ?_
        intro wE hE
        change EndM _ [some 24, some 25, some 26, some 27, some 28, some 29] _ _ _
        simp only [EndM, List.reverse_cons, List.reverse_nil, List.nil_append, List.cons_append]
        iterate 3 (rintro _ rfl)
        rintro v3 r3
        rintro _ rfl
        rintro _ ⟨A5, n5, c5, rfl, d5⟩
        simp only [Act.put, List.setIfInBounds_toArray, List.set_cons_zero, List.set_cons_succ]
        replace hE := Below.ofDrew hE
        have hsz := hE.size
        have hlen := DD.out.len
        have hsm := hs.out
        refine wpList_app (B := W.heap.size) rfl rfl Tryz.underlying57 rfl rfl r3 d5 (by rw [List.length_take]; simp; omega) hsz ?_
        intro v6 w6 r6 g6
        change wpList _ _ _ _ (Act.put _ (some 30) v6) w6
        simp only [Act.put, List.setIfInBounds_toArray, List.set_cons_zero, List.set_cons_succ]
        have b6 : Below W.heap.size W w6 := hE.grown g6 hsz (fun q hq => Row.own _ r3 q hq)
        refine wpList_app (B := W.heap.size) rfl rfl Tryz.underlying57 rfl rfl r6 ((DD.out.drop hk).mono b6) (by rw [List.length_append, List.length_take, List.length_drop]; simp; omega) b6.size ?_
        intro v7 w7 r7 g7
        change wpList _ _ _ _ (Act.put _ (some 34) v7) w7
        simp only [Act.put, List.setIfInBounds_toArray, List.set_cons_zero, List.set_cons_succ]
        have b7 : Below W.heap.size W w7 := b6.grown g7 b6.size (fun q hq => Row.own _ r6 q hq)
        refine wpList_assign (v := v7) rfl rfl rfl ?_
        change wpList _ _ _ _ (Act.put _ (some 4) v7) w7
        refine wpList_nil ?_
        simp only [Act.put, List.setIfInBounds_toArray, List.set_cons_zero, List.set_cons_succ]
        have R7 := Lib.hid r7; have B7 := Lib.hid b7
        clear r7 b7 r6 g6 b6 g7 r3 d5 hE hsz hlen hsm sl1 sl2
        go_wp2
        go_ret
        refine ⟨_, rfl, BW.out.le B7.out, ?_⟩
        have := IsRow.dots R7.out
        unfold withD
        rw [if_neg (by rw [HM.out]; simp), HCU.out]
        simpa using this
end Go.Proofs.YtphhhnjeojdnkaaGreatDoor

namespace Go.Proofs.YtphhhnjeojdnkaaGreatDoor
open Go.RowKit
def raiseGo (d : Dot) : Bool -> List Dot -> List Dot
  | done, [] => if done then [] else [d]
  | done, a :: t => (if !done && decide (d.1 <= a.1) then [d] else []) ++ ((if a.1 != d.1 then [a] else []) ++ raiseGo d (done || decide (d.1 <= a.1)) t)
def raiseV (v : List Dot) (d : Dot) : List Dot := if hasV v d then v else raiseGo d false v
def RaiseRel (w : World) (B n : Nat) (v : List Dot) (d : Dot) (o dn i : Value) (wr : World) : Prop :=
  ∃ (k : Nat) (b : Bool) (acc : List Dot), i = .int .i64 k ∧ dn = .bool b ∧ k <= n ∧ Below w.heap.size w wr ∧ Row wr B o acc ∧ acc.length <= 2 * k ∧ raiseGo d false v = acc ++ raiseGo d b (v.drop k)
theorem Dots.one (w : World) (x y : Int) : Dots (w.alloc (.cells #[.int .i64 x, .int .i64 y] 67)) (some ⟨w.heap.size, 0, none⟩) 1 1 [(x, y)] :=
  ⟨rfl, Nat.le_refl _, by unfold maxLen; omega, (fun e => nomatch e), fun j e hj => by
    have : j = 0 := by have := (List.getElem?_eq_some_iff.1 hj).1; simpa using this
    subst this
    simp at hj; subst hj
    exact ⟨w.heap.size, 0, rfl, by simp, by simp [go_sem], by simp [go_sem]⟩⟩
def Off (p : Nat -> Prop) (A : Option Addr) (l : List Dot) : Prop := l ≠ [] -> ∀ a, A = some a -> p a.block
def IsDotsO (p : Nat -> Prop) (l : List Dot) (w : World) (v : Value) : Prop := ∃ A n c, v = .slice A n c ∧ Dots w A n c l ∧ Off p A l
theorem Row.offs {w : World} {B : Nat} {p : Nat -> Prop} {v : Value} {l : List Dot} (h : Row w B v l) (hp : ∀ b, B <= b -> p b) : IsDotsO p l w v := by
  obtain ⟨A, c, rfl, hd⟩ := Row.dots h
  exact ⟨A, _, c, rfl, hd, fun _ a ha => hp _ (Row.from_ h a ha)⟩
theorem Dots.lt {w : World} {A : Option Addr} {n c : Nat} {l : List Dot} (h : Dots w A n c l) (hl : l ≠ []) : ∀ a, A = some a -> a.block < w.heap.size := by
  intro a ha
  cases l with
  | nil => exact absurd rfl hl
  | cons d t =>
    obtain ⟨b, o, e, hb, _⟩ := h.cell 0 d rfl
    rw [ha] at e; cases e; exact hb
theorem Dots.off {w : World} {A : Option Addr} {n c : Nat} {p : Nat -> Prop} {l : List Dot} (h : Dots w A n c l) (hp : ∀ b, b < w.heap.size -> p b) : Off p A l := fun hl a ha => hp _ (h.lt hl a ha)
theorem Off.imp {A : Option Addr} {p q : Nat -> Prop} {l : List Dot} (h : Off p A l) (hp : ∀ b, p b -> q b) : Off q A l := fun hl a ha => hp _ (h hl a ha)
theorem Dots.grownO {w w1 : World} {A : Option Addr} {n c : Nat} {l : List Dot} {row : Option Nat} (h : Dots w A n c l) (hg : w.grownBy w1 row) (hne : Off (fun b => some b ≠ row) A l) : Dots w1 A n c l := by
  by_cases hl : l = []
  · subst hl; exact ⟨h.len, h.cap, h.max, h.nil, fun i d hi => by simp at hi⟩
  · exact Dots.grown h hg (hne hl)
theorem Dots.setO {w : World} {A : Option Addr} {n c N o : Nat} {l : List Dot} (h : Dots w A n c l) (hne : Off (· ≠ N) A l) (u : Value) : Dots (w.setCell ⟨N, o, none⟩ u) A n c l := by
  by_cases hl : l = []
  · subst hl; exact ⟨h.len, h.cap, h.max, h.nil, fun i d hi => by simp at hi⟩
  · exact Dots.set_ h (p := ⟨N, o, none⟩) (hne hl) u
theorem rraise (pr : Nat -> Prop) (x y : Int) (A : Option Addr) (n c : Nat) (l : List Dot) (w : World) (h : Dots w A n c l) (hs : Small n) (hN : ∀ b, w.heap.size <= b -> pr b) (ho : Off pr A l) :
    Calls Tryz.prog 154 #[.slice A n c, .agg #[.int .i64 x, .int .i64 y]] w (Ret w (IsDotsO pr (raiseV l (x, y)))) := by
  have HO := Lib.hid ho; clear ho
  have hn := h.big
  have hb0 : Below w.heap.size w (w.alloc (.cells #[.int .i64 x, .int .i64 y] 67)) := by go_grown
  have h0 := h.mono hb0
  have k1 : (w.alloc (.cells #[.int .i64 x, .int .i64 y] 67)).cell? ⟨w.heap.size, 0, none⟩ = some (.int .i64 x) := by simp [go_sem]
  have k2 : (w.alloc (.cells #[.int .i64 x, .int .i64 y] 67)).cell? ⟨w.heap.size, 1, none⟩ = some (.int .i64 y) := by simp [go_sem]
  have f1 := hasv111 x y A n c l _ h0
  cases hm : hasV l (x, y) with
  | true =>
    rw [hm] at f1
    have F1 := Lib.hid f1; have H0 := Lib.hid h0; have HM := Lib.hid hm
    clear f1 hm h0 h k1 k2
    go_enter Tryz.func154, Tryz.ntmps154
    go_wp2_with fail
    refine F1.out.mono ?_
    rintro e w1 ⟨_, rfl, hb1, rfl⟩
    go_wp2
    go_ret
    refine ⟨_, rfl, hb0.le hb1, A, n, c, rfl, ?_⟩
    unfold raiseV; rw [if_pos HM.out]; exact ⟨H0.out.mono hb1, HO.out⟩
  | false =>
    rw [hm] at f1
    have F1 := Lib.hid f1; have HM := Lib.hid hm
    clear f1 hm
    go_enter Tryz.func154, Tryz.ntmps154
    go_wp2_with fail
    refine F1.out.mono ?_
    rintro e w1 ⟨_, rfl, hb1, rfl⟩
    have hN1 : ∀ b, w1.heap.size <= b -> pr b := fun b hb => hN b (Nat.le_trans (hb0.le hb1).size hb)
    go_wp2_with fail
    go_loopw [5, 6, 7] (fun o dn i wr => RaiseRel w1 w1.heap.size n l (x, y) o dn i wr) (fun _ _ i _ => n - (intOf i).toNat)
    case atStart => exact ⟨0, false, [], rfl, rfl, by omega, Below.refl _ _, Row.nil_ _ _, Nat.le_refl _, by simp⟩
    case round =>
      obtain ⟨k, dn, acc, rfl, rfl, hk, hb, hr, hacc, hc⟩ := hrel
      have y1 := cellKeep hb (cellKeep hb1 k1)
      have y2 := cellKeep hb (cellKeep hb1 k2)
      have K1 := Lib.hid y1; have K2 := Lib.hid y2; have HR := Lib.hid hr; have HC := Lib.hid hc; have HA := Lib.hid hacc
      have hzr : w.heap.size < wr.heap.size := World.block_lt_of_cell? wr _ y1
      clear y1 y2 hr hc hacc
      by_cases hlt : k < n
      · obtain ⟨b, o, p, q, hA, hbk, e0, d1, c1, c2⟩ := (h0.mono hb1).at_ (k := k) hlt
        have C10 := Lib.hid c1; have C20 := Lib.hid c2
        have K10 := Lib.hid (cellKeep hb1 k1)
        replace c1 := cellKeep hb c1; replace c2 := cellKeep hb c2
        have ix := fun w => (show (Instr.indexAt 58 (.slice A n c) (.int .i64 (k : Int))).run Tryz.prog w = .ok (.pointer (some ⟨b, o + k * 2, none⟩)) w by rw [hA]; exact index_vec hlt)
        have IX := Lib.hid ix; have D1 := Lib.hid d1; have C1 := Lib.hid c1; have C2 := Lib.hid c2
        clear ix d1 c1 c2 hA e0 k1 k2
        have H1 := Lib.hid ((h0.mono hb1).mono hb)
        cases dn with
        | true =>
          go_wp2_with fail
          refine wp_region_M mixed (by kernel_rfl) ?_
          refine MDerR.step (Ob.move Wanted.free Has.oldIs) ?_
          refine MDerR.step (Ob.not Wanted.free (Has.new 0 0)) ?_
          refine MDerR.step (Ob.move Wanted.free (Has.new 1 0)) ?_
          refine MDerR.step (Ob.off 2 0) ?_
          refine MDerR.step (Ob.off 2 1) ?_
          refine MDerR.step (Ob.off 2 2) ?_
          refine MDerR.step (Ob.off 2 3) ?_
          refine MDerR.step (Ob.off 2 4) ?_
          refine MDerR.step (Ob.off 2 5) ?_
          refine MDerR.step (Ob.off 2 6) ?_
          refine MDerR.step (Ob.off 2 7) ?_
          refine MDerR.step (Ob.pickF Wanted.free (Has.new 2 8) (Has.cst _)) ?_
          simp only [MDerR, dstsOf, List.map, EndM, List.reverse_cons, List.reverse_nil, List.nil_append, List.cons_append]
          intro wE hE
          iterate 12 (rintro _ rfl)
          simp only [Act.put, List.setIfInBounds_toArray, List.set_cons_zero, List.set_cons_succ]
          replace HR := Lib.hid (Row.mono HR.out hE)
          replace C1 := Lib.hid (cellKeep hE C1.out); replace C2 := Lib.hid (cellKeep hE C2.out); replace K1 := Lib.hid (cellKeep hE K1.out)
          have HB := Lib.hid (hb.le hE)
          replace HA := Lib.hid (show acc.length <= 2 * k + 1 by have := HA.out; omega)
          replace HC := Lib.hid (show raiseGo (x, y) false l = acc ++ ((if (p != x) = true then [(p, q)] else []) ++ raiseGo (x, y) true (l.drop (k + 1))) by rw [HC.out, D1.out, raiseGo]; simp)
          clear hE hb H1 D1
          generalize wE = W0 at *
          go_wp2_with fail
          cases hq : (p != x) with
          | true =>
            have HQ := Lib.hid hq; clear hq
            go_wp2_with fail
            refine wp_region_M mixed (by kernel_rfl) ?_
            refine MDerR.step (Ob.move Wanted.free Has.oldIs) ?_
            refine MDerR.step (Ob.move Wanted.free Has.oldIs) ?_
            refine MDerR.step (Ob.indexV Wanted.free (Has.new 0 1) (Has.new 1 0) (fun w1 => IX.out w1)) ?_
            refine MDerR.step (Ob.fieldV Wanted.free (Has.new 2 0) (fun w1 => field_dot0)) ?_
            refine MDerR.step (Ob.loadV Wanted.free (Has.new 3 0) (fun w1 hb1 => load_int hb1 C1.out)) ?_
            refine MDerR.step (Ob.fieldV Wanted.free Has.oldIs (fun w1 => field_dot0)) ?_
            refine MDerR.step (Ob.loadV Wanted.free (Has.new 5 0) (fun w1 hb1 => load_int hb1 K1.out)) ?_
            refine MDerR.step (Ob.binV Wanted.free (Has.new 4 2) (Has.new 6 0) (fun w1 => int_neq true HQ.out)) ?_
            simp only [MDerR, dstsOf, List.map, EndM, List.reverse_cons, List.reverse_nil, List.nil_append, List.cons_append]
            intro wE hE
            iterate 8 (rintro _ rfl)
            simp only [Act.put, List.setIfInBounds_toArray, List.set_cons_zero, List.set_cons_succ]
            have hr2 := Row.mono HR.out hE
            have hb2 := HB.out.le hE
            have c1 := cellKeep hE C1.out
            have c2 := cellKeep hE C2.out
            have HR2 := Lib.hid hr2; have HB2 := Lib.hid hb2
            clear hr2 hb2 hE HR HB C1 C2 K1
            generalize wE = W1 at *
            have ix := IX.out W1
            have hE : Below W1.heap.size W1 (W1.alloc (.cells #[.int .i64 p, .int .i64 q] 67)) := by go_grown
            have HE := Lib.hid hE; clear hE
            go_wp2_with (at_builtin; refine wpList_app (B := w1.heap.size) rfl rfl Tryz.underlying58 rfl rfl (Row.mono HR2.out HE.out) (Dots.one _ _ _) (by have := HA.out; have := hs.out; simp; omega) (by have := HB2.out.size; simp; omega) ?_; intro v' w' hr' hg'; simp only [Act.put, List.setIfInBounds_toArray, List.set_cons_zero, List.set_cons_succ])
            go_roundw
            case rel => exact ⟨k + 1, _, _, by simp, rfl, hlt, (HB2.out.le HE.out).grown hg' (by have := HB2.out.size; simp; omega) (fun q hq => Row.own _ HR2.out q hq), hr', by have := HA.out; simp; omega, by rw [HC.out, if_pos HQ.out]; simp⟩
            case measure => simp [intOf]; omega
          | false =>
            have HQ := Lib.hid hq; clear hq
            go_wp2_with fail
            refine wp_region_M mixed (by kernel_rfl) ?_
            refine MDerR.step (Ob.move Wanted.free Has.oldIs) ?_
            refine MDerR.step (Ob.move Wanted.free Has.oldIs) ?_
            refine MDerR.step (Ob.indexV Wanted.free (Has.new 0 1) (Has.new 1 0) (fun w1 => IX.out w1)) ?_
            refine MDerR.step (Ob.fieldV Wanted.free (Has.new 2 0) (fun w1 => field_dot0)) ?_
            refine MDerR.step (Ob.loadV Wanted.free (Has.new 3 0) (fun w1 hb1 => load_int hb1 C1.out)) ?_
            refine MDerR.step (Ob.fieldV Wanted.free Has.oldIs (fun w1 => field_dot0)) ?_
            refine MDerR.step (Ob.loadV Wanted.free (Has.new 5 0) (fun w1 hb1 => load_int hb1 K1.out)) ?_
            refine MDerR.step (Ob.binV Wanted.free (Has.new 4 2) (Has.new 6 0) (fun w1 => int_neq false HQ.out)) ?_
            simp only [MDerR, dstsOf, List.map, EndM, List.reverse_cons, List.reverse_nil, List.nil_append, List.cons_append]
            intro wE hE
            iterate 8 (rintro _ rfl)
            simp only [Act.put, List.setIfInBounds_toArray, List.set_cons_zero, List.set_cons_succ]
            go_wp2
            go_roundw
            case rel => exact ⟨k + 1, _, _, by simp, rfl, hlt, HB.out.le hE, Row.mono HR.out hE, by have := HA.out; omega, by rw [HC.out, if_neg (by rw [HQ.out]; simp)]; simp⟩
            case measure => simp [intOf]; omega
        | false =>
          cases hg : decide (x <= p) with
          | true =>
            have HG := Lib.hid hg; clear hg
            go_wp2_with fail
            refine wp_region_M mixed (by kernel_rfl) ?_
            refine MDerR.step (Ob.move Wanted.free Has.oldIs) ?_
            refine MDerR.step (Ob.not Wanted.free (Has.new 0 0)) ?_
            refine MDerR.step (Ob.move Wanted.free (Has.new 1 0)) ?_
            refine MDerR.step (Ob.move (Wanted.on 2 0) Has.oldIs) ?_
            refine MDerR.step (Ob.move (Wanted.on 2 1) Has.oldIs) ?_
            refine MDerR.step (Ob.indexV (Wanted.on 2 2) (Has.new 3 1) (Has.new 4 0) (fun w1 => IX.out w1)) ?_
            refine MDerR.step (Ob.fieldV (Wanted.on 2 3) (Has.new 5 0) (fun w1 => field_dot0)) ?_
            refine MDerR.step (Ob.loadV (Wanted.on 2 4) (Has.new 6 0) (fun w1 hb1 => load_int hb1 C1.out)) ?_
            refine MDerR.step (Ob.fieldV (Wanted.on 2 5) Has.oldIs (fun w1 => field_dot0)) ?_
            refine MDerR.step (Ob.loadV (Wanted.on 2 6) (Has.new 8 0) (fun w1 hb1 => load_int hb1 K1.out)) ?_
            refine MDerR.step (Ob.binV (Wanted.on 2 7) (Has.new 7 2) (Has.new 9 0) (fun w1 => int_geq true HG.out)) ?_
            refine MDerR.step (Ob.pickT Wanted.free (Has.new 2 8) (Has.new 10 0)) ?_
            simp only [MDerR, dstsOf, List.map, EndM, List.reverse_cons, List.reverse_nil, List.nil_append, List.cons_append]
            intro wE hE
            iterate 12 (rintro _ rfl)
            simp only [Act.put, List.setIfInBounds_toArray, List.set_cons_zero, List.set_cons_succ]
            have hr2 := Row.mono HR.out hE
            have hb2 := hb.le hE
            have c1 := cellKeep hE C1.out
            have c2 := cellKeep hE C2.out
            have y1 := cellKeep hE K1.out
            have y2 := cellKeep hE K2.out
            generalize wE = W1 at *
            have HR2 := Lib.hid hr2; have HB2 := Lib.hid hb2; have C12 := Lib.hid c1; have C22 := Lib.hid c2
            have K12 := Lib.hid y1
            have hzW : w.heap.size < W1.heap.size := World.block_lt_of_cell? W1 _ y1
            clear hr2 hb2 c1 c2 hE HR hb C1 C2 K1 K2 H1
            have hE : Below W1.heap.size W1 (W1.alloc (.cells #[.int .i64 x, .int .i64 y] 67)) := by go_grown
            have HE := Lib.hid hE; clear hE
            have hz1 := HB2.out.size
            go_wp2_with (at_builtin; refine wpList_app (B := w1.heap.size) rfl rfl Tryz.underlying58 rfl rfl (Row.mono HR2.out HE.out) (Dots.one _ _ _) (by have := HA.out; have := hs.out; simp; omega) (by simp; omega) ?_; intro v' w' hr' hg'; simp only [Act.put, List.setIfInBounds_toArray, List.set_cons_zero, List.set_cons_succ])
            have hbw := (HB2.out.le HE.out).grown hg' (by simp; omega) (fun q hq => Row.own _ HR2.out q hq)
            have C1 := Lib.hid (cellKeep hbw C10.out); have C2 := Lib.hid (cellKeep hbw C20.out); have K1 := Lib.hid (cellKeep hbw K10.out)
            have HB := Lib.hid hbw
            have HR := Lib.hid hr'
            replace HA := Lib.hid (show (acc ++ [(x, y)]).length <= 2 * k + 1 by have := HA.out; simp; omega)
            replace HC := Lib.hid (show raiseGo (x, y) false l = acc ++ [(x, y)] ++ ((if (p != x) = true then [(p, q)] else []) ++ raiseGo (x, y) true (l.drop (k + 1))) by rw [HC.out, D1.out, raiseGo]; simp [HG.out])
            clear hg' hr' hbw HE HB2 HR2 C12 C22 K12 hzW y1 y2 D1 hz1
            generalize w' = W0 at *
            generalize acc ++ [(x, y)] = acc2 at *
            cases hq : (p != x) with
            | true =>
              have HQ := Lib.hid hq; clear hq
              go_wp2_with fail
              refine wp_region_M mixed (by kernel_rfl) ?_
              refine MDerR.step (Ob.move Wanted.free Has.oldIs) ?_
              refine MDerR.step (Ob.move Wanted.free Has.oldIs) ?_
              refine MDerR.step (Ob.indexV Wanted.free (Has.new 0 1) (Has.new 1 0) (fun w1 => IX.out w1)) ?_
              refine MDerR.step (Ob.fieldV Wanted.free (Has.new 2 0) (fun w1 => field_dot0)) ?_
              refine MDerR.step (Ob.loadV Wanted.free (Has.new 3 0) (fun w1 hb1 => load_int hb1 C1.out)) ?_
              refine MDerR.step (Ob.fieldV Wanted.free Has.oldIs (fun w1 => field_dot0)) ?_
              refine MDerR.step (Ob.loadV Wanted.free (Has.new 5 0) (fun w1 hb1 => load_int hb1 K1.out)) ?_
              refine MDerR.step (Ob.binV Wanted.free (Has.new 4 2) (Has.new 6 0) (fun w1 => int_neq true HQ.out)) ?_
              simp only [MDerR, dstsOf, List.map, EndM, List.reverse_cons, List.reverse_nil, List.nil_append, List.cons_append]
              intro wE hE
              iterate 8 (rintro _ rfl)
              simp only [Act.put, List.setIfInBounds_toArray, List.set_cons_zero, List.set_cons_succ]
              have hr2 := Row.mono HR.out hE
              have hb2 := HB.out.le hE
              have c1 := cellKeep hE C1.out
              have c2 := cellKeep hE C2.out
              have HR2 := Lib.hid hr2; have HB2 := Lib.hid hb2
              clear hr2 hb2 hE HR HB C1 C2 K1
              generalize wE = W1 at *
              have ix := IX.out W1
              have hE : Below W1.heap.size W1 (W1.alloc (.cells #[.int .i64 p, .int .i64 q] 67)) := by go_grown
              have HE := Lib.hid hE; clear hE
              go_wp2_with (at_builtin; refine wpList_app (B := w1.heap.size) rfl rfl Tryz.underlying58 rfl rfl (Row.mono HR2.out HE.out) (Dots.one _ _ _) (by have := HA.out; have := hs.out; simp; omega) (by have := HB2.out.size; simp; omega) ?_; intro v' w' hr' hg'; simp only [Act.put, List.setIfInBounds_toArray, List.set_cons_zero, List.set_cons_succ])
              go_roundw
              case rel => exact ⟨k + 1, _, _, by simp, rfl, hlt, (HB2.out.le HE.out).grown hg' (by have := HB2.out.size; simp; omega) (fun q hq => Row.own _ HR2.out q hq), hr', by have := HA.out; simp; omega, by rw [HC.out, if_pos HQ.out]; simp⟩
              case measure => simp [intOf]; omega
            | false =>
              have HQ := Lib.hid hq; clear hq
              go_wp2_with fail
              refine wp_region_M mixed (by kernel_rfl) ?_
              refine MDerR.step (Ob.move Wanted.free Has.oldIs) ?_
              refine MDerR.step (Ob.move Wanted.free Has.oldIs) ?_
              refine MDerR.step (Ob.indexV Wanted.free (Has.new 0 1) (Has.new 1 0) (fun w1 => IX.out w1)) ?_
              refine MDerR.step (Ob.fieldV Wanted.free (Has.new 2 0) (fun w1 => field_dot0)) ?_
              refine MDerR.step (Ob.loadV Wanted.free (Has.new 3 0) (fun w1 hb1 => load_int hb1 C1.out)) ?_
              refine MDerR.step (Ob.fieldV Wanted.free Has.oldIs (fun w1 => field_dot0)) ?_
              refine MDerR.step (Ob.loadV Wanted.free (Has.new 5 0) (fun w1 hb1 => load_int hb1 K1.out)) ?_
              refine MDerR.step (Ob.binV Wanted.free (Has.new 4 2) (Has.new 6 0) (fun w1 => int_neq false HQ.out)) ?_
              simp only [MDerR, dstsOf, List.map, EndM, List.reverse_cons, List.reverse_nil, List.nil_append, List.cons_append]
              intro wE hE
              iterate 8 (rintro _ rfl)
              simp only [Act.put, List.setIfInBounds_toArray, List.set_cons_zero, List.set_cons_succ]
              go_wp2
              go_roundw
              case rel => exact ⟨k + 1, _, _, by simp, rfl, hlt, HB.out.le hE, Row.mono HR.out hE, by have := HA.out; omega, by rw [HC.out, if_neg (by rw [HQ.out]; simp)]; simp⟩
              case measure => simp [intOf]; omega
          | false =>
            have HG := Lib.hid hg; clear hg
            go_wp2_with fail
            refine wp_region_M mixed (by kernel_rfl) ?_
            refine MDerR.step (Ob.move Wanted.free Has.oldIs) ?_
            refine MDerR.step (Ob.not Wanted.free (Has.new 0 0)) ?_
            refine MDerR.step (Ob.move Wanted.free (Has.new 1 0)) ?_
            refine MDerR.step (Ob.move (Wanted.on 2 0) Has.oldIs) ?_
            refine MDerR.step (Ob.move (Wanted.on 2 1) Has.oldIs) ?_
            refine MDerR.step (Ob.indexV (Wanted.on 2 2) (Has.new 3 1) (Has.new 4 0) (fun w1 => IX.out w1)) ?_
            refine MDerR.step (Ob.fieldV (Wanted.on 2 3) (Has.new 5 0) (fun w1 => field_dot0)) ?_
            refine MDerR.step (Ob.loadV (Wanted.on 2 4) (Has.new 6 0) (fun w1 hb1 => load_int hb1 C1.out)) ?_
            refine MDerR.step (Ob.fieldV (Wanted.on 2 5) Has.oldIs (fun w1 => field_dot0)) ?_
            refine MDerR.step (Ob.loadV (Wanted.on 2 6) (Has.new 8 0) (fun w1 hb1 => load_int hb1 K1.out)) ?_
            refine MDerR.step (Ob.binV (Wanted.on 2 7) (Has.new 7 2) (Has.new 9 0) (fun w1 => int_geq false HG.out)) ?_
            refine MDerR.step (Ob.pickT Wanted.free (Has.new 2 8) (Has.new 10 0)) ?_
            simp only [MDerR, dstsOf, List.map, EndM, List.reverse_cons, List.reverse_nil, List.nil_append, List.cons_append]
            intro wE hE
            iterate 12 (rintro _ rfl)
            simp only [Act.put, List.setIfInBounds_toArray, List.set_cons_zero, List.set_cons_succ]
            replace HR := Lib.hid (Row.mono HR.out hE)
            replace C1 := Lib.hid (cellKeep hE C1.out); replace C2 := Lib.hid (cellKeep hE C2.out); replace K1 := Lib.hid (cellKeep hE K1.out)
            have HB := Lib.hid (hb.le hE)
            replace HA := Lib.hid (show acc.length <= 2 * k + 1 by have := HA.out; omega)
            replace HC := Lib.hid (show raiseGo (x, y) false l = acc ++ ((if (p != x) = true then [(p, q)] else []) ++ raiseGo (x, y) false (l.drop (k + 1))) by rw [HC.out, D1.out, raiseGo]; simp [HG.out])
            clear hE hb H1 D1
            generalize wE = W0 at *
            go_wp2_with fail
            cases hq : (p != x) with
            | true =>
              have HQ := Lib.hid hq; clear hq
              go_wp2_with fail
              refine wp_region_M mixed (by kernel_rfl) ?_
              refine MDerR.step (Ob.move Wanted.free Has.oldIs) ?_
              refine MDerR.step (Ob.move Wanted.free Has.oldIs) ?_
              refine MDerR.step (Ob.indexV Wanted.free (Has.new 0 1) (Has.new 1 0) (fun w1 => IX.out w1)) ?_
              refine MDerR.step (Ob.fieldV Wanted.free (Has.new 2 0) (fun w1 => field_dot0)) ?_
              refine MDerR.step (Ob.loadV Wanted.free (Has.new 3 0) (fun w1 hb1 => load_int hb1 C1.out)) ?_
              refine MDerR.step (Ob.fieldV Wanted.free Has.oldIs (fun w1 => field_dot0)) ?_
              refine MDerR.step (Ob.loadV Wanted.free (Has.new 5 0) (fun w1 hb1 => load_int hb1 K1.out)) ?_
              refine MDerR.step (Ob.binV Wanted.free (Has.new 4 2) (Has.new 6 0) (fun w1 => int_neq true HQ.out)) ?_
              simp only [MDerR, dstsOf, List.map, EndM, List.reverse_cons, List.reverse_nil, List.nil_append, List.cons_append]
              intro wE hE
              iterate 8 (rintro _ rfl)
              simp only [Act.put, List.setIfInBounds_toArray, List.set_cons_zero, List.set_cons_succ]
              have hr2 := Row.mono HR.out hE
              have hb2 := HB.out.le hE
              have c1 := cellKeep hE C1.out
              have c2 := cellKeep hE C2.out
              have HR2 := Lib.hid hr2; have HB2 := Lib.hid hb2
              clear hr2 hb2 hE HR HB C1 C2 K1
              generalize wE = W1 at *
              have ix := IX.out W1
              have hE : Below W1.heap.size W1 (W1.alloc (.cells #[.int .i64 p, .int .i64 q] 67)) := by go_grown
              have HE := Lib.hid hE; clear hE
              go_wp2_with (at_builtin; refine wpList_app (B := w1.heap.size) rfl rfl Tryz.underlying58 rfl rfl (Row.mono HR2.out HE.out) (Dots.one _ _ _) (by have := HA.out; have := hs.out; simp; omega) (by have := HB2.out.size; simp; omega) ?_; intro v' w' hr' hg'; simp only [Act.put, List.setIfInBounds_toArray, List.set_cons_zero, List.set_cons_succ])
              go_roundw
              case rel => exact ⟨k + 1, _, _, by simp, rfl, hlt, (HB2.out.le HE.out).grown hg' (by have := HB2.out.size; simp; omega) (fun q hq => Row.own _ HR2.out q hq), hr', by have := HA.out; simp; omega, by rw [HC.out, if_pos HQ.out]; simp⟩
              case measure => simp [intOf]; omega
            | false =>
              have HQ := Lib.hid hq; clear hq
              go_wp2_with fail
              refine wp_region_M mixed (by kernel_rfl) ?_
              refine MDerR.step (Ob.move Wanted.free Has.oldIs) ?_
              refine MDerR.step (Ob.move Wanted.free Has.oldIs) ?_
              refine MDerR.step (Ob.indexV Wanted.free (Has.new 0 1) (Has.new 1 0) (fun w1 => IX.out w1)) ?_
              refine MDerR.step (Ob.fieldV Wanted.free (Has.new 2 0) (fun w1 => field_dot0)) ?_
              refine MDerR.step (Ob.loadV Wanted.free (Has.new 3 0) (fun w1 hb1 => load_int hb1 C1.out)) ?_
              refine MDerR.step (Ob.fieldV Wanted.free Has.oldIs (fun w1 => field_dot0)) ?_
              refine MDerR.step (Ob.loadV Wanted.free (Has.new 5 0) (fun w1 hb1 => load_int hb1 K1.out)) ?_
              refine MDerR.step (Ob.binV Wanted.free (Has.new 4 2) (Has.new 6 0) (fun w1 => int_neq false HQ.out)) ?_
              simp only [MDerR, dstsOf, List.map, EndM, List.reverse_cons, List.reverse_nil, List.nil_append, List.cons_append]
              intro wE hE
              iterate 8 (rintro _ rfl)
              simp only [Act.put, List.setIfInBounds_toArray, List.set_cons_zero, List.set_cons_succ]
              go_wp2
              go_roundw
              case rel => exact ⟨k + 1, _, _, by simp, rfl, hlt, HB.out.le hE, Row.mono HR.out hE, by have := HA.out; omega, by rw [HC.out, if_neg (by rw [HQ.out]; simp)]; simp⟩
              case measure => simp [intOf]; omega
      · have hF : decide ((k : Int) < (n : Int)) = false := by simpa using hlt
        have hk' : l.drop k = [] := List.drop_of_length_le (by rw [<- h.len]; omega)
        cases dn with
        | true =>
          go_wp2
          go_ret
          refine ⟨_, rfl, (hb0.le hb1).le hb, ?_⟩
          have := Row.offs HR.out hN1
          unfold raiseV
          rw [if_neg (by rw [HM.out]; simp), HC.out, hk', raiseGo]
          simpa using this
        | false =>
          have hE : Below wr.heap.size wr (wr.alloc (.cells #[.int .i64 x, .int .i64 y] 67)) := by go_grown
          have y1 := K1.out; have y2 := K2.out
          have hz1 := hb.size
          go_wp2_with (at_builtin; refine wpList_app (B := w1.heap.size) rfl rfl Tryz.underlying58 rfl rfl (Row.mono HR.out hE) (Dots.one _ _ _) (by have := HA.out; have := hs.out; simp; omega) (by simp; omega) ?_; intro v' w' hr' hg'; simp only [Act.put, List.setIfInBounds_toArray, List.set_cons_zero, List.set_cons_succ])
          go_ret
          refine ⟨_, rfl, (hb0.le hb1).le ((hb.le hE).grown hg' (by simp; omega) (fun q hq => Row.own _ HR.out q hq)), ?_⟩
          have := Row.offs hr' hN1
          unfold raiseV
          rw [if_neg (by rw [HM.out]; simp), HC.out, hk', raiseGo]
          simpa using this
end Go.Proofs.YtphhhnjeojdnkaaGreatDoor

namespace Go.Proofs.YtphhhnjeojdnkaaGreatDoor
open Go.RowKit
def unionD (a b : List Dot) : List Dot := b.foldl withD (a.foldl withD [])
def missC (c : Ctx) (l : List Dot) : List Dot := l.foldl (fun acc d => if hasC c d then acc else withD acc d) []
theorem withD_length (s : List Dot) (d : Dot) : (withD s d).length <= s.length + 1 := by
  unfold withD; split
  · omega
  · have := cutD_le d s
    simp [List.length_take, List.length_drop]; omega
def FoldRel (f : List Dot -> Dot -> List Dot) (w : World) (n B : Nat) (l s0 : List Dot) (o i : Value) (wr : World) : Prop :=
  ∃ (k : Nat) (A : Option Addr) (m c : Nat) (acc : List Dot), i = .int .i64 k ∧ k <= n ∧ o = .slice A m c ∧ Below w.heap.size w wr ∧ Dots wr A m c acc ∧ acc.length <= B + k ∧ l.foldl f s0 = (l.drop k).foldl f acc
theorem runion (A B : Option Addr) (n ca m cb : Nat) (a b : List Dot) (w : World) (ha : Dots w A n ca a) (hb' : Dots w B m cb b) (hs : Small (n + m)) :
    Calls Tryz.prog 115 #[.slice A n ca, .slice B m cb] w (Ret w (IsDots (unionD a b))) := by
  have hn := ha.big; have hm := hb'.big
  go_enter Tryz.func115, Tryz.ntmps115
  go_wp2
  go_loopw [5, 6] (fun o i wr => FoldRel withD w n 0 a [] o i wr) (fun _ i _ => n - (intOf i).toNat)
  case atStart => exact ⟨0, none, 0, 0, [], rfl, by omega, rfl, Below.refl _ _, Dots.nil_, Nat.le_refl _, rfl⟩
  case round =>
    obtain ⟨k, A1, m1, c1, acc, rfl, hk, rfl, hb, hd, hacc, hf⟩ := hrel
    by_cases hlt : k < n
    · obtain ⟨b', o, p, q, rfl, hbk, e0, d1, k1, k2⟩ := (ha.mono hb).at_ (k := k) hlt
      have F := Lib.hid (rwith p q A1 m1 c1 acc wr hd (by have := hs.out; have := hd.len; unfold Small; omega))
      have D1 := Lib.hid d1; have HF := Lib.hid hf; have HA := Lib.hid hacc
      clear d1 e0 hf hacc
      go_wp2_with (go_at_call 152; ((with_reducible refine F.out.mono ?_); rintro e w1 ⟨_, rfl, hb1, A2, m2, c2, rfl, hd2⟩))
      go_roundw
      case rel => exact ⟨k + 1, A2, m2, c2, _, by simp, hlt, rfl, hb.le hb1, hd2, by have := withD_length acc (p, q); have := HA.out; omega, by rw [HF.out, D1.out]; rfl⟩
      case measure => simp [intOf]; omega
    · have e : a.foldl withD [] = acc := by rw [hf, List.drop_of_length_le (by rw [<- ha.len]; omega)]; rfl
      have hk1 : acc.length <= n := by omega
      have E := Lib.hid e; clear e hf hacc
      go_wp2
      go_loopw [5, 7] (fun o i w2 => FoldRel withD wr m n b acc o i w2) (fun _ i _ => m - (intOf i).toNat)
      case atStart => exact ⟨0, A1, m1, c1, acc, rfl, by omega, rfl, Below.refl _ _, hd, by omega, rfl⟩
      case round =>
        obtain ⟨k, A1, m1, c1, acc, rfl, hk, rfl, hb2, hd, hacc, hf⟩ := hrel
        by_cases hlt : k < m
        · obtain ⟨b', o, p, q, rfl, hbk, e0, d1, k1, k2⟩ := ((hb'.mono hb).mono hb2).at_ (k := k) hlt
          have F := Lib.hid (rwith p q A1 m1 c1 acc _ hd (by have := hs.out; have := hd.len; unfold Small; omega))
          have D1 := Lib.hid d1; have HF := Lib.hid hf; have HA := Lib.hid hacc
          clear d1 e0 hf hacc
          go_wp2_with (go_at_call 152; ((with_reducible refine F.out.mono ?_); rintro e w1 ⟨_, rfl, hb1, A2, m2, c2, rfl, hd2⟩))
          go_roundw
          case rel => exact ⟨k + 1, A2, m2, c2, _, by simp, hlt, rfl, hb2.le hb1, hd2, by have := withD_length acc (p, q); have := HA.out; omega, by rw [HF.out, D1.out]; rfl⟩
          case measure => simp [intOf]; omega
        · rw [List.drop_of_length_le (by rw [<- hb'.len]; omega)] at hf
          have HF := Lib.hid hf; have HD := Lib.hid hd
          clear hf hd
          go_wp2
          go_ret
          refine ⟨_, rfl, hb.le hb2, _, _, _, rfl, ?_⟩
          unfold unionD
          rw [E.out, HF.out]; exact HD.out
end Go.Proofs.YtphhhnjeojdnkaaGreatDoor

namespace Go.Proofs.YtphhhnjeojdnkaaGreatDoor
open Go.RowKit
def stepC (s : Ctx) (d : Dot) : Ctx := if hasV s.1 d then s else if d.2 == getV s.1 d.1 + 1 then (raiseV s.1 d, s.2) else (s.1, s.2 ++ [d])
def passC (c : Ctx) : Ctx := c.2.foldl stepC (c.1, [])
def compactC (c : Ctx) : Ctx := if compC c then c else passC c
theorem raiseGo_true (d : Dot) : ∀ l : List Dot, raiseGo d true l = l.filter (fun a => a.1 != d.1)
  | [] => rfl
  | a :: t => by
    rw [raiseGo, List.filter_cons]
    simp only [Bool.not_true, Bool.false_and, Bool.true_or, raiseGo_true d t]
    by_cases h : a.1 = d.1 <;> simp [h]
theorem raiseGo_false (d a : Dot) (t : List Dot) : raiseGo d false (a :: t) = if d.1 <= a.1 then d :: (a :: t).filter (fun a => a.1 != d.1) else a :: raiseGo d false t := by
  rw [raiseGo]
  by_cases h : d.1 <= a.1
  · simp only [h, decide_true, Bool.not_false, Bool.and_true, if_true, Bool.or_true, raiseGo_true, List.filter_cons]
    by_cases h2 : a.1 = d.1 <;> simp [h2]
  · have h2 : a.1 ≠ d.1 := by omega
    simp [h, h2]
theorem raiseGo_length (d : Dot) : ∀ l : List Dot, (raiseGo d false l).length <= l.length + 1
  | [] => by simp [raiseGo]
  | a :: t => by
    rw [raiseGo_false]
    have := raiseGo_length d t
    have h2 := List.length_filter_le (fun a : Dot => a.1 != d.1) (a :: t)
    split
    · simp only [List.length_cons] at *; omega
    · simp only [List.length_cons]; omega
theorem raiseV_length (l : List Dot) (d : Dot) : (raiseV l d).length <= l.length + 1 := by
  unfold raiseV; split
  · omega
  · exact raiseGo_length d l
theorem raiseGo_valid (d : Dot) (hd : validD d = true) : ∀ l : List Dot, validL l = true -> validL (raiseGo d false l) = true
  | [], _ => by simp [raiseGo, validL, hd]
  | a :: t, h => by
    have h' := h
    unfold validL at h
    rw [List.all_eq_true] at h
    rw [raiseGo_false]
    split
    · unfold validL
      rw [List.all_eq_true]
      intro x hx
      rcases List.mem_cons.1 hx with rfl | hx
      · exact hd
      · exact h x ((List.mem_filter.1 hx).1)
    · have ih := raiseGo_valid d hd t (by unfold validL; rw [List.all_eq_true]; exact fun x hx => h x (List.mem_cons_of_mem _ hx))
      unfold validL at ih ⊢
      rw [List.all_cons, ih, h a List.mem_cons_self]; rfl
theorem raiseV_validL (d : Dot) (hd : validD d = true) (l : List Dot) (h : validL l = true) : validL (raiseV l d) = true := by
  unfold raiseV; split
  · exact h
  · exact raiseGo_valid d hd l h
theorem getV_wrap {v : List Dot} (h : validL v = true) (r : Int) : IntKind.i64.wrap (getV v r + 1) = getV v r + 1 := by
  have := getV_bd v r h
  exact IntWalk.i64_in _ (by omega)
def PassRel (p : Nat -> Prop) (w : World) (m L : Nat) (s0 : Ctx) (l : List Dot) (o v i : Value) (wr : World) : Prop :=
  ∃ (k : Nat) (A : Option Addr) (n c : Nat) (s : Ctx), i = .int .i64 k ∧ k <= m ∧ v = .slice A n c ∧ Below w.heap.size w wr ∧ Dots wr A n c s.1 ∧ Off (fun b => p b ∧ o.ownBlock ≠ some b) A s.1 ∧ Row wr w.heap.size o s.2 ∧ s.1.length <= L + k ∧ s.2.length <= k ∧ validL s.1 = true ∧ l.foldl stepC s0 = (l.drop k).foldl stepC s
def notYet (v : Value) : Nat := match v with | .int _ _ => 0 | _ => 1
def Far (N b : Nat) : Prop := b ≠ N ∧ b ≠ N + 1
def OutRel (w : World) (c : Ctx) (i : Value) (wr : World) : Prop :=
  ∃ (A B : Option Addr) (n ca m cb : Nat) (c' : Ctx), Below w.heap.size w wr ∧ w.heap.size + 1 < wr.heap.size ∧ wr.cell? ⟨w.heap.size, 0, none⟩ = some (.slice A n ca) ∧ wr.cell? ⟨w.heap.size, 1, none⟩ = some (.slice B m cb) ∧
    (∃ u, wr.cell? ⟨w.heap.size + 1, 0, none⟩ = some u) ∧ (∃ u, wr.cell? ⟨w.heap.size + 1, 1, none⟩ = some u) ∧ (∀ o, wr.frozen? ⟨w.heap.size, o, none⟩ = false) ∧ (∀ o, wr.frozen? ⟨w.heap.size + 1, o, none⟩ = false) ∧
    Con wr A n ca B m cb c' ∧ Off (Far w.heap.size) A c'.1 ∧ Off (Far w.heap.size) B c'.2 ∧ ((i = undef ∧ c' = c) ∨ (∃ k : Int, i = .int .i64 k) ∧ c' = passC c ∧ compC c = false)
theorem entersRGet : Enters Tryz.prog 147 := enters_of Tryz.func147 (by kernel_rfl) rfl
theorem rcompactC (A B : Option Addr) (n ca m cb : Nat) (c : Ctx) (w : World) (h : Con w A n ca B m cb c) (hs : Small (n + m)) (hv : validC c = true) (hp : compC (passC c) = true) :
    Calls Tryz.prog 114 #[.agg #[.slice A n ca, .slice B m cb]] w (Ret w (IsCon (compactC c))) := by
  have hb0 : Below w.heap.size w ((w.alloc (conBox A n ca B m cb)).alloc (conBox none 0 0 none 0 0)) := by go_grown
  have h0 := h.mono hb0
  have z0 : ((w.alloc (conBox A n ca B m cb)).alloc (conBox none 0 0 none 0 0)).cell? ⟨w.heap.size, 0, none⟩ = some (.slice A n ca) := by simp [go_sem]
  have z1 : ((w.alloc (conBox A n ca B m cb)).alloc (conBox none 0 0 none 0 0)).cell? ⟨w.heap.size, 1, none⟩ = some (.slice B m cb) := by simp [go_sem]
  have y0 : ((w.alloc (conBox A n ca B m cb)).alloc (conBox none 0 0 none 0 0)).cell? ⟨w.heap.size + 1, 0, none⟩ = some (.slice none 0 0) := by simp [go_sem]
  have y1 : ((w.alloc (conBox A n ca B m cb)).alloc (conBox none 0 0 none 0 0)).cell? ⟨w.heap.size + 1, 1, none⟩ = some (.slice none 0 0) := by simp [go_sem]
  have zf : ∀ o, ((w.alloc (conBox A n ca B m cb)).alloc (conBox none 0 0 none 0 0)).frozen? ⟨w.heap.size, o, none⟩ = false := fun o => by simp [go_sem]
  have yf : ∀ o, ((w.alloc (conBox A n ca B m cb)).alloc (conBox none 0 0 none 0 0)).frozen? ⟨w.heap.size + 1, o, none⟩ = false := fun o => by simp [go_sem]
  have start : OutRel w c undef ((w.alloc (conBox A n ca B m cb)).alloc (conBox none 0 0 none 0 0)) :=
    ⟨A, B, n, ca, m, cb, c, hb0, by simp, z0, z1, ⟨_, y0⟩, ⟨_, y1⟩, zf, yf, h0, h.v.off (fun b hb => ⟨by omega, by omega⟩), h.k.off (fun b hb => ⟨by omega, by omega⟩), .inl ⟨rfl, rfl⟩⟩
  have START := Lib.hid start; have HV := Lib.hid hv; have HP := Lib.hid hp; have HL := Lib.hid h.v.len; have HK := Lib.hid h.k.len
  clear start hv hp h h0 z0 z1 y0 y1 zf yf hb0
  go_enter Tryz.func114, Tryz.ntmps114
  go_wp2_with fail
  go_loopw [5] (fun i wr => OutRel w c i wr) (fun i _ => notYet i)
  case atStart => exact START.out
  case round =>
    clear START
    obtain ⟨A1, B1, n1, ca1, m1, cb1, c', hb, hz, v0, v1, ⟨g0, y0⟩, ⟨g1, y1⟩, zf, yf, hc, ho1, ho2, hcase⟩ := hrel
    have f := rccompact A1 B1 n1 ca1 m1 cb1 c' wr hc
    have HC := Lib.hid hc; have HB := Lib.hid hb; have HO1 := Lib.hid ho1; have HO2 := Lib.hid ho2; have HCASE := Lib.hid hcase
    have Y0 := Lib.hid y0; have Y1 := Lib.hid y1; have ZF := Lib.hid zf; have YF := Lib.hid yf
    clear hc hb ho1 ho2 hcase zf yf y0 y1
    cases hcc : compC c' with
    | true =>
      rw [hcc] at f
      have F := Lib.hid f; have HCC := Lib.hid hcc; clear f hcc
      have V0 := Lib.hid v0; have V1 := Lib.hid v1
      go_wp2_with (go_at_call 108; ((with_reducible refine F.out.mono ?_); rintro e w1 ⟨_, rfl, hb1, rfl⟩; have x0 := cellKeep hb1 V0.out; have x1 := cellKeep hb1 V1.out; have x2 := cellKeep hb1 Y0.out; have x3 := cellKeep hb1 Y1.out; have x4 := (hb1.frozen (p := ⟨w.heap.size + 1, 0, none⟩) hz).trans (YF.out 0); have x5 := (hb1.frozen (p := ⟨w.heap.size + 1, 1, none⟩) hz).trans (YF.out 1); have hz1 : w.heap.size + 1 < w1.heap.size := World.block_lt_of_cell? w1 _ x2))
      have s0 : (w1.setCell ⟨w.heap.size + 1, 0, none⟩ (.slice A1 n1 ca1)).cell? ⟨w.heap.size + 1, 0, none⟩ = some (.slice A1 n1 ca1) := cell_set x2
      have s1 : ((w1.setCell ⟨w.heap.size + 1, 0, none⟩ (.slice A1 n1 ca1)).setCell ⟨w.heap.size + 1, 1, none⟩ (.slice B1 m1 cb1)).cell? ⟨w.heap.size + 1, 1, none⟩ = some (.slice B1 m1 cb1) := cell_set (cell_far (by simp) x3)
      refine bodyPost_ret (v := .agg #[.slice A1 n1 ca1, .slice B1 m1 cb1]) (by simp [results, Tryz.results114, go_sem, s0, s1]) rfl ?_
      have hc1 := HC.out.mono hb1
      refine ⟨_, rfl, ((HB.out.trans (hb1.mono (by omega))).setCell (p := ⟨w.heap.size + 1, 0, none⟩) (by simp) _).setCell (p := ⟨w.heap.size + 1, 1, none⟩) (by simp) _, _, _, _, _, _, _, rfl, ?_⟩
      have ec : compactC c = c' := by
        rcases HCASE.out with ⟨_, e⟩ | ⟨_, e, h2⟩
        · unfold compactC; rw [<- e, if_pos HCC.out]
        · unfold compactC; rw [if_neg (by rw [h2]; simp), e]
      rw [ec]
      exact ⟨(hc1.v.setO (HO1.out.imp fun b h => h.2) _).setO (HO1.out.imp fun b h => h.2) _, (hc1.k.setO (HO2.out.imp fun b h => h.2) _).setO (HO2.out.imp fun b h => h.2) _⟩
    | false =>
      rw [hcc] at f
      have hcc' : c' = c := by
        rcases HCASE.out with ⟨_, h⟩ | ⟨_, e, _⟩
        · exact h
        · rw [e, HP.out] at hcc; cases hcc
      have hu5 : u5 = undef := by
        rcases HCASE.out with ⟨h, _⟩ | ⟨_, e, _⟩
        · exact h
        · rw [e, HP.out] at hcc; cases hcc
      subst hcc'; subst hu5
      have F := Lib.hid f; have HCC := Lib.hid hcc; clear f hcc HCASE
      have V0 := Lib.hid v0; have V1 := Lib.hid v1
      go_wp2_with (go_at_call 108; ((with_reducible refine F.out.mono ?_); rintro e w1 ⟨_, rfl, hb1, rfl⟩; have x0 := cellKeep hb1 V0.out; have x1 := cellKeep hb1 V1.out))
      have hc1 := HC.out.mono hb1
      have hbw := HB.out.trans (hb1.mono (by omega))
      have x2 := Lib.hid (cellKeep hb1 Y0.out); have x3 := Lib.hid (cellKeep hb1 Y1.out)
      have x4 := Lib.hid (fun o => (hb1.frozen (p := ⟨w.heap.size + 1, o, none⟩) hz).trans (YF.out o))
      have x5 := Lib.hid (fun o => (hb1.frozen (p := ⟨w.heap.size, o, none⟩) (show w.heap.size < _ by omega)).trans (ZF.out o))
      have hz1 : w.heap.size + 1 < w1.heap.size := World.block_lt_of_cell? w1 _ x2.out
      have hmx := hc1.k.big
      have X0 := Lib.hid x0; have X1 := Lib.hid x1; have HC1 := Lib.hid hc1; have HBW := Lib.hid hbw
      clear F HC HB Y0 Y1 ZF YF V0 V1 v0 v1 x0 x1 hc1 hbw hb1 hz
      go_loopw [3, 4, 5] (fun o v i w2 => PassRel (Far w.heap.size) w1 m1 n1 (c'.1, []) c'.2 o v i w2) (fun _ _ i _ => m1 - (intOf i).toNat)
      case atStart => exact ⟨0, A1, n1, ca1, (c'.1, []), rfl, by omega, rfl, Below.refl _ _, HC1.out.v, HO1.out.imp (fun b h => ⟨h, by simp [Value.ownBlock]⟩), Row.nil_ _ _, by show c'.1.length <= n1 + 0; have := HC1.out.v.len; omega, Nat.le_refl _, by have := HV.out; unfold validC validV at this; simp at this; exact this.1.2, rfl⟩
      case round =>
        obtain ⟨k, A2, n2, c2, s, rfl, hk, rfl, hb2, hd, ho, hr, hl1, hl2, hvl, hf⟩ := hrel
        have v0 := cellKeep hb2 X0.out
        have v1 := cellKeep hb2 X1.out
        have hzr : w.heap.size + 1 < wr.heap.size := Nat.lt_of_lt_of_le hz1 hb2.size
        have HR := Lib.hid hr; have HF := Lib.hid hf; have HO := Lib.hid ho; have L1 := Lib.hid hl1; have L2 := Lib.hid hl2; have VL := Lib.hid hvl; have HD := Lib.hid hd; have HB2 := Lib.hid hb2
        clear hr hf ho hl1 hl2 hvl hd
        by_cases hlt : k < m1
        · obtain ⟨b, o, p, q, rfl, hbk, e0, d1, k1, k2⟩ := (HC1.out.k.mono hb2).at_ (k := k) hlt
          have hmem := List.mem_of_getElem? e0
          have D1 := Lib.hid d1; have HM := Lib.hid hmem
          clear d1 e0 hmem
          have b1 : Below wr.heap.size wr (wr.alloc (.cells #[.int .i64 p, .int .i64 q] 67)) := by go_grown
          have k3 : (wr.alloc (.cells #[.int .i64 p, .int .i64 q] 67)).cell? ⟨wr.heap.size, 0, none⟩ = some (.int .i64 p) := by simp [go_sem]
          have k4 : (wr.alloc (.cells #[.int .i64 p, .int .i64 q] 67)).cell? ⟨wr.heap.size, 1, none⟩ = some (.int .i64 q) := by simp [go_sem]
          have f1 := hasv111 p q A2 n2 c2 s.1 _ (HD.out.mono b1)
          have B1' := Lib.hid b1; have K3 := Lib.hid k3; have K4 := Lib.hid k4
          clear b1 k3 k4
          cases hh : hasV s.1 (p, q) with
          | true =>
            rw [hh] at f1
            have F1 := Lib.hid f1; have HH := Lib.hid hh; clear f1 hh
            go_wp2_with (go_at_call 111; ((with_reducible refine F1.out.mono ?_); rintro e w2 ⟨_, rfl, hb3, rfl⟩))
            go_roundw
            case rel => exact ⟨k + 1, A2, n2, c2, s, by simp, hlt, rfl, (HB2.out.le B1'.out).le hb3, (HD.out.mono B1'.out).mono hb3, HO.out, Row.mono (Row.mono HR.out B1'.out) hb3, by have := L1.out; omega, by have := L2.out; omega, VL.out, by rw [HF.out, D1.out, List.foldl_cons, stepC, if_pos HH.out]⟩
            case measure => simp [intOf]; omega
          | false =>
            rw [hh] at f1
            have F1 := Lib.hid f1; have HH := Lib.hid hh; clear f1 hh
            have hsm : Small n2 := by have := hs.out; have := HL.out; have := HK.out; have := HD.out.len; have := L1.out; have := HC1.out.v.len; have := HC1.out.k.len; unfold Small; omega
            have hvd : validD (p, q) = true := validC_mem HV.out HM.out
            cases hq : (q == IntKind.i64.wrap (getV s.1 p + 1)) with
            | true =>
              have HQ := Lib.hid hq; clear hq
              go_wp2_with (go_at_call 111; ((with_reducible refine F1.out.mono ?_); rintro e w2 ⟨_, rfl, hb3, rfl⟩))
              have K32 := Lib.hid (cellKeep hb3 K3.out); have K42 := Lib.hid (cellKeep hb3 K4.out)
              have HD2 := Lib.hid ((HD.out.mono B1'.out).mono hb3); have HR2 := Lib.hid (Row.mono (Row.mono HR.out B1'.out) hb3); have HB3 := Lib.hid ((HB2.out.le B1'.out).le hb3)
              clear F1 HD HR HB2 hb3 K3 K4 B1'
              refine wp_region_M mixed (by kernel_rfl) ?_
              refine MDerR.step (Ob.fieldV Wanted.free Has.oldIs (fun w1 => field_dot1)) ?_
              refine MDerR.step (Ob.loadV Wanted.free (Has.new 0 0) (fun w1 hb1 => load_int hb1 K42.out)) ?_
              refine MDerR.step (Ob.move Wanted.free Has.oldIs) ?_
              refine MDerR.step (Ob.fieldV Wanted.free Has.oldIs (fun w1 => field_dot0)) ?_
              refine MDerR.step (Ob.loadV Wanted.free (Has.new 3 0) (fun w1 hb1 => load_int hb1 K32.out)) ?_
              refine MDerR.step (Ob.call2V Wanted.free entersRGet (Has.new 2 2) (Has.new 4 0) (fun w1 hb1 => rget A2 n2 c2 s.1 p w1 (HD2.out.mono hb1))) ?_
              refine MDerR.step (Ob.binV Wanted.free (Has.new 5 0) (Has.cst _) (fun w1 => int_add _ rfl)) ?_
              refine MDerR.step (Ob.binV Wanted.free (Has.new 1 5) (Has.new 6 0) (fun w1 => int_eql true HQ.out)) ?_
              refine MDerR.step (Ob.assign Wanted.free (Has.new 7 0)) ?_
              simp only [MDerR, dstsOf, List.map, EndM, List.reverse_cons, List.reverse_nil, List.nil_append, List.cons_append]
              intro wE hE
              iterate 9 (rintro _ rfl)
              simp only [Act.put, List.setIfInBounds_toArray, List.set_cons_zero, List.set_cons_succ]
              have y3 := cellKeep hE K32.out; have y4 := cellKeep hE K42.out
              have F3 := Lib.hid (rraise (fun b => Far w.heap.size b ∧ u3.ownBlock ≠ some b) p q A2 n2 c2 s.1 wE (HD2.out.mono hE) hsm (fun b hb => by have := hE.size; have := HB3.out.size; exact ⟨⟨by omega, by omega⟩, fun e => by have := (World.ownsRow.lt HR2.out b e).2; omega⟩) HO.out)
              go_wp2_with (go_at_call 154; ((with_reducible refine F3.out.mono ?_); rintro e w3 ⟨_, rfl, hb4, A3, n3, c3, rfl, hd3, ho3⟩))
              go_roundw
              case rel => exact ⟨k + 1, A3, n3, c3, (raiseV s.1 (p, q), s.2), by simp, hlt, rfl, (HB3.out.le hE).le hb4, hd3, ho3, Row.mono (Row.mono HR2.out hE) hb4, by have := raiseV_length s.1 (p, q); have := L1.out; show (raiseV s.1 (p, q)).length <= _; omega, by have := L2.out; show s.2.length <= _; omega, raiseV_validL _ hvd _ VL.out, by rw [HF.out, D1.out, List.foldl_cons, stepC, if_neg (by rw [HH.out]; simp), if_pos (by rw [<- getV_wrap VL.out]; exact HQ.out)]⟩
              case measure => simp [intOf]; omega
            | false =>
              have HQ := Lib.hid hq; clear hq
              go_wp2_with (go_at_call 111; ((with_reducible refine F1.out.mono ?_); rintro e w2 ⟨_, rfl, hb3, rfl⟩))
              have K32 := Lib.hid (cellKeep hb3 K3.out); have K42 := Lib.hid (cellKeep hb3 K4.out)
              have HD2 := Lib.hid ((HD.out.mono B1'.out).mono hb3); have HR2 := Lib.hid (Row.mono (Row.mono HR.out B1'.out) hb3); have HB3 := Lib.hid ((HB2.out.le B1'.out).le hb3)
              clear F1 HD HR HB2 hb3 K3 K4 B1'
              refine wp_region_M mixed (by kernel_rfl) ?_
              refine MDerR.step (Ob.fieldV Wanted.free Has.oldIs (fun w1 => field_dot1)) ?_
              refine MDerR.step (Ob.loadV Wanted.free (Has.new 0 0) (fun w1 hb1 => load_int hb1 K42.out)) ?_
              refine MDerR.step (Ob.move Wanted.free Has.oldIs) ?_
              refine MDerR.step (Ob.fieldV Wanted.free Has.oldIs (fun w1 => field_dot0)) ?_
              refine MDerR.step (Ob.loadV Wanted.free (Has.new 3 0) (fun w1 hb1 => load_int hb1 K32.out)) ?_
              refine MDerR.step (Ob.call2V Wanted.free entersRGet (Has.new 2 2) (Has.new 4 0) (fun w1 hb1 => rget A2 n2 c2 s.1 p w1 (HD2.out.mono hb1))) ?_
              refine MDerR.step (Ob.binV Wanted.free (Has.new 5 0) (Has.cst _) (fun w1 => int_add _ rfl)) ?_
              refine MDerR.step (Ob.binV Wanted.free (Has.new 1 5) (Has.new 6 0) (fun w1 => int_eql false HQ.out)) ?_
              refine MDerR.step (Ob.assign Wanted.free (Has.new 7 0)) ?_
              simp only [MDerR, dstsOf, List.map, EndM, List.reverse_cons, List.reverse_nil, List.nil_append, List.cons_append]
              intro wE hE
              iterate 9 (rintro _ rfl)
              simp only [Act.put, List.setIfInBounds_toArray, List.set_cons_zero, List.set_cons_succ]
              have y3 := cellKeep hE K32.out; have y4 := cellKeep hE K42.out
              have hE2 : Below wE.heap.size wE (wE.alloc (.cells #[.int .i64 p, .int .i64 q] 67)) := by go_grown
              have HE2 := Lib.hid hE2; clear hE2
              have hz2 := (HB3.out.le hE).size
              go_wp2_with (at_builtin; refine wpList_appO (B := w1.heap.size) rfl rfl Tryz.underlying57 rfl rfl (Row.mono (Row.mono HR2.out hE) HE2.out) (Dots.one _ _ _) (by have := hs.out; have := L2.out; have := HC1.out.k.len; have := HK.out; simp; omega) (by simp; omega) ?_; intro v' w' hr' hg' hown; simp only [Act.put, List.setIfInBounds_toArray, List.set_cons_zero, List.set_cons_succ])
              go_roundw
              case rel => exact ⟨k + 1, A2, n2, c2, (s.1, s.2 ++ [(p, q)]), by simp, hlt, rfl, ((HB3.out.le hE).le HE2.out).grown hg' (by simp; omega) (fun q hq => Row.own _ HR2.out q hq), ((HD2.out.mono hE).mono HE2.out).grownO hg' (HO.out.imp fun b h e => h.2 e.symm), (fun hl a ha => ⟨(HO.out hl a ha).1, fun e => by
                rcases hown _ e with h | h
                · exact (HO.out hl a ha).2 h
                · have := HD2.out.lt hl a ha; have := hE.size; simp at h; omega⟩), hr', by have := L1.out; show s.1.length <= _; omega, by have := L2.out; show (s.2 ++ [(p, q)]).length <= _; simp; omega, VL.out, by rw [HF.out, D1.out, List.foldl_cons, stepC, if_neg (by rw [HH.out]; simp), if_neg (by rw [<- getV_wrap VL.out, HQ.out]; simp)]⟩
              case measure => simp [intOf]; omega
        · rw [List.drop_of_length_le (by rw [<- HC1.out.k.len]; omega)] at HF
          have X2 := cellKeep hb2 x2.out; have X3 := cellKeep hb2 x3.out
          have zz0 := (hb2.frozen (p := ⟨w.heap.size, 0, none⟩) (show w.heap.size < _ by omega)).trans (x5.out 0)
          have zz1 := (hb2.frozen (p := ⟨w.heap.size, 1, none⟩) (show w.heap.size < _ by omega)).trans (x5.out 1)
          have zf : ∀ o, wr.frozen? ⟨w.heap.size, o, none⟩ = false := fun o => (hb2.frozen (p := ⟨w.heap.size, o, none⟩) (show w.heap.size < _ by omega)).trans (x5.out o)
          have yf : ∀ o, wr.frozen? ⟨w.heap.size + 1, o, none⟩ = false := fun o => (hb2.frozen (p := ⟨w.heap.size + 1, o, none⟩) hz1).trans (x4.out o)
          have XX2 := Lib.hid X2; have XX3 := Lib.hid X3; have ZF := Lib.hid zf; have YF := Lib.hid yf
          obtain ⟨A3, c3, e3, hd3⟩ := Row.dots HR.out
          subst e3
          have hoR : Off (Far w.heap.size) A3 s.2 := fun _ a ha => by have := Row.from_ HR.out a ha; exact ⟨by omega, by omega⟩
          have HD3 := Lib.hid hd3; have HOR := Lib.hid hoR
          clear hd3 hoR X2 X3 zf yf
          go_wp2
          go_roundw
          case rel =>
            have hpas : passC c' = s := by unfold passC; exact HF.out
            have hoA := HO.out.imp fun b h => h.1
            have hoN : Off (· ≠ w.heap.size) A2 s.1 := hoA.imp fun b h => h.1
            have hoM : Off (· ≠ w.heap.size) A3 s.2 := HOR.out.imp fun b h => h.1
            refine ⟨A2, A3, n2, c2, _, c3, s, ((HBW.out.trans (HB2.out.mono (by omega))).setCell (p := ⟨w.heap.size, 0, none⟩) (Nat.le_refl _) _).setCell (p := ⟨w.heap.size, 1, none⟩) (Nat.le_refl _) _, by simpa using hzr, ?_, ?_, ⟨_, cell_far (by simp) (cell_far (by simp) XX2.out)⟩, ⟨_, cell_far (by simp) (cell_far (by simp) XX3.out)⟩, ?_, ?_, ⟨(HD.out.setO hoN _).setO hoN _, (HD3.out.setO hoM _).setO hoM _⟩, hoA, HOR.out, .inr ⟨⟨_, rfl⟩, hpas.symm, HCC.out⟩⟩
            · exact cell_far (by simp) (cell_set v0)
            · exact cell_set (cell_far (by simp) v1)
            · intro o; have := ZF.out o; simpa [World.frozen?_setCell] using this
            · intro o; have := YF.out o; simpa [World.frozen?_setCell] using this
          case measure => simp [notYet, undef]
end Go.Proofs.YtphhhnjeojdnkaaGreatDoor
