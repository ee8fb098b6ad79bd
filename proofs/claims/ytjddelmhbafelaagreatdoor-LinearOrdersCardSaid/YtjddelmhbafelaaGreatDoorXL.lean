/-
  A stable sort by merges, in plain terms: what a rotation, an insertion and a merge do to a row of numbers.
-/
import Derived.Test.YtjddelmhbafelaaGreatDoorXA
import Derived.Laws.OwnMore
import Derived.Maps.AppendAt
import Derived.Deep.MidRow
import Derived.Laws.MakeOwn
import Derived.BigRegion
set_option linter.unusedSectionVars false
set_option linter.unusedVariables false
set_option linter.unusedSimpArgs false
namespace Go.Proofs.YtjddelmhbafelaaGreatDoor
namespace Ls

structure Lin (lt : Int → Int → Prop) : Prop where
  irr : ∀ x, ¬ lt x x
  trans : ∀ {x y z}, lt x y → lt y z → lt x z
  tot : ∀ x y, lt x y ∨ x = y ∨ lt y x

def Srt (lt : Int → Int → Prop) (f : Nat → Int) (a b : Nat) : Prop := ∀ i j, a ≤ i → i < j → j < b → lt (f i) (f j)
def In (f : Nat → Int) (a b : Nat) (x : Int) : Prop := ∃ i, a ≤ i ∧ i < b ∧ f i = x
/-- What lies from a to b has changed places; the rest lies where it lay. -/
structure Re (f k : Nat → Int) (a b : Nat) : Prop where
  same : ∀ x, In k a b x ↔ In f a b x
  out : ∀ i, i < a ∨ b ≤ i → k i = f i
def Cross (f : Nat → Int) (a m b : Nat) : Prop := ∀ i j, a ≤ i → i < m → m ≤ j → j < b → f i < f j

theorem Re.refl (f : Nat → Int) (a b : Nat) : Re f f a b := ⟨fun _ => Iff.rfl, fun _ _ => rfl⟩
theorem Re.trans {f k h : Nat → Int} {a b : Nat} (x : Re f k a b) (y : Re k h a b) : Re f h a b :=
  ⟨fun v => (y.same v).trans (x.same v), fun i hi => (y.out i hi).trans (x.out i hi)⟩
/-- A change of places in a part is one of the whole. -/
theorem Re.wide {f k : Nat → Int} {a b c d : Nat} (h : Re f k a b) (h1 : c ≤ a) (h2 : b ≤ d) : Re f k c d := by
  refine ⟨fun x => ⟨?_, ?_⟩, fun i hi => h.out i (by omega)⟩
  · rintro ⟨i, g1, g2, g3⟩
    by_cases hi : a ≤ i ∧ i < b
    · obtain ⟨j, e1, e2, e3⟩ := (h.same x).1 ⟨i, hi.1, hi.2, g3⟩
      exact ⟨j, by omega, by omega, e3⟩
    · exact ⟨i, g1, g2, by rw [← h.out i (by omega)]; exact g3⟩
  · rintro ⟨i, g1, g2, g3⟩
    by_cases hi : a ≤ i ∧ i < b
    · obtain ⟨j, e1, e2, e3⟩ := (h.same x).2 ⟨i, hi.1, hi.2, g3⟩
      exact ⟨j, by omega, by omega, e3⟩
    · exact ⟨i, g1, g2, by rw [h.out i (by omega)]; exact g3⟩
theorem Re.at_ {f k : Nat → Int} {a b : Nat} (h : Re f k a b) {i : Nat} (h1 : a ≤ i) (h2 : i < b) : ∃ j, a ≤ j ∧ j < b ∧ f j = k i := (h.same _).1 ⟨i, h1, h2, rfl⟩
/-- Blocks [a, m) and [m, b) change places. -/
def rot (f : Nat → Int) (a m b : Nat) : Nat → Int := fun i => if a ≤ i ∧ i < a + (b - m) then f (i + (m - a)) else if a + (b - m) ≤ i ∧ i < b then f (i - (b - m)) else f i
theorem rot_low {f : Nat → Int} {a m b i : Nat} (h1 : a ≤ i) (h2 : i < a + (b - m)) : rot f a m b i = f (i + (m - a)) := by
  unfold rot; rw [if_pos ⟨h1, h2⟩]
theorem rot_high {f : Nat → Int} {a m b i : Nat} (h1 : a + (b - m) ≤ i) (h2 : i < b) : rot f a m b i = f (i - (b - m)) := by
  unfold rot; rw [if_neg (by omega), if_pos ⟨h1, h2⟩]
theorem rot_out {f : Nat → Int} {a m b i : Nat} (hm : a ≤ m) (hb : m ≤ b) (h : i < a ∨ b ≤ i) : rot f a m b i = f i := by
  unfold rot; rw [if_neg (by omega), if_neg (by omega)]
theorem rot_re (f : Nat → Int) {a m b : Nat} (h1 : a ≤ m) (h2 : m ≤ b) : Re f (rot f a m b) a b := by
  refine ⟨fun x => ⟨?_, ?_⟩, fun i hi => rot_out h1 h2 hi⟩
  · rintro ⟨i, g1, g2, g3⟩
    by_cases hi : i < a + (b - m)
    · rw [rot_low g1 hi] at g3; exact ⟨_, by omega, by omega, g3⟩
    · rw [rot_high (by omega) g2] at g3; exact ⟨_, by omega, by omega, g3⟩
  · rintro ⟨i, g1, g2, g3⟩
    by_cases hi : i < m
    · exact ⟨i + (b - m), by omega, by omega, by rw [rot_high (by omega) (by omega)]; rw [← g3]; congr 1; omega⟩
    · exact ⟨i - (m - a), by omega, by omega, by rw [rot_low (by omega) (by omega)]; rw [← g3]; congr 1; omega⟩
theorem rot_left (f : Nat → Int) {a b : Nat} (h : a ≤ b) : rot f a a b = f := by
  funext i; unfold rot
  by_cases h1 : a ≤ i ∧ i < a + (b - a)
  · rw [if_pos h1]; congr 1; omega
  · rw [if_neg h1, if_neg (by omega)]
theorem rot_right (f : Nat → Int) {a b : Nat} (h : a ≤ b) : rot f a b b = f := by
  funext i; unfold rot
  rw [if_neg (by omega)]
  by_cases h1 : a + (b - b) ≤ i ∧ i < b
  · rw [if_pos h1]; congr 1; omega
  · rw [if_neg h1]
/-- Two numbers change places. -/
def sw (f : Nat → Int) (i j : Nat) : Nat → Int := fun k => if k = i then f j else if k = j then f i else f k
/-- Two blocks of n numbers change places. -/
def swp (f : Nat → Int) (a b n : Nat) : Nat → Int := fun i => if a ≤ i ∧ i < a + n then f (i - a + b) else if b ≤ i ∧ i < b + n then f (i - b + a) else f i
theorem swp_zero (f : Nat → Int) (a b : Nat) : swp f a b 0 = f := by
  funext i; unfold swp; rw [if_neg (by omega), if_neg (by omega)]
theorem swp_step (f : Nat → Int) {a b k : Nat} (h : a + (k + 1) ≤ b) : sw (swp f a b k) (a + k) (b + k) = swp f a b (k + 1) := by
  funext i
  unfold sw swp
  by_cases h1 : i = a + k
  · subst h1
    rw [if_pos rfl, if_neg (by omega), if_neg (by omega), if_pos (by omega)]
    congr 1; omega
  · rw [if_neg h1]
    by_cases h2 : i = b + k
    · subst h2
      rw [if_pos rfl, if_neg (by omega), if_neg (by omega), if_neg (by omega), if_pos (by omega)]
      congr 1; omega
    · rw [if_neg h2]
      by_cases h3 : a ≤ i ∧ i < a + k
      · rw [if_pos h3, if_pos (by omega)]
      · rw [if_neg h3]
        by_cases h4 : b ≤ i ∧ i < b + k
        · rw [if_pos h4, if_neg (by omega), if_pos (by omega)]
        · rw [if_neg h4, if_neg (by omega), if_neg (by omega)]
/-- The rounds of a rotation. -/
theorem rot_more (f : Nat → Int) {m i j : Nat} (hi : i ≤ m) (h : j < i) : rot (swp f (m - i) m j) (m - (i - j)) m (m + j) = rot f (m - i) m (m + j) := by
  funext k
  by_cases h1 : k < m - i ∨ m + j ≤ k
  · rw [rot_out (by omega) (by omega) (by omega), rot_out (by omega) (by omega) h1]
    unfold swp; rw [if_neg (by omega), if_neg (by omega)]
  · by_cases h2 : k < m - i + j
    · rw [rot_out (by omega) (by omega) (by omega), rot_low (by omega) (by omega)]
      unfold swp; rw [if_pos (by omega)]; congr 1; omega
    · rw [rot_high (a := m - i) (by omega) (by omega)]
      by_cases h3 : k < m - (i - j) + j
      · rw [rot_low (by omega) (by omega)]
        unfold swp
        by_cases h4 : k + (m - (m - (i - j))) < m
        · rw [if_neg (by omega), if_neg (by omega)]; congr 1; omega
        · rw [if_neg (by omega), if_pos (by omega)]; congr 1; omega
      · rw [rot_high (by omega) (by omega)]
        unfold swp; rw [if_neg (by omega), if_neg (by omega)]
theorem rot_less (f : Nat → Int) {m i j : Nat} (hi : i ≤ m) (h : i < j) : rot (swp f (m - i) (m + j - i) i) (m - i) m (m + (j - i)) = rot f (m - i) m (m + j) := by
  funext k
  by_cases h1 : k < m - i ∨ m + j ≤ k
  · rw [rot_out (by omega) (by omega) (by omega), rot_out (by omega) (by omega) h1]
    unfold swp; rw [if_neg (by omega), if_neg (by omega)]
  · by_cases h2 : k < m - i + j
    · rw [rot_low (a := m - i) (b := m + j) (by omega) (by omega)]
      by_cases h3 : k < m - i + (j - i)
      · rw [rot_low (by omega) (by omega)]
        unfold swp; rw [if_neg (by omega), if_neg (by omega)]
      · by_cases h4 : k < m + (j - i)
        · rw [rot_high (by omega) (by omega)]
          unfold swp; rw [if_pos (by omega)]; congr 1; omega
        · exact absurd h4 (by omega)
    · rw [rot_high (a := m - i) (b := m + j) (by omega) (by omega)]
      rw [rot_out (by omega) (by omega) (by omega)]
      unfold swp; rw [if_neg (by omega), if_pos (by omega)]; congr 1; omega
theorem rot_same (f : Nat → Int) {m i : Nat} (hi : i ≤ m) : swp f (m - i) m i = rot f (m - i) m (m + i) := by
  funext k
  by_cases h1 : k < m - i ∨ m + i ≤ k
  · rw [rot_out (by omega) (by omega) h1]; unfold swp; rw [if_neg (by omega), if_neg (by omega)]
  · by_cases h2 : k < m
    · rw [rot_low (by omega) (by omega)]; unfold swp; rw [if_pos (by omega)]; congr 1; omega
    · rw [rot_high (by omega) (by omega)]; unfold swp; rw [if_neg (by omega), if_pos (by omega)]; congr 1; omega
/-- One number goes forward by a step. -/
theorem rot_up (f : Nat → Int) {a k : Nat} (h : a ≤ k) : sw (rot f a (a + 1) (k + 1)) k (k + 1) = rot f a (a + 1) (k + 2) := by
  funext i
  unfold sw
  by_cases h1 : i = k
  · rw [if_pos h1, rot_out (by omega) (by omega) (by omega), rot_low (by omega) (by omega)]; congr 1; omega
  · rw [if_neg h1]
    by_cases h2 : i = k + 1
    · rw [if_pos h2, rot_high (by omega) (by omega), rot_high (by omega) (by omega)]; congr 1; omega
    · rw [if_neg h2]
      by_cases h3 : i < a ∨ k + 2 ≤ i
      · rw [rot_out (by omega) (by omega) (by omega), rot_out (by omega) (by omega) h3]
      · rw [rot_low (by omega) (by omega), rot_low (by omega) (by omega)]
/-- One number goes back by a step. -/
theorem rot_down (f : Nat → Int) {j i : Nat} (h : j + 1 ≤ i) : sw (rot f (j + 1) i (i + 1)) (j + 1) j = rot f j i (i + 1) := by
  funext k
  unfold sw
  by_cases h1 : k = j + 1
  · rw [if_pos h1, rot_out (by omega) (by omega) (by omega), rot_high (by omega) (by omega)]; congr 1; omega
  · rw [if_neg h1]
    by_cases h2 : k = j
    · rw [if_pos h2, rot_low (by omega) (by omega), rot_low (by omega) (by omega)]; congr 1; omega
    · rw [if_neg h2]
      by_cases h3 : k < j ∨ i + 1 ≤ k
      · rw [rot_out (by omega) (by omega) (by omega), rot_out (by omega) (by omega) h3]
      · rw [rot_high (by omega) (by omega), rot_high (by omega) (by omega)]
section
variable {lt : Int → Int → Prop}
/-- The number behind a sorted block goes to its place. -/
theorem srt_down (hl : Lin lt) {f : Nat → Int} {a j i : Nat} (hs : Srt lt f a i) (h1 : a ≤ j) (h2 : j ≤ i) (lo : j = a ∨ lt (f (j - 1)) (f i)) (hi : ∀ k, j ≤ k → k < i → lt (f i) (f k)) : Srt lt (rot f j i (i + 1)) a (i + 1) := by
  have low : ∀ k, a ≤ k → k < j → lt (f k) (f i) := fun k e1 e2 => by
    rcases lo with rfl | lo
    · omega
    · rcases Nat.lt_or_ge k (j - 1) with h | h
      · exact hl.trans (hs k (j - 1) e1 h (by omega)) lo
      · have : k = j - 1 := by omega
        rw [this]; exact lo
  intro x y e1 e2 e3
  by_cases hx : x < j
  · rw [rot_out h2 (by omega) (.inl hx)]
    by_cases hy : y < j
    · rw [rot_out h2 (by omega) (.inl hy)]; exact hs x y e1 e2 (by omega)
    · by_cases hy' : y < j + 1
      · rw [rot_low (by omega) (by omega)]
        have : y + (i - j) = i := by omega
        rw [this]; exact low x e1 hx
      · rw [rot_high (by omega) e3]; exact hs x _ e1 (by omega) (by omega)
  · by_cases hx' : x < j + 1
    · rw [rot_low (by omega) (by omega), rot_high (by omega) e3]
      have : x + (i - j) = i := by omega
      rw [this]; exact hi _ (by omega) (by omega)
    · rw [rot_high (by omega) (by omega), rot_high (by omega) e3]; exact hs _ _ (by omega) (by omega) (by omega)
/-- The number in front of a sorted block goes to its place. -/
theorem srt_up (hl : Lin lt) {f : Nat → Int} {a i b : Nat} (hs : Srt lt f (a + 1) b) (h1 : a + 1 ≤ i) (h2 : i ≤ b) (lo : ∀ k, a + 1 ≤ k → k < i → lt (f k) (f a)) (hi : i = b ∨ lt (f a) (f i)) : Srt lt (rot f a (a + 1) i) a b := by
  have high : ∀ k, i ≤ k → k < b → lt (f a) (f k) := fun k e1 e2 => by
    rcases hi with rfl | hi
    · omega
    · rcases Nat.lt_or_ge i k with h | h
      · exact hl.trans hi (hs i k h1 h e2)
      · have : k = i := by omega
        rw [this]; exact hi
  intro x y e1 e2 e3
  by_cases hy : i ≤ y
  · rw [rot_out (f := f) (i := y) (by omega) h1 (.inr hy)]
    by_cases hx : i ≤ x
    · rw [rot_out (by omega) h1 (.inr hx)]; exact hs x y (by omega) e2 e3
    · by_cases hx' : x < i - 1
      · rw [rot_low (by omega) (by omega)]; exact hs _ y (by omega) (by omega) e3
      · rw [rot_high (by omega) (by omega)]
        have : x - (i - (a + 1)) = a := by omega
        rw [this]; exact high y hy e3
  · by_cases hy' : y < i - 1
    · rw [rot_low (by omega) (by omega), rot_low (by omega) (by omega)]; exact hs _ _ (by omega) (by omega) (by omega)
    · rw [rot_high (i := y) (by omega) (by omega), rot_low (by omega) (by omega)]
      have : y - (i - (a + 1)) = a := by omega
      rw [this]; exact lo _ (by omega) (by omega)
/-- What a merge parts: with the cut at s, all that goes to the front is less than all that goes to the back. -/
theorem part_lt (hl : Lin lt) {f : Nat → Int} {a m b mid s : Nat} (h1 : a < m) (h2 : m < b) (hmid : mid = (a + b) / 2) (hA : Srt lt f a m) (hB : Srt lt f m b)
    (s0 : a ≤ s) (s1 : s ≤ m) (s2 : s ≤ mid) (s3 : mid + m ≤ s + b)
    (lo : s = a ∨ mid + m = s + b ∨ lt (f (s - 1)) (f (mid + m - s)))
    (hi : s = m ∨ s = mid ∨ lt (f (mid + m - 1 - s)) (f s)) :
    ∀ x y, a ≤ x → x < mid → mid ≤ y → y < b → lt (rot f s m (mid + m - s) x) (rot f s m (mid + m - s) y) := by
  have hm : mid < b := by omega
  have ha : a ≤ mid := by omega
  intro x y e1 e2 e3 e4
  -- the front's numbers
  by_cases hx : x < s
  · rw [rot_out (i := x) s1 (by omega) (.inl hx)]
    by_cases hy : y < mid + m - s
    · rw [rot_high (by omega) hy]; exact hA x _ e1 (by omega) (by omega)
    · rw [rot_out s1 (by omega) (.inr (by omega))]
      -- left low against right high
      rcases lo with r | r | r
      · omega
      · omega
      · have p : lt (f x) (f (mid + m - s)) := by
          rcases Nat.lt_or_ge x (s - 1) with h | h
          · exact hl.trans (hA x (s - 1) e1 h (by omega)) r
          · have : x = s - 1 := by omega
            rw [this]; exact r
        rcases Nat.lt_or_ge (mid + m - s) y with h | h
        · exact hl.trans p (hB _ y (by omega) h e4)
        · have : y = mid + m - s := by omega
          rw [this]; exact p
  · rw [rot_low (i := x) (by omega) (by omega)]
    by_cases hy : y < mid + m - s
    · rw [rot_high (by omega) hy]
      -- right low against left high
      rcases hi with r | r | r
      · omega
      · omega
      · have p : lt (f (x + (m - s))) (f s) := by
          rcases Nat.lt_or_ge (x + (m - s)) (mid + m - 1 - s) with h | h
          · exact hl.trans (hB _ _ (by omega) h (by omega)) r
          · have : x + (m - s) = mid + m - 1 - s := by omega
            rw [this]; exact r
        rcases Nat.lt_or_ge s (y - (mid + m - s - m)) with h | h
        · exact hl.trans p (hA s _ s0 h (by omega))
        · have : y - (mid + m - s - m) = s := by omega
          rw [this]; exact p
    · rw [rot_out s1 (by omega) (.inr (by omega))]
      exact hB _ y (by omega) (by omega) e4
/-- Two sorted halves, of which the first is the lesser. -/
theorem srt_join {f k h : Nat → Int} {a mid b : Nat} (hm : a ≤ mid) (hb : mid ≤ b) (r1 : Re f k a mid) (s1 : Srt lt k a mid) (r2 : Re k h mid b) (s2 : Srt lt h mid b)
    (hp : ∀ x y, a ≤ x → x < mid → mid ≤ y → y < b → lt (f x) (f y)) : Srt lt h a b := by
  intro x y e1 e2 e3
  by_cases hy : y < mid
  · rw [r2.out x (by omega), r2.out y (by omega)]; exact s1 x y e1 e2 hy
  · by_cases hx : x < mid
    · rw [r2.out x (by omega)]
      obtain ⟨i, i1, i2, i3⟩ := r1.at_ e1 hx
      obtain ⟨j, j1, j2, j3⟩ := r2.at_ (show mid ≤ y by omega) e3
      rw [r1.out j (by omega)] at j3
      rw [← i3, ← j3]; exact hp i j i1 i2 j1 j2
    · exact s2 x y (by omega) e2 e3
/-- Two rows that are sorted and have the same numbers are one. -/
theorem srt_one (hl : Lin lt) {f k : Nat → Int} {n : Nat} (hf : Srt lt f 0 n) (hk : Srt lt k 0 n) (h : ∀ x, In f 0 n x ↔ In k 0 n x) : ∀ i, i < n → f i = k i := by
  intro i
  induction i using Nat.strongRecOn with
  | _ i ih =>
    intro hi
    have no : ∀ (p q : Nat → Int), Srt lt p 0 n → Srt lt q 0 n → (∀ x, In p 0 n x ↔ In q 0 n x) → (∀ j, j < i → j < n → p j = q j) → ¬ lt (p i) (q i) := fun p q hp hq hx hj hlt => by
      obtain ⟨j, _, j2, j3⟩ := (hx (p i)).1 ⟨i, by omega, hi, rfl⟩
      rcases Nat.lt_trichotomy j i with h | h | h
      · have := hj j h j2
        have q1 := hp j i (by omega) h hi
        rw [this, j3] at q1; exact hl.irr _ q1
      · subst h; rw [j3] at hlt; exact hl.irr _ hlt
      · have q1 := hq i j (by omega) h j2
        rw [j3] at q1; exact hl.irr _ (hl.trans q1 hlt)
    rcases hl.tot (f i) (k i) with r | r | r
    · exact absurd r (no f k hf hk h (fun j hj hn => ih j hj hn))
    · exact r
    · exact absurd r (no k f hk hf (fun x => (h x).symm) (fun j hj hn => (ih j hj hn).symm))
end
end Ls
end Go.Proofs.YtjddelmhbafelaaGreatDoor

/-
  Blocks that are sorted, and how they come together; what the reference's insertion does.
-/
namespace Go.Proofs.YtjddelmhbafelaaGreatDoor
namespace Ls
/-- Each number lies in the class of positions where it lay at first, and each class is sorted. -/
structure Blks (lt : Int → Int → Prop) (f0 f : Nat → Int) (n : Nat) (c : Nat → Nat) : Prop where
  from_ : ∀ i, i < n → ∃ j, j < n ∧ c j = c i ∧ f0 j = f i
  to_ : ∀ i, i < n → ∃ j, j < n ∧ c j = c i ∧ f j = f0 i
  srt : ∀ i j, i < j → j < n → c i = c j → lt (f i) (f j)
section
variable {lt : Int → Int → Prop} {f0 f k : Nat → Int} {n : Nat} {c d : Nat → Nat}
theorem Blks.start (f : Nat → Int) (n : Nat) (hc : ∀ i j, i < n → j < n → c i = c j → i = j) : Blks lt f f n c :=
  ⟨fun i hi => ⟨i, hi, rfl, rfl⟩, fun i hi => ⟨i, hi, rfl, rfl⟩, fun i j h1 h2 h3 => by have := hc i j (by omega) h2 h3; omega⟩
/-- A part that is a union of classes becomes one class. -/
theorem Blks.step (h : Blks lt f0 f n c) {a b κ : Nat} (r : Re f k a b) (s : Srt lt k a b) (hb : b ≤ n) (h1 : ∀ i, i < n → a ≤ i → i < b → d i = κ) (h2 : ∀ i, i < n → i < a ∨ b ≤ i → d i = c i ∧ d i ≠ κ)
    (h3 : ∀ i j, i < n → j < n → c i = c j → a ≤ i → i < b → a ≤ j ∧ j < b) : Blks lt f0 k n d := by
  refine ⟨fun i hi => ?_, fun i hi => ?_, fun i j hij hj hd => ?_⟩
  · by_cases hi' : a ≤ i ∧ i < b
    · obtain ⟨j, j1, j2, j3⟩ := r.at_ hi'.1 hi'.2
      obtain ⟨x, x1, x2, x3⟩ := h.from_ j (by omega)
      obtain ⟨y1, y2⟩ := h3 j x (by omega) x1 x2.symm j1 j2
      exact ⟨x, x1, by rw [h1 x x1 y1 y2, h1 i hi hi'.1 hi'.2], x3.trans j3⟩
    · obtain ⟨x, x1, x2, x3⟩ := h.from_ i hi
      have hx : x < a ∨ b ≤ x := by
        rcases Nat.lt_or_ge x a with q | q
        · exact .inl q
        · rcases Nat.lt_or_ge x b with q' | q'
          · exact absurd (h3 x i x1 hi x2 q q') hi'
          · exact .inr q'
      exact ⟨x, x1, by rw [(h2 x x1 hx).1, (h2 i hi (by omega)).1]; exact x2, by rw [x3, r.out i (by omega)]⟩
  · by_cases hi' : a ≤ i ∧ i < b
    · obtain ⟨x, x1, x2, x3⟩ := h.to_ i hi
      obtain ⟨y1, y2⟩ := h3 i x hi x1 x2.symm hi'.1 hi'.2
      obtain ⟨j, j1, j2, j3⟩ := (r.same (f x)).2 ⟨x, y1, y2, rfl⟩
      exact ⟨j, by omega, by rw [h1 j (by omega) j1 j2, h1 i hi hi'.1 hi'.2], j3.trans x3⟩
    · obtain ⟨x, x1, x2, x3⟩ := h.to_ i hi
      have hx : x < a ∨ b ≤ x := by
        rcases Nat.lt_or_ge x a with q | q
        · exact .inl q
        · rcases Nat.lt_or_ge x b with q' | q'
          · exact absurd (h3 x i x1 hi x2 q q') hi'
          · exact .inr q'
      exact ⟨x, x1, by rw [(h2 x x1 hx).1, (h2 i hi (by omega)).1]; exact x2, by rw [r.out x hx, x3]⟩
  · by_cases hi' : a ≤ i ∧ i < b
    · by_cases hj' : a ≤ j ∧ j < b
      · exact s i j hi'.1 hij hj'.2
      · rw [h1 i (by omega) hi'.1 hi'.2] at hd
        exact absurd hd.symm (h2 j hj (by omega)).2
    · by_cases hj' : a ≤ j ∧ j < b
      · rw [h1 j hj hj'.1 hj'.2] at hd
        exact absurd hd (h2 i (by omega) (by omega)).2
      · rw [r.out i (by omega), r.out j (by omega)]
        rw [(h2 i (by omega) (by omega)).1, (h2 j hj (by omega)).1] at hd
        exact h.srt i j hij hj hd
theorem Blks.congr (h : Blks lt f0 f n c) (hc : ∀ i, i < n → d i = c i) : Blks lt f0 f n d :=
  ⟨fun i hi => by obtain ⟨j, j1, j2, j3⟩ := h.from_ i hi; exact ⟨j, j1, by rw [hc j j1, hc i hi]; exact j2, j3⟩,
   fun i hi => by obtain ⟨j, j1, j2, j3⟩ := h.to_ i hi; exact ⟨j, j1, by rw [hc j j1, hc i hi]; exact j2, j3⟩,
   fun i j h1 h2 h3 => h.srt i j h1 h2 (by rw [← hc i (by omega), ← hc j h2]; exact h3)⟩
theorem Blks.part (h : Blks lt f0 f n c) {a b κ : Nat} (hb : b ≤ n) (hc : ∀ i, a ≤ i → i < b → c i = κ) : Srt lt f a b := fun i j h1 h2 h3 => h.srt i j h2 (by omega) (by rw [hc i h1 (by omega), hc j (by omega) h3])
/-- Numbers that increased at first increase from class to class. -/
theorem Blks.cross (h : Blks lt f0 f n c) (h0 : Srt (· < ·) f0 0 n) (hm : ∀ i j, i < n → j < n → c i < c j → i < j) {a m b x y : Nat} (hb : b ≤ n) (h1 : ∀ i, a ≤ i → i < m → c i = x) (h2 : ∀ i, m ≤ i → i < b → c i = y) (hxy : x < y) : Cross f a m b := by
  intro i j i1 i2 j1 j2
  obtain ⟨p, p1, p2, p3⟩ := h.from_ i (by omega)
  obtain ⟨q, q1, q2, q3⟩ := h.from_ j (by omega)
  rw [← p3, ← q3]
  exact h0 p q (Nat.zero_le _) (hm p q p1 q1 (by rw [p2, q2, h1 i i1 i2, h2 j j1 j2]; exact hxy)) q1
theorem Blks.same (h : Blks lt f0 f n c) : ∀ x, In f 0 n x ↔ In f0 0 n x := fun x => by
  constructor
  · rintro ⟨i, _, h2, h3⟩
    obtain ⟨j, j1, _, j3⟩ := h.from_ i h2
    exact ⟨j, Nat.zero_le _, j1, j3.trans h3⟩
  · rintro ⟨i, _, h2, h3⟩
    obtain ⟨j, j1, _, j3⟩ := h.to_ i h2
    exact ⟨j, Nat.zero_le _, j1, j3.trans h3⟩
end
/-- The start of a position's block. -/
def cls (bs a x : Nat) (i : Nat) : Nat := if i < a then i / (2 * bs) * (2 * bs) else x
/-- Earlier or equal in the history. -/
def mlt (M : Int → Int) (x y : Int) : Prop := M x < M y ∨ M x = M y ∧ x < y
theorem mlt_lin (M : Int → Int) : Lin (mlt M) := ⟨fun x h => by unfold mlt at h; omega, fun {x y z} h k => by unfold mlt at *; omega, fun x y => by unfold mlt; omega⟩
theorem mlt_back {M : Int → Int} {x y : Int} (h : y < x) : mlt M x y ↔ M x < M y := by unfold mlt; omega
theorem mlt_fore {M : Int → Int} {x y : Int} (h : y < x) : mlt M y x ↔ ¬ M x < M y := by unfold mlt; omega
/-- Two lists that are sorted and have the same numbers are one. -/
theorem pair_one {lt : Int → Int → Prop} (hl : Lin lt) : ∀ (a b : List Int), a.Pairwise lt → b.Pairwise lt → (∀ x, x ∈ a ↔ x ∈ b) → a = b
  | [], [], _, _, _ => rfl
  | [], y :: b, _, _, h => by have := (h y).2 (by simp); simp at this
  | x :: a, [], _, _, h => by have := (h x).1 (by simp); simp at this
  | x :: a, y :: b, h1, h2, h => by
    rw [List.pairwise_cons] at h1 h2
    have e : x = y := by
      have p := (h x).1 (by simp)
      have q := (h y).2 (by simp)
      rcases List.mem_cons.1 p with r | r
      · exact r
      · rcases List.mem_cons.1 q with s | s
        · exact s.symm
        · exact absurd (hl.trans (h2.1 x r) (h1.1 y s)) (hl.irr _)
    subst e
    have nx : x ∉ a := fun hh => hl.irr _ (h1.1 x hh)
    have ny : x ∉ b := fun hh => hl.irr _ (h2.1 x hh)
    rw [pair_one hl a b h1.2 h2.2 (fun z => ?_)]
    have := h z
    constructor
    · intro hz
      rcases List.mem_cons.1 (this.1 (by simp [hz])) with r | r
      · subst r; exact absurd hz nx
      · exact r
    · intro hz
      rcases List.mem_cons.1 (this.2 (by simp [hz])) with r | r
      · subst r; exact absurd hz ny
      · exact r
theorem pair_of_srt {lt : Int → Int → Prop} {f : Nat → Int} {n : Nat} (h : Srt lt f 0 n) : ((List.range n).map f).Pairwise lt := by
  rw [List.pairwise_iff_getElem]
  intro i j hi hj hij
  simp only [List.length_map, List.length_range] at hi hj
  simpa using h i j (Nat.zero_le _) hij hj
theorem mem_of_in {f : Nat → Int} {n : Nat} (x : Int) : x ∈ (List.range n).map f ↔ In f 0 n x := by
  simp [In]
/-- The indices of what was made, among the first n. -/
def idx (M : Int → Int) (n : Nat) : List Int := ((List.range n).filter (fun i : Nat => decide (M (i : Int) ≠ -1))).map (fun i : Nat => (i : Int))
theorem idx_succ (M : Int → Int) (n : Nat) : idx M (n + 1) = if M (n : Int) ≠ -1 then idx M n ++ [(n : Int)] else idx M n := by
  unfold idx
  rw [List.range_succ, List.filter_append, List.map_append]
  by_cases h : M (n : Int) ≠ -1
  · rw [if_pos h]; simp [h]
  · rw [if_neg h]; simp [h]
theorem idx_mem (M : Int → Int) (n : Nat) (x : Int) : x ∈ idx M n ↔ ∃ i : Nat, i < n ∧ M (i : Int) ≠ -1 ∧ x = (i : Int) := by
  unfold idx
  simp only [List.mem_map, List.mem_filter, List.mem_range, decide_eq_true_eq]
  constructor
  · rintro ⟨i, ⟨h1, h2⟩, rfl⟩; exact ⟨i, h1, h2, rfl⟩
  · rintro ⟨i, h1, h2, rfl⟩; exact ⟨i, ⟨h1, h2⟩, rfl⟩
theorem idx_pair (M : Int → Int) (n : Nat) : (idx M n).Pairwise (· < ·) := by
  unfold idx
  rw [List.pairwise_map]
  refine List.Pairwise.filter _ ?_
  rw [List.pairwise_iff_getElem]
  intro i j hi hj hij
  simp at *; omega
theorem idx_len (M : Int → Int) (n : Nat) : (idx M n).length ≤ n := by
  unfold idx
  rw [List.length_map]
  exact Nat.le_trans (List.length_filter_le _ _) (by simp)
/-- The reference's list: its numbers, and that it is sorted. -/
structure RefL (M : Int → Int) (n : Nat) (out : List Int) : Prop where
  srt : out.Pairwise (mlt M)
  mem : ∀ x, x ∈ out ↔ x ∈ idx M n
theorem RefL.nil_ (M : Int → Int) : RefL M 0 [] := ⟨List.Pairwise.nil, fun x => by simp [idx]⟩
theorem RefL.skip {M : Int → Int} {n : Nat} {out : List Int} (h : RefL M n out) (hn : M (n : Int) = -1) : RefL M (n + 1) out := ⟨h.srt, fun x => by rw [h.mem, idx_succ, if_neg (by simp [hn])]⟩
theorem RefL.put {M : Int → Int} {n k : Nat} {out : List Int} (h : RefL M n out) (hn : M (n : Int) ≠ -1) (hk : k ≤ out.length) (lo : ∀ j x, j < k → out[j]? = some x → M x ≤ M (n : Int)) (hi : k = out.length ∨ ∃ x, out[k]? = some x ∧ ¬ M x ≤ M (n : Int)) :
    RefL M (n + 1) (out.take k ++ [(n : Int)] ++ out.drop k) := by
  have less : ∀ x, x ∈ out → x < (n : Int) := fun x hx => by
    obtain ⟨i, h1, _, rfl⟩ := (idx_mem M n x).1 ((h.mem x).1 hx)
    omega
  have hs := h.srt
  rw [← List.take_append_drop k out, List.pairwise_append] at hs
  have low : ∀ x, x ∈ out.take k → mlt M x (n : Int) := fun x hx => by
    obtain ⟨j, hj⟩ := List.getElem?_of_mem hx
    rw [List.getElem?_take] at hj
    split at hj
    · rename_i hlt
      have := lo j x hlt hj
      have := less x (List.mem_of_getElem? hj)
      unfold mlt; omega
    · simp at hj
  have high : ∀ x, x ∈ out.drop k → mlt M (n : Int) x := fun x hx => by
    obtain ⟨j, hj⟩ := List.getElem?_of_mem hx
    rw [List.getElem?_drop] at hj
    rcases hi with rfl | ⟨y, y1, y2⟩
    · rw [List.getElem?_eq_none (by omega)] at hj; simp at hj
    · have hy : mlt M (n : Int) y := by unfold mlt; omega
      cases j with
      | zero => rw [Nat.add_zero, y1] at hj; cases hj; exact hy
      | succ j =>
        have hp := h.srt
        rw [List.pairwise_iff_getElem] at hp
        have e1 := (List.getElem?_eq_some_iff.1 y1)
        have e2 := (List.getElem?_eq_some_iff.1 hj)
        obtain ⟨l1, rfl⟩ := e1
        obtain ⟨l2, rfl⟩ := e2
        exact (mlt_lin M).trans hy (hp k (k + (j + 1)) l1 l2 (by omega))
  refine ⟨?_, fun x => ?_⟩
  · rw [List.append_assoc, List.pairwise_append]
    refine ⟨hs.1, ?_, fun x hx y hy => ?_⟩
    · rw [List.singleton_append, List.pairwise_cons]
      exact ⟨high, hs.2.1⟩
    · rw [List.singleton_append, List.mem_cons] at hy
      rcases hy with rfl | hy
      · exact low x hx
      · exact hs.2.2 x hx y hy
  · rw [idx_succ, if_pos hn]
    have hm := h.mem x
    rw [← List.take_append_drop k out] at hm
    simp only [List.mem_append, List.mem_singleton] at hm ⊢
    rw [← hm]
    constructor
    · rintro ((h | h) | h)
      · exact .inl (.inl h)
      · exact .inr h
      · exact .inl (.inr h)
    · rintro ((h | h) | h)
      · exact .inl (.inl h)
      · exact .inr h
      · exact .inl (.inr h)
theorem RefL.len {M : Int → Int} {n : Nat} {out : List Int} (h : RefL M n out) : out.length = (idx M n).length := by
  -- both have the same numbers, each once
  have hp := h.srt
  have nod : out.Nodup := hp.imp (fun {a b} hab e => by subst e; exact (mlt_lin M).irr _ hab)
  have nod2 : (idx M n).Nodup := (idx_pair M n).imp (fun {a b} (hab : a < b) e => by omega)
  exact ((List.perm_ext_iff_of_nodup nod nod2).2 h.mem).length_eq
/-- Both orders are one list. -/
theorem order_one {M : Int → Int} {n m : Nat} {out : List Int} {f : Nat → Int} (h : RefL M n out) (hm : m = (idx M n).length) (hs : Srt (mlt M) f 0 m) (hx : ∀ x, In f 0 m x ↔ x ∈ idx M n) : (List.range m).map f = out :=
  pair_one (mlt_lin M) _ _ (pair_of_srt hs) h.srt (fun x => by rw [mem_of_in, hx, h.mem])
end Ls
end Go.Proofs.YtjddelmhbafelaaGreatDoor

/-
  The rules for the single operations, for the walk of XM.
-/
namespace Go.Proofs.YtjddelmhbafelaaGreatDoor
open Go.RowKit

section
variable {P : Program} {ops : List Oper} {Fs : List VT} {w0 : World} {a0 : Act} {i : Nat} {o : Oper}

/-- The operand x has the property G whenever operation i comes up. -/
def Has (ops : List Oper) (Fs : List VT) (w0 : World) (a0 : Act) (i : Nat) (o : Oper) (x : Operand) (G : VT) : Prop := ∀ a w, Cx ops Fs w0 a0 i o a w → G w (a.eval x)
/-- Its guard, if it has one, lets it run. -/
def Wanted (ops : List Oper) (Fs : List VT) (w0 : World) (a0 : Act) (i : Nat) (o : Oper) : Prop := ∀ a w, Cx ops Fs w0 a0 i o a w → Region.wanted o (yielded ops.toArray a.tmps) = true

theorem Has.cst (v : Value) : Has ops Fs w0 a0 i o (.const v) (Is v) := fun _ _ _ => rfl
theorem Has.old {t : Tmp} {G : VT} (v : Value) (hn : (dstsOf ops).contains (some t) = false) (hv : a0.tmps.getD t undef = v) (hG : ∀ w, Below w0.heap.size w0 w → G w v) : Has ops Fs w0 a0 i o (.tmp t) G := fun a w cx => by
  have : a.eval (.tmp t) = v := (cx.old t (by simpa using hn)).trans hv
  rw [this]; exact hG w cx.le
theorem slot_of {a : Act} {t : Tmp} {v : Value} (h : a.tmps.toList[t]? = some v) : a.tmps.getD t undef = v := by rw [Array.getD_eq_getD_getElem?, ← Array.getElem?_toList, h]; rfl
theorem Has.oldIs {t : Tmp} {v : Value} (hn : (dstsOf ops).contains (some t) = false := by kernel_rfl) (hv : a0.tmps.toList[t]? = some v := by exact rfl) : Has ops Fs w0 a0 i o (.tmp t) (Is v) := Has.old v hn (slot_of hv) fun _ _ => rfl
theorem Has.late {t : Tmp} {v : Value} (j : Nat) {oj : Oper} (ho : ops[j]? = some oj := by exact rfl) (he : hasEdge oj i = true := by exact rfl) (hd : oj.dst = some t := by exact rfl) (hv : a0.tmps.toList[t]? = some v := by exact rfl) : Has ops Fs w0 a0 i o (.tmp t) (Is v) := fun _ _ cx => (cx.late j oj t ho he hd).trans (slot_of hv)
/-- The slot that operation j writes. -/
def dstAt (ops : List Oper) (j : Nat) : Option Tmp := (ops[j]?).bind (·.dst)
theorem back {RF : List VT} {j k : Nat} {G : VT} (hl : RF.length = j + k + 1) (hF : RF[k]? = some G) : RF.reverse[j]? = some G := by
  rw [List.getElem?_reverse (by omega), ← hF]; congr 1; omega
theorem dstAt_some {j : Nat} {t : Tmp} (h : dstAt ops j = some t) : ∃ oj, ops[j]? = some oj ∧ oj.dst = some t := by
  unfold dstAt at h
  cases ho : ops[j]? with
  | none => rw [ho] at h; cases h
  | some oj => rw [ho] at h; exact ⟨oj, rfl, h⟩
theorem Has.new {t : Tmp} {G : VT} {RF : List VT} (j k : Nat) (hF : RF[k]? = some G := by exact rfl) (hl : RF.length = j + k + 1 := by kernel_rfl) (hd : dstAt ops j = some t := by kernel_rfl) (he : hasEdge o j = true := by kernel_rfl) : Has ops RF.reverse w0 a0 i o (.tmp t) G := fun _ _ cx => by
  obtain ⟨oj, h1, h2⟩ := dstAt_some hd
  exact cx.new j oj t G he h1 h2 (back hl hF)
theorem Has.weak {x : Operand} {G H : VT} (h : Has ops Fs w0 a0 i o x G) (k : ∀ w v, G w v → H w v) : Has ops Fs w0 a0 i o x H := fun a w cx => k _ _ (h a w cx)

theorem Wanted.free (h : o.guard = none := by exact rfl) : Wanted ops Fs w0 a0 i o := fun _ _ _ => by simp [Region.wanted, h]
theorem wanted_of {j : Nat} {want b : Bool} {oj : Oper} {t : Tmp} {a : Act} {w : World} (hg : o.guard = some (j, want)) (ho : ops[j]? = some oj) (hd : oj.dst = some t) (hv : IsB b w (a.tmps.getD t undef)) : Region.wanted o (yielded ops.toArray a.tmps) = (b == want) := by
  have e : a.tmps[t]? = some (.bool b) := by
    have hv : a.tmps.getD t undef = .bool b := hv
    rw [Array.getD_eq_getD_getElem?] at hv
    cases h : a.tmps[t]? with
    | none => rw [h] at hv; simp at hv; cases hv
    | some u => rw [h] at hv; simp at hv; rw [hv]
  simp [Region.wanted, hg, yielded, ho, hd, e]
theorem Wanted.on {RF : List VT} (j k : Nat) {want : Bool} (hg : o.guard = some (j, want) := by exact rfl) (hF : RF[k]? = some (IsB want) := by exact rfl) (hl : RF.length = j + k + 1 := by kernel_rfl) (hd : (dstAt ops j).isSome = true := by kernel_rfl) (he : hasEdge o j = true := by kernel_rfl) : Wanted ops RF.reverse w0 a0 i o := fun a w cx => by
  obtain ⟨t, hd⟩ := Option.isSome_iff_exists.1 hd
  obtain ⟨oj, h1, h2⟩ := dstAt_some hd
  rw [wanted_of hg h1 h2 (cx.new j oj t _ he h1 h2 (back hl hF))]; simp

/-- The guard shuts it out: nothing is laid. -/
theorem Ob.off {RF : List VT} (j k : Nat) {want b : Bool} (hg : o.guard = some (j, want) := by exact rfl) (hF : RF[k]? = some (IsB b) := by exact rfl) (hl : RF.length = j + k + 1 := by kernel_rfl) (hd : (dstAt ops j).isSome = true := by kernel_rfl) (he : hasEdge o j = true := by kernel_rfl) (hne : (b == want) = false := by exact rfl) : Ob P ops RF.reverse w0 a0 i o (Is undef) := fun a w cx => by
  obtain ⟨t, hd⟩ := Option.isSome_iff_exists.1 hd
  obtain ⟨oj, h1, h2⟩ := dstAt_some hd
  rw [wanted_of hg h1 h2 (cx.new j oj t _ he h1 h2 (back hl hF)), hne]; exact rfl

/-- The guard's own operation was shut out. -/
theorem Ob.offU {RF : List VT} (j k : Nat) {want : Bool} (hg : o.guard = some (j, want) := by exact rfl) (hF : RF[k]? = some (Is undef) := by exact rfl) (hl : RF.length = j + k + 1 := by kernel_rfl) (hd : (dstAt ops j).isSome = true := by kernel_rfl) (he : hasEdge o j = true := by kernel_rfl) : Ob P ops RF.reverse w0 a0 i o (Is undef) := fun a w cx => by
  obtain ⟨t, hd⟩ := Option.isSome_iff_exists.1 hd
  obtain ⟨oj, ho, h2⟩ := dstAt_some hd
  have hv : a.tmps.getD t undef = undef := cx.new j oj t _ he ho h2 (back hl hF)
  have : Region.wanted o (yielded ops.toArray a.tmps) = false := by
    cases h : a.tmps[t]? with
    | none => simp [Region.wanted, hg, yielded, ho, h2, h]
    | some u =>
      rw [Array.getD_eq_getD_getElem?, h] at hv
      simp at hv
      subst hv
      simp [Region.wanted, hg, yielded, ho, h2, h, undef]
  rw [this]; exact rfl
theorem Ob.any {F : VT} (hw : Wanted ops Fs w0 a0 i o) (h : ∀ a w, Cx ops Fs w0 a0 i o a w → ∃ r w', (execOp a.eval o).run P w = .ok (.value r) w' ∧ Below w.heap.size w w' ∧ F w' r) : Ob P ops Fs w0 a0 i o F := fun a w cx => by
  rw [if_pos (hw a w cx)]
  obtain ⟨r, w', hr, hb, hF⟩ := h a w cx
  unfold Oper.wp
  rw [hr]
  exact ⟨r, rfl, hb, hF⟩
theorem Ob.stay {F : VT} (hw : Wanted ops Fs w0 a0 i o) (h : ∀ a w, Cx ops Fs w0 a0 i o a w → ∃ r, (execOp a.eval o).run P w = .ok (.value r) w ∧ F w r) : Ob P ops Fs w0 a0 i o F :=
  Ob.any hw fun a w cx => let ⟨r, h1, h2⟩ := h a w cx; ⟨r, w, h1, Below.refl _ _, h2⟩

variable {d : Option Tmp} {ty : TypeId} {pos : String} {after : Array Edge} {g : Option (Nat × Bool)}
theorem Ob.move {x : Operand} {F : VT} (hw : Wanted ops Fs w0 a0 i ⟨d, .move x, ty, pos, after, g⟩) (hx : Has ops Fs w0 a0 i ⟨d, .move x, ty, pos, after, g⟩ x F) : Ob P ops Fs w0 a0 i ⟨d, .move x, ty, pos, after, g⟩ F :=
  Ob.stay hw fun a w cx => ⟨_, by simp [execOp], hx a w cx⟩
theorem Ob.assign {x : Operand} {F : VT} (hw : Wanted ops Fs w0 a0 i ⟨d, .assign x, ty, pos, after, g⟩) (hx : Has ops Fs w0 a0 i ⟨d, .assign x, ty, pos, after, g⟩ x F) : Ob P ops Fs w0 a0 i ⟨d, .assign x, ty, pos, after, g⟩ F :=
  Ob.stay hw fun a w cx => ⟨_, by simp [execOp], hx a w cx⟩
theorem run_pick (ρ : Operand → Value) {c x y : Operand} {b : Bool} (h : ρ c = .bool b) (w : World) : (execOp ρ ⟨d, .pick c x y, ty, pos, after, g⟩).run P w = .ok (.value (if b then ρ x else ρ y)) w := by simp [execOp, asBool, h]
theorem run_not (ρ : Operand → Value) {x : Operand} {t : TypeId} {b : Bool} (h : ρ x = .bool b) (w : World) : (execOp ρ ⟨d, .unOp .not t x, ty, pos, after, g⟩).run P w = .ok (.value (.bool (!b))) w := by simp [execOp, h, go_sem]
theorem Ob.pickT {c x y : Operand} {F : VT} (hw : Wanted ops Fs w0 a0 i ⟨d, .pick c x y, ty, pos, after, g⟩) (hc : Has ops Fs w0 a0 i ⟨d, .pick c x y, ty, pos, after, g⟩ c (IsB true)) (hx : Has ops Fs w0 a0 i ⟨d, .pick c x y, ty, pos, after, g⟩ x F) : Ob P ops Fs w0 a0 i ⟨d, .pick c x y, ty, pos, after, g⟩ F :=
  Ob.stay hw fun a w cx => ⟨a.eval x, by rw [run_pick a.eval (hc a w cx)]; rfl, hx a w cx⟩
theorem Ob.pickF {c x y : Operand} {F : VT} (hw : Wanted ops Fs w0 a0 i ⟨d, .pick c x y, ty, pos, after, g⟩) (hc : Has ops Fs w0 a0 i ⟨d, .pick c x y, ty, pos, after, g⟩ c (IsB false)) (hy : Has ops Fs w0 a0 i ⟨d, .pick c x y, ty, pos, after, g⟩ y F) : Ob P ops Fs w0 a0 i ⟨d, .pick c x y, ty, pos, after, g⟩ F :=
  Ob.stay hw fun a w cx => ⟨a.eval y, by rw [run_pick a.eval (hc a w cx)]; rfl, hy a w cx⟩
theorem Ob.not {x : Operand} {b : Bool} {t : TypeId} (hw : Wanted ops Fs w0 a0 i ⟨d, .unOp .not t x, ty, pos, after, g⟩) (hx : Has ops Fs w0 a0 i ⟨d, .unOp .not t x, ty, pos, after, g⟩ x (IsB b)) : Ob P ops Fs w0 a0 i ⟨d, .unOp .not t x, ty, pos, after, g⟩ (IsB (!b)) :=
  Ob.stay hw fun a w cx => ⟨_, run_not a.eval (hx a w cx) w, rfl⟩
theorem Ob.load {x : Operand} {G F : VT} {t : TypeId} (hw : Wanted ops Fs w0 a0 i ⟨d, .load t x, ty, pos, after, g⟩) (hx : Has ops Fs w0 a0 i ⟨d, .load t x, ty, pos, after, g⟩ x G)
    (h : ∀ w v, Below w0.heap.size w0 w → G w v → ∃ r, (Instr.loadAt t v).run P w = .ok r w ∧ F w r) : Ob P ops Fs w0 a0 i ⟨d, .load t x, ty, pos, after, g⟩ F :=
  Ob.stay hw fun a w cx => by
    obtain ⟨r, h1, h2⟩ := h w _ cx.le (hx a w cx)
    exact ⟨r, by simp [execOp, h1], h2⟩
theorem Ob.fieldAddr {x : Operand} {G F : VT} {t : TypeId} {f : Nat} (hw : Wanted ops Fs w0 a0 i ⟨d, .fieldAddr t x f, ty, pos, after, g⟩) (hx : Has ops Fs w0 a0 i ⟨d, .fieldAddr t x f, ty, pos, after, g⟩ x G)
    (h : ∀ w v, Below w0.heap.size w0 w → G w v → ∃ r, (Instr.fieldAt t v f).run P w = .ok r w ∧ F w r) : Ob P ops Fs w0 a0 i ⟨d, .fieldAddr t x f, ty, pos, after, g⟩ F :=
  Ob.stay hw fun a w cx => by
    obtain ⟨r, h1, h2⟩ := h w _ cx.le (hx a w cx)
    exact ⟨r, by simp [execOp, h1], h2⟩
theorem Ob.extract {x : Operand} {G F : VT} {n : Nat} (hw : Wanted ops Fs w0 a0 i ⟨d, .extract x n, ty, pos, after, g⟩) (hx : Has ops Fs w0 a0 i ⟨d, .extract x n, ty, pos, after, g⟩ x G)
    (h : ∀ w v, Below w0.heap.size w0 w → G w v → ∃ r, (Instr.extract v n).run P w = .ok r w ∧ F w r) : Ob P ops Fs w0 a0 i ⟨d, .extract x n, ty, pos, after, g⟩ F :=
  Ob.stay hw fun a w cx => by
    obtain ⟨r, h1, h2⟩ := h w _ cx.le (hx a w cx)
    exact ⟨r, by simp [execOp, h1], h2⟩
theorem Ob.indexAddr {x y : Operand} {G H F : VT} {t : TypeId} (hw : Wanted ops Fs w0 a0 i ⟨d, .indexAddr t x y, ty, pos, after, g⟩) (hx : Has ops Fs w0 a0 i ⟨d, .indexAddr t x y, ty, pos, after, g⟩ x G) (hy : Has ops Fs w0 a0 i ⟨d, .indexAddr t x y, ty, pos, after, g⟩ y H)
    (h : ∀ w u v, Below w0.heap.size w0 w → G w u → H w v → ∃ r, (Instr.indexAt t u v).run P w = .ok r w ∧ F w r) : Ob P ops Fs w0 a0 i ⟨d, .indexAddr t x y, ty, pos, after, g⟩ F :=
  Ob.stay hw fun a w cx => by
    obtain ⟨r, h1, h2⟩ := h w _ _ cx.le (hx a w cx) (hy a w cx)
    exact ⟨r, by simp [execOp, h1], h2⟩
theorem Ob.bin {x y : Operand} {G H F : VT} {b : BinOp} {t t' : TypeId} (hw : Wanted ops Fs w0 a0 i ⟨d, .binOp b t x y t', ty, pos, after, g⟩) (hx : Has ops Fs w0 a0 i ⟨d, .binOp b t x y t', ty, pos, after, g⟩ x G) (hy : Has ops Fs w0 a0 i ⟨d, .binOp b t x y t', ty, pos, after, g⟩ y H)
    (h : ∀ w u v, Below w0.heap.size w0 w → G w u → H w v → ∃ r, (eqGuard b t x y u v).run P w = .ok () w ∧ (binOp b t u v).run P w = .ok r w ∧ F w r) : Ob P ops Fs w0 a0 i ⟨d, .binOp b t x y t', ty, pos, after, g⟩ F :=
  Ob.stay hw fun a w cx => by
    obtain ⟨r, h0, h1, h2⟩ := h w _ _ cx.le (hx a w cx) (hy a w cx)
    exact ⟨r, by simp [execOp, h0, h1], h2⟩
theorem Ob.buildSlice {F : VT} {t : TypeId} {n : Nat} {ps : Array (Nat × Operand)} (hw : Wanted ops Fs w0 a0 i ⟨d, .buildSlice t n ps, ty, pos, after, g⟩)
    (h : ∀ a w, Cx ops Fs w0 a0 i ⟨d, .buildSlice t n ps, ty, pos, after, g⟩ a w → ∃ r w', (Instr.buildSlice t n (ps.map fun (i, x) => (i, a.eval x))).run P w = .ok r w' ∧ Below w.heap.size w w' ∧ F w' r) : Ob P ops Fs w0 a0 i ⟨d, .buildSlice t n ps, ty, pos, after, g⟩ F :=
  Ob.any hw fun a w cx => by
    obtain ⟨r, w', h1, h2, h3⟩ := h a w cx
    exact ⟨r, w', by simp [execOp, h1], h2, h3⟩

theorem Ob.loadV {x : Operand} {p r : Value} {t : TypeId} (hw : Wanted ops Fs w0 a0 i ⟨d, .load t x, ty, pos, after, g⟩) (hx : Has ops Fs w0 a0 i ⟨d, .load t x, ty, pos, after, g⟩ x (Is p))
    (h : ∀ w, Below w0.heap.size w0 w → (Instr.loadAt t p).run P w = .ok r w) : Ob P ops Fs w0 a0 i ⟨d, .load t x, ty, pos, after, g⟩ (Is r) :=
  Ob.load hw hx fun w v hb e => ⟨r, by rw [show v = p from e]; exact h w hb, rfl⟩
theorem Ob.fieldV {x : Operand} {p r : Value} {t : TypeId} {f : Nat} (hw : Wanted ops Fs w0 a0 i ⟨d, .fieldAddr t x f, ty, pos, after, g⟩) (hx : Has ops Fs w0 a0 i ⟨d, .fieldAddr t x f, ty, pos, after, g⟩ x (Is p))
    (h : ∀ w, (Instr.fieldAt t p f).run P w = .ok r w) : Ob P ops Fs w0 a0 i ⟨d, .fieldAddr t x f, ty, pos, after, g⟩ (Is r) :=
  Ob.fieldAddr hw hx fun w v _ e => ⟨r, by rw [show v = p from e]; exact h w, rfl⟩
theorem Ob.indexV {x y : Operand} {p q r : Value} {t : TypeId} (hw : Wanted ops Fs w0 a0 i ⟨d, .indexAddr t x y, ty, pos, after, g⟩) (hx : Has ops Fs w0 a0 i ⟨d, .indexAddr t x y, ty, pos, after, g⟩ x (Is p)) (hy : Has ops Fs w0 a0 i ⟨d, .indexAddr t x y, ty, pos, after, g⟩ y (Is q))
    (h : ∀ w, (Instr.indexAt t p q).run P w = .ok r w) : Ob P ops Fs w0 a0 i ⟨d, .indexAddr t x y, ty, pos, after, g⟩ (Is r) :=
  Ob.indexAddr hw hx hy fun w u v _ e e' => ⟨r, by rw [show u = p from e, show v = q from e']; exact h w, rfl⟩
theorem Ob.binV {x y : Operand} {p q r : Value} {b : BinOp} {t t' : TypeId} (hw : Wanted ops Fs w0 a0 i ⟨d, .binOp b t x y t', ty, pos, after, g⟩) (hx : Has ops Fs w0 a0 i ⟨d, .binOp b t x y t', ty, pos, after, g⟩ x (Is p)) (hy : Has ops Fs w0 a0 i ⟨d, .binOp b t x y t', ty, pos, after, g⟩ y (Is q))
    (h : ∀ w, (eqGuard b t x y p q).run P w = .ok () w ∧ (Go.binOp b t p q).run P w = .ok r w) : Ob P ops Fs w0 a0 i ⟨d, .binOp b t x y t', ty, pos, after, g⟩ (Is r) :=
  Ob.bin hw hx hy fun w u v _ e e' => ⟨r, by rw [show u = p from e, show v = q from e']; exact (h w).1, by rw [show u = p from e, show v = q from e']; exact (h w).2, rfl⟩
theorem Ob.lenV {x : Operand} {p r : Value} {t : TypeId} (hw : Wanted ops Fs w0 a0 i ⟨d, .call ⟨.builtin .len, #[x], #[t]⟩, ty, pos, after, g⟩) (hx : Has ops Fs w0 a0 i ⟨d, .call ⟨.builtin .len, #[x], #[t]⟩, ty, pos, after, g⟩ x (Is p))
    (h : ∀ w, (Builtin.len_ #[t] ty #[p]).run P w = .ok r w) : Ob P ops Fs w0 a0 i ⟨d, .call ⟨.builtin .len, #[x], #[t]⟩, ty, pos, after, g⟩ (Is r) :=
  Ob.stay hw fun a w cx => ⟨r, by
    have h1 : a.eval x = p := hx a w cx
    have h2 := h w
    generalize a.eval = ρ at h1
    simp [execOp, resolve, invoke, builtin, h1, h2], rfl⟩
theorem run_call {f : FuncId} {args : Array Operand} {tys : Array TypeId} (he : Enters P f) (a : Act) (w : World) : (execOp a.eval ⟨d, .call ⟨.value (.func f), args, tys⟩, ty, pos, after, g⟩).run P w = .ok (.enter f (args.map a.eval)) w := by
  have := he (args.map a.eval) w
  simp [execOp, resolve, Act.eval, Deferred.ofValue, invoke, this]
theorem Ob.call {f : FuncId} {args : Array Operand} {tys : Array TypeId} {F : VT} (hw : Wanted ops Fs w0 a0 i ⟨d, .call ⟨.value (.func f), args, tys⟩, ty, pos, after, g⟩) (he : Enters P f)
    (h : ∀ a w, Cx ops Fs w0 a0 i ⟨d, .call ⟨.value (.func f), args, tys⟩, ty, pos, after, g⟩ a w → Calls P f (args.map a.eval) w (Ret w F)) : Ob P ops Fs w0 a0 i ⟨d, .call ⟨.value (.func f), args, tys⟩, ty, pos, after, g⟩ F := fun a w cx => by
  rw [if_pos (hw a w cx)]
  unfold Oper.wp
  rw [run_call he a w]
  refine (h a w cx).mono ?_
  rintro e w' ⟨v, rfl, hb, hF⟩
  exact ⟨v, rfl, hb, hF⟩
theorem Ob.call0 {f : FuncId} {tys : Array TypeId} {F : VT} (hw : Wanted ops Fs w0 a0 i ⟨d, .call ⟨.value (.func f), #[], tys⟩, ty, pos, after, g⟩) (he : Enters P f)
    (h : ∀ w, Below w0.heap.size w0 w → Calls P f #[] w (Ret w F)) : Ob P ops Fs w0 a0 i ⟨d, .call ⟨.value (.func f), #[], tys⟩, ty, pos, after, g⟩ F := Ob.call hw he fun a w cx => by rw [List.map_toArray]; exact h w cx.le
theorem Ob.call1 {f : FuncId} {tys : Array TypeId} {x : Operand} {G F : VT} (hw : Wanted ops Fs w0 a0 i ⟨d, .call ⟨.value (.func f), #[x], tys⟩, ty, pos, after, g⟩) (he : Enters P f)
    (hx : Has ops Fs w0 a0 i ⟨d, .call ⟨.value (.func f), #[x], tys⟩, ty, pos, after, g⟩ x G)
    (h : ∀ w v, Below w0.heap.size w0 w → G w v → Calls P f #[v] w (Ret w F)) : Ob P ops Fs w0 a0 i ⟨d, .call ⟨.value (.func f), #[x], tys⟩, ty, pos, after, g⟩ F := Ob.call hw he fun a w cx => by rw [List.map_toArray]; exact h w _ cx.le (hx a w cx)
theorem Ob.call2 {f : FuncId} {tys : Array TypeId} {x y : Operand} {G H F : VT} (hw : Wanted ops Fs w0 a0 i ⟨d, .call ⟨.value (.func f), #[x, y], tys⟩, ty, pos, after, g⟩) (he : Enters P f)
    (hx : Has ops Fs w0 a0 i ⟨d, .call ⟨.value (.func f), #[x, y], tys⟩, ty, pos, after, g⟩ x G) (hy : Has ops Fs w0 a0 i ⟨d, .call ⟨.value (.func f), #[x, y], tys⟩, ty, pos, after, g⟩ y H)
    (h : ∀ w u v, Below w0.heap.size w0 w → G w u → H w v → Calls P f #[u, v] w (Ret w F)) : Ob P ops Fs w0 a0 i ⟨d, .call ⟨.value (.func f), #[x, y], tys⟩, ty, pos, after, g⟩ F := Ob.call hw he fun a w cx => by rw [List.map_toArray]; exact h w _ _ cx.le (hx a w cx) (hy a w cx)
theorem Ob.call3 {f : FuncId} {tys : Array TypeId} {x y z : Operand} {G H K F : VT} (hw : Wanted ops Fs w0 a0 i ⟨d, .call ⟨.value (.func f), #[x, y, z], tys⟩, ty, pos, after, g⟩) (he : Enters P f)
    (hx : Has ops Fs w0 a0 i ⟨d, .call ⟨.value (.func f), #[x, y, z], tys⟩, ty, pos, after, g⟩ x G) (hy : Has ops Fs w0 a0 i ⟨d, .call ⟨.value (.func f), #[x, y, z], tys⟩, ty, pos, after, g⟩ y H) (hz : Has ops Fs w0 a0 i ⟨d, .call ⟨.value (.func f), #[x, y, z], tys⟩, ty, pos, after, g⟩ z K)
    (h : ∀ w u v s, Below w0.heap.size w0 w → G w u → H w v → K w s → Calls P f #[u, v, s] w (Ret w F)) : Ob P ops Fs w0 a0 i ⟨d, .call ⟨.value (.func f), #[x, y, z], tys⟩, ty, pos, after, g⟩ F := Ob.call hw he fun a w cx => by rw [List.map_toArray]; exact h w _ _ _ cx.le (hx a w cx) (hy a w cx) (hz a w cx)
theorem Ob.call4 {f : FuncId} {tys : Array TypeId} {x y z q : Operand} {G H K L F : VT} (hw : Wanted ops Fs w0 a0 i ⟨d, .call ⟨.value (.func f), #[x, y, z, q], tys⟩, ty, pos, after, g⟩) (he : Enters P f)
    (hx : Has ops Fs w0 a0 i ⟨d, .call ⟨.value (.func f), #[x, y, z, q], tys⟩, ty, pos, after, g⟩ x G) (hy : Has ops Fs w0 a0 i ⟨d, .call ⟨.value (.func f), #[x, y, z, q], tys⟩, ty, pos, after, g⟩ y H) (hz : Has ops Fs w0 a0 i ⟨d, .call ⟨.value (.func f), #[x, y, z, q], tys⟩, ty, pos, after, g⟩ z K) (hq : Has ops Fs w0 a0 i ⟨d, .call ⟨.value (.func f), #[x, y, z, q], tys⟩, ty, pos, after, g⟩ q L)
    (h : ∀ w u v s r, Below w0.heap.size w0 w → G w u → H w v → K w s → L w r → Calls P f #[u, v, s, r] w (Ret w F)) : Ob P ops Fs w0 a0 i ⟨d, .call ⟨.value (.func f), #[x, y, z, q], tys⟩, ty, pos, after, g⟩ F := Ob.call hw he fun a w cx => by rw [List.map_toArray]; exact h w _ _ _ _ cx.le (hx a w cx) (hy a w cx) (hz a w cx) (hq a w cx)
theorem Ob.call1V {f : FuncId} {tys : Array TypeId} {x : Operand} {p1 : Value} {F : VT} (hw : Wanted ops Fs w0 a0 i ⟨d, .call ⟨.value (.func f), #[x], tys⟩, ty, pos, after, g⟩) (he : Enters P f) (hx : Has ops Fs w0 a0 i ⟨d, .call ⟨.value (.func f), #[x], tys⟩, ty, pos, after, g⟩ x (Is p1))
    (h : ∀ w, Below w0.heap.size w0 w → Calls P f #[p1] w (Ret w F)) : Ob P ops Fs w0 a0 i ⟨d, .call ⟨.value (.func f), #[x], tys⟩, ty, pos, after, g⟩ F := Ob.call1 hw he hx fun w v0 hb e0 => by unfold Is at *; subst e0; exact h w hb
theorem Ob.call2V {f : FuncId} {tys : Array TypeId} {x y : Operand} {p1 p2 : Value} {F : VT} (hw : Wanted ops Fs w0 a0 i ⟨d, .call ⟨.value (.func f), #[x, y], tys⟩, ty, pos, after, g⟩) (he : Enters P f) (hx : Has ops Fs w0 a0 i ⟨d, .call ⟨.value (.func f), #[x, y], tys⟩, ty, pos, after, g⟩ x (Is p1)) (hy : Has ops Fs w0 a0 i ⟨d, .call ⟨.value (.func f), #[x, y], tys⟩, ty, pos, after, g⟩ y (Is p2))
    (h : ∀ w, Below w0.heap.size w0 w → Calls P f #[p1, p2] w (Ret w F)) : Ob P ops Fs w0 a0 i ⟨d, .call ⟨.value (.func f), #[x, y], tys⟩, ty, pos, after, g⟩ F := Ob.call2 hw he hx hy fun w v0 v1 hb e0 e1 => by unfold Is at *; subst e0; subst e1; exact h w hb
theorem Ob.call3V {f : FuncId} {tys : Array TypeId} {x y z : Operand} {p1 p2 p3 : Value} {F : VT} (hw : Wanted ops Fs w0 a0 i ⟨d, .call ⟨.value (.func f), #[x, y, z], tys⟩, ty, pos, after, g⟩) (he : Enters P f) (hx : Has ops Fs w0 a0 i ⟨d, .call ⟨.value (.func f), #[x, y, z], tys⟩, ty, pos, after, g⟩ x (Is p1)) (hy : Has ops Fs w0 a0 i ⟨d, .call ⟨.value (.func f), #[x, y, z], tys⟩, ty, pos, after, g⟩ y (Is p2)) (hz : Has ops Fs w0 a0 i ⟨d, .call ⟨.value (.func f), #[x, y, z], tys⟩, ty, pos, after, g⟩ z (Is p3))
    (h : ∀ w, Below w0.heap.size w0 w → Calls P f #[p1, p2, p3] w (Ret w F)) : Ob P ops Fs w0 a0 i ⟨d, .call ⟨.value (.func f), #[x, y, z], tys⟩, ty, pos, after, g⟩ F := Ob.call3 hw he hx hy hz fun w v0 v1 v2 hb e0 e1 e2 => by unfold Is at *; subst e0; subst e1; subst e2; exact h w hb
theorem Ob.call4V {f : FuncId} {tys : Array TypeId} {x y z q : Operand} {p1 p2 p3 p4 : Value} {F : VT} (hw : Wanted ops Fs w0 a0 i ⟨d, .call ⟨.value (.func f), #[x, y, z, q], tys⟩, ty, pos, after, g⟩) (he : Enters P f) (hx : Has ops Fs w0 a0 i ⟨d, .call ⟨.value (.func f), #[x, y, z, q], tys⟩, ty, pos, after, g⟩ x (Is p1)) (hy : Has ops Fs w0 a0 i ⟨d, .call ⟨.value (.func f), #[x, y, z, q], tys⟩, ty, pos, after, g⟩ y (Is p2)) (hz : Has ops Fs w0 a0 i ⟨d, .call ⟨.value (.func f), #[x, y, z, q], tys⟩, ty, pos, after, g⟩ z (Is p3)) (hq : Has ops Fs w0 a0 i ⟨d, .call ⟨.value (.func f), #[x, y, z, q], tys⟩, ty, pos, after, g⟩ q (Is p4))
    (h : ∀ w, Below w0.heap.size w0 w → Calls P f #[p1, p2, p3, p4] w (Ret w F)) : Ob P ops Fs w0 a0 i ⟨d, .call ⟨.value (.func f), #[x, y, z, q], tys⟩, ty, pos, after, g⟩ F := Ob.call4 hw he hx hy hz hq fun w v0 v1 v2 v3 hb e0 e1 e2 e3 => by unfold Is at *; subst e0; subst e1; subst e2; subst e3; exact h w hb
end

theorem mixed : Tryz.prog.follows .mixedOrders = true := by kernel_rfl
section
variable {w0 w : World} {b o : Nat}
theorem load_dot {x y : Int} (hb : Below w0.heap.size w0 w) (h1 : w0.cell? ⟨b, o, none⟩ = some (.int .i64 x)) (h2 : w0.cell? ⟨b, o + 1, none⟩ = some (.int .i64 y)) : (Instr.loadAt 143 (.pointer (some ⟨b, o, none⟩))).run Tryz.prog w = .ok (.agg #[.int .i64 x, .int .i64 y]) w := by
  have c1 := cellKeep hb h1
  have c2 := cellKeep hb h2
  simp [go_sem, c1, c2]
theorem load_int {x : Int} (hb : Below w0.heap.size w0 w) (h1 : w0.cell? ⟨b, o, none⟩ = some (.int .i64 x)) : (Instr.loadAt 3 (.pointer (some ⟨b, o, none⟩))).run Tryz.prog w = .ok (.int .i64 x) w := by
  have c1 := cellKeep hb h1
  simp [go_sem, c1]
theorem field_dot0 : (Instr.fieldAt 143 (.pointer (some ⟨b, o, none⟩)) 0).run Tryz.prog w = .ok (.pointer (some ⟨b, o, none⟩)) w := by simp [go_sem]
theorem field_dot1 : (Instr.fieldAt 143 (.pointer (some ⟨b, o, none⟩)) 1).run Tryz.prog w = .ok (.pointer (some ⟨b, o + 1, none⟩)) w := by simp [go_sem]

theorem index_vec {n c k : Nat} (hk : k < n) : (Instr.indexAt 127 (.slice (some ⟨b, o, none⟩) n c) (.int .i64 (k : Int))).run Tryz.prog w = .ok (.pointer (some ⟨b, o + k * 2, none⟩)) w := by
  have h1 : (0 : Int) ≤ (k : Int) := by omega
  have h2 : (k : Int) < (n : Int) := by omega
  simp [go_sem, h1, h2]
theorem index_dots {n c k : Nat} (hk : k < n) : (Instr.indexAt 126 (.slice (some ⟨b, o, none⟩) n c) (.int .i64 (k : Int))).run Tryz.prog w = .ok (.pointer (some ⟨b, o + k * 2, none⟩)) w := by
  have h1 : (0 : Int) ≤ (k : Int) := by omega
  have h2 : (k : Int) < (n : Int) := by omega
  simp [go_sem, h1, h2]
theorem sub_one {x y : Operand} {k : Nat} (hk : k + 1 ≤ 9223372036854775807) : (eqGuard .sub 3 x y (.int .i64 ((k + 1 : Nat) : Int)) (.int .i64 1)).run Tryz.prog w = .ok () w ∧ (Go.binOp .sub 3 (.int .i64 ((k + 1 : Nat) : Int)) (.int .i64 1)).run Tryz.prog w = .ok (.int .i64 (k : Int)) w := by
  have e : IntKind.i64.wrap (k : Int) = k := IntWalk.i64_in _ (by omega)
  constructor
  · simp [go_sem]
  · simp [go_sem, e]
theorem field_con0 : (Instr.fieldAt 129 (.pointer (some ⟨b, o, none⟩)) 0).run Tryz.prog w = .ok (.pointer (some ⟨b, o, none⟩)) w := by simp [go_sem]
theorem field_con1 : (Instr.fieldAt 129 (.pointer (some ⟨b, o, none⟩)) 1).run Tryz.prog w = .ok (.pointer (some ⟨b, o + 1, none⟩)) w := by simp [go_sem]
theorem load_vec {A : Option Addr} {n c : Nat} (hb : Below w0.heap.size w0 w) (h1 : w0.cell? ⟨b, o, none⟩ = some (.slice A n c)) : (Instr.loadAt 127 (.pointer (some ⟨b, o, none⟩))).run Tryz.prog w = .ok (.slice A n c) w := by
  have c1 := cellKeep hb h1
  simp [go_sem, c1]
theorem load_dots {A : Option Addr} {n c : Nat} (hb : Below w0.heap.size w0 w) (h1 : w0.cell? ⟨b, o, none⟩ = some (.slice A n c)) : (Instr.loadAt 126 (.pointer (some ⟨b, o, none⟩))).run Tryz.prog w = .ok (.slice A n c) w := by
  have c1 := cellKeep hb h1
  simp [go_sem, c1]
theorem load_con {A B : Option Addr} {n c m d : Nat} (hb : Below w0.heap.size w0 w) (h1 : w0.cell? ⟨b, o, none⟩ = some (.slice A n c)) (h2 : w0.cell? ⟨b, o + 1, none⟩ = some (.slice B m d)) : (Instr.loadAt 129 (.pointer (some ⟨b, o, none⟩))).run Tryz.prog w = .ok (.agg #[.slice A n c, .slice B m d]) w := by
  have c1 := cellKeep hb h1
  have c2 := cellKeep hb h2
  simp [go_sem, c1, c2]
theorem int_add {x y : Operand} {a c : Int} (r : Int) (h : IntKind.i64.wrap (a + c) = r) : (eqGuard .add 3 x y (.int .i64 a) (.int .i64 c)).run Tryz.prog w = .ok () w ∧ (Go.binOp .add 3 (.int .i64 a) (.int .i64 c)).run Tryz.prog w = .ok (.int .i64 r) w := by subst h; simp [go_sem]
theorem len_dots {A : Option Addr} {n c : Nat} {ty : TypeId} : (Builtin.len_ #[126] ty #[.slice A n c]).run Tryz.prog w = .ok (.int .i64 (n : Int)) w := by simp [go_sem]
theorem len_vec {A : Option Addr} {n c : Nat} {ty : TypeId} : (Builtin.len_ #[127] ty #[.slice A n c]).run Tryz.prog w = .ok (.int .i64 (n : Int)) w := by simp [go_sem]
/-- Tests on integers and bools. -/
theorem int_gtr {x y : Operand} {k : IntKind} {t : TypeId} {a c : Int} (r : Bool) (h : (decide (c < a)) = r) : (eqGuard .gtr t x y (.int k a) (.int k c)).run Tryz.prog w = .ok () w ∧ (Go.binOp .gtr t (.int k a) (.int k c)).run Tryz.prog w = .ok (.bool r) w := by subst h; simp [go_sem]
theorem int_geq {x y : Operand} {k : IntKind} {t : TypeId} {a c : Int} (r : Bool) (h : (decide (c ≤ a)) = r) : (eqGuard .geq t x y (.int k a) (.int k c)).run Tryz.prog w = .ok () w ∧ (Go.binOp .geq t (.int k a) (.int k c)).run Tryz.prog w = .ok (.bool r) w := by subst h; simp [go_sem]
theorem int_lss {x y : Operand} {k : IntKind} {t : TypeId} {a c : Int} (r : Bool) (h : (decide (a < c)) = r) : (eqGuard .lss t x y (.int k a) (.int k c)).run Tryz.prog w = .ok () w ∧ (Go.binOp .lss t (.int k a) (.int k c)).run Tryz.prog w = .ok (.bool r) w := by subst h; simp [go_sem]
theorem int_leq {x y : Operand} {k : IntKind} {t : TypeId} {a c : Int} (r : Bool) (h : (decide (a ≤ c)) = r) : (eqGuard .leq t x y (.int k a) (.int k c)).run Tryz.prog w = .ok () w ∧ (Go.binOp .leq t (.int k a) (.int k c)).run Tryz.prog w = .ok (.bool r) w := by subst h; simp [go_sem]
theorem int_eql {x y : Operand} {k : IntKind} {t : TypeId} {a c : Int} (r : Bool) (h : (a == c) = r) : (eqGuard .eql t x y (.int k a) (.int k c)).run Tryz.prog w = .ok () w ∧ (Go.binOp .eql t (.int k a) (.int k c)).run Tryz.prog w = .ok (.bool r) w := by subst h; simp [go_sem]
theorem int_neq {x y : Operand} {k : IntKind} {t : TypeId} {a c : Int} (r : Bool) (h : (a != c) = r) : (eqGuard .neq t x y (.int k a) (.int k c)).run Tryz.prog w = .ok () w ∧ (Go.binOp .neq t (.int k a) (.int k c)).run Tryz.prog w = .ok (.bool r) w := by subst h; simp [go_sem]
theorem bool_neq {x y : Operand} {a c : Bool} (r : Bool) (h : (a != c) = r) : (eqGuard .neq 4 x y (.bool a) (.bool c)).run Tryz.prog w = .ok () w ∧ (Go.binOp .neq 4 (.bool a) (.bool c)).run Tryz.prog w = .ok (.bool r) w := by subst h; cases a <;> cases c <;> simp [go_sem]
theorem bool_eql {x y : Operand} {a c : Bool} (r : Bool) (h : (a == c) = r) : (eqGuard .eql 4 x y (.bool a) (.bool c)).run Tryz.prog w = .ok () w ∧ (Go.binOp .eql 4 (.bool a) (.bool c)).run Tryz.prog w = .ok (.bool r) w := by subst h; simp [go_sem]
end
end Go.Proofs.YtjddelmhbafelaaGreatDoor

/-
  Rows of dots of the call's own: an append, a clone.
-/
namespace Go.Proofs.YtjddelmhbafelaaGreatDoor
open Go.RowKit

def dcells (l : List Dot) : List Value := l.flatMap fun d => [.int .i64 d.1, .int .i64 d.2]
theorem dcells_cons (d : Dot) (l : List Dot) : dcells (d :: l) = .int .i64 d.1 :: .int .i64 d.2 :: dcells l := rfl
theorem dcells_append (a b : List Dot) : dcells (a ++ b) = dcells a ++ dcells b := by unfold dcells; rw [List.flatMap_append]
theorem dcells_length : ∀ l : List Dot, (dcells l).length = l.length * 2
  | [] => rfl
  | d :: l => by rw [dcells_cons]; simp only [List.length_cons, dcells_length l]; omega
theorem dcells_get : ∀ (l : List Dot) (i : Nat) (d : Dot), l[i]? = some d → (dcells l)[i * 2]? = some (.int .i64 d.1) ∧ (dcells l)[i * 2 + 1]? = some (.int .i64 d.2)
  | [], i, d, h => by simp at h
  | a :: l, 0, d, h => by simp at h; subst h; exact ⟨rfl, rfl⟩
  | a :: l, i + 1, d, h => by
    have := dcells_get l i d (by simpa using h)
    rw [dcells_cons, show (i + 1) * 2 = i * 2 + 1 + 1 by omega]
    simpa using this
theorem dcells_at (l : List Dot) (j : Nat) (u : Value) (h : (dcells l)[j]? = some u) : ∃ i d, l[i]? = some d ∧ ((j = i * 2 ∧ u = .int .i64 d.1) ∨ (j = i * 2 + 1 ∧ u = .int .i64 d.2)) := by
  have hl : j < l.length * 2 := by rw [← dcells_length]; exact (List.getElem?_eq_some_iff.1 h).1
  have hi : j / 2 < l.length := by omega
  obtain ⟨h1, h2⟩ := dcells_get l (j / 2) l[j / 2] (List.getElem?_eq_getElem hi)
  refine ⟨j / 2, l[j / 2], List.getElem?_eq_getElem hi, ?_⟩
  rcases Nat.mod_two_eq_zero_or_one j with hm | hm
  · left
    have e : j = j / 2 * 2 := by omega
    rw [← e, h] at h1
    exact ⟨e, by simpa using h1⟩
  · right
    have e : j = j / 2 * 2 + 1 := by omega
    rw [← e, h] at h2
    exact ⟨e, by simpa using h2⟩
theorem dcells_one (l : List Dot) : ∀ u ∈ dcells l, u.oneCell' = true := by
  intro u hu
  obtain ⟨j, hj⟩ := List.getElem?_of_mem hu
  obtain ⟨i, d, _, h | h⟩ := dcells_at l j u hj <;> rw [h.2] <;> rfl
theorem add_lit (b o j : Nat) : (⟨b, o, none⟩ : Addr).add j = ⟨b, o + j, none⟩ := by unfold Addr.add; split <;> simp_all
theorem Dots.cells {w : World} {A : Option Addr} {n c : Nat} {l : List Dot} (h : Dots w A n c l) {a : Addr} (hA : A = some a) (j : Nat) (u : Value) (hu : (dcells l)[j]? = some u) : w.cell? (a.add j) = some u := by
  obtain ⟨i, d, hi, hh⟩ := dcells_at l j u hu
  obtain ⟨b, o, e, _, h1, h2⟩ := h.cell i d hi
  rw [hA] at e; cases e
  rw [add_lit]
  rcases hh with ⟨rfl, rfl⟩ | ⟨rfl, rfl⟩
  · exact h1
  · exact h2

/-- The address of a cut 's[k:]' (at the capacity it stays). -/
def cutA (A : Option Addr) (c k : Nat) : Option Addr := if c = k then A else A.map (·.add (k * 2))
theorem slice_to_dots {w : World} {A : Option Addr} {n c k : Nat} (h : k ≤ c) : (Instr.sliceAt 126 (.slice A n c) none (some (.int .i64 (k : Int))) none).run Tryz.prog w = .ok (.slice A k c) w := by
  have h1 : (0 : Int) ≤ (k : Int) := by omega
  have h2 : (k : Int) ≤ (c : Int) := by omega
  simp [go_sem, h1, h2]
theorem slice_from_dots {w : World} {A : Option Addr} {n c k : Nat} (h : k ≤ n) (hc : n ≤ c) : (Instr.sliceAt 126 (.slice A n c) (some (.int .i64 (k : Int))) none none).run Tryz.prog w = .ok (.slice (cutA A c k) (n - k) (c - k)) w := by
  have h1 : (0 : Int) ≤ (k : Int) := by omega
  have h2 : (k : Int) ≤ (n : Int) := by omega
  have h3 : (n : Int) ≤ (c : Int) := by omega
  unfold cutA
  simp [go_sem, h1, h2]
theorem slice_to_vec {w : World} {A : Option Addr} {n c k : Nat} (h : k ≤ c) : (Instr.sliceAt 127 (.slice A n c) none (some (.int .i64 (k : Int))) none).run Tryz.prog w = .ok (.slice A k c) w := by
  have h1 : (0 : Int) ≤ (k : Int) := by omega
  have h2 : (k : Int) ≤ (c : Int) := by omega
  simp [go_sem, h1, h2]
theorem slice_from_vec {w : World} {A : Option Addr} {n c k : Nat} (h : k ≤ n) (hc : n ≤ c) : (Instr.sliceAt 127 (.slice A n c) (some (.int .i64 (k : Int))) none none).run Tryz.prog w = .ok (.slice (cutA A c k) (n - k) (c - k)) w := by
  have h1 : (0 : Int) ≤ (k : Int) := by omega
  have h2 : (k : Int) ≤ (n : Int) := by omega
  have h3 : (n : Int) ≤ (c : Int) := by omega
  unfold cutA
  simp [go_sem, h1, h2]
theorem Dots.take {w : World} {A : Option Addr} {n c k : Nat} {l : List Dot} (h : Dots w A n c l) (hk : k ≤ n) : Dots w A k c (l.take k) :=
  ⟨by rw [List.length_take, ← h.len]; omega, Nat.le_trans hk h.cap, h.max, h.nil, fun i d hi => h.cell i d (by rw [List.getElem?_take] at hi; split at hi; exact hi; cases hi)⟩
theorem Dots.drop {w : World} {A : Option Addr} {n c k : Nat} {l : List Dot} (h : Dots w A n c l) (hk : k ≤ n) : Dots w (cutA A c k) (n - k) (c - k) (l.drop k) := by
  refine ⟨by rw [List.length_drop, ← h.len], by have := h.cap; omega, by have := h.max; omega, fun e => ?_, fun i d hi => ?_⟩
  · by_cases hc : c = k
    · omega
    · unfold cutA at e; rw [if_neg hc] at e
      have : A = none := by cases A with | none => rfl | some a => cases e
      have := h.nil this; omega
  · rw [List.getElem?_drop] at hi
    obtain ⟨b, o, rfl, hb, h1, h2⟩ := h.cell _ d hi
    have hl : k + i < l.length := (List.getElem?_eq_some_iff.1 hi).1
    have hc : ¬ c = k := by have := h.cap; have := h.len; omega
    unfold cutA; rw [if_neg hc]
    refine ⟨b, o + k * 2, by simp [add_lit], hb, ?_, ?_⟩
    · rw [show o + k * 2 + i * 2 = o + (k + i) * 2 by omega]; exact h1
    · rw [show o + k * 2 + i * 2 + 1 = o + (k + i) * 2 + 1 by omega]; exact h2

/-- A row of the call's own, from block B on, that reads as a list of dots. -/
def Row (w : World) (B : Nat) (v : Value) (l : List Dot) : Prop := w.ownsRow B 143 2 v l.length (dcells l)
section
variable {w w' : World} {B : Nat} {v : Value} {l : List Dot}
theorem Row.mono (h : Row w B v l) (hb : Below w.heap.size w w') : Row w' B v l := by
  refine ⟨h.1, ?_⟩
  rcases h.2 with h2 | ⟨g, cap, cur, hv, hg, hh, r⟩
  · exact .inl h2
  · exact .inr ⟨g, cap, cur, hv, hg, (hb.block g (Array.getElem?_eq_some_iff.1 hh).1).trans hh, r⟩
theorem Row.low (h : Row w B v l) {B' : Nat} (hB : B' ≤ B) : Row w B' v l := by
  refine ⟨h.1, ?_⟩
  rcases h.2 with h2 | ⟨g, cap, cur, hv, hg, r⟩
  · exact .inl h2
  · exact .inr ⟨g, cap, cur, hv, by omega, r⟩
theorem Row.dots (h : Row w B v l) : ∃ A c, v = .slice A l.length c ∧ Dots w A l.length c l := by
  rcases h.2 with ⟨rfl, h0⟩ | ⟨g, cap, cur, rfl, hg, hh, hn, hm, hs, ht⟩
  · have : l = [] := List.eq_nil_of_length_eq_zero h0
    subst this
    exact ⟨none, 0, rfl, Dots.nil_⟩
  · refine ⟨some ⟨g, 0, none⟩, cap, rfl, rfl, hn, hm, (fun e => nomatch e), fun i d hi => ?_⟩
    obtain ⟨h1, h2⟩ := dcells_get l i d hi
    have hil : i < l.length := (List.getElem?_eq_some_iff.1 hi).1
    refine ⟨g, 0, rfl, (Array.getElem?_eq_some_iff.1 hh).1, ?_, ?_⟩
    · rw [cell_of_row w g _ cur _ (0, 0) hh]
      rw [← ht, List.getElem?_take] at h1
      split at h1
      · simpa using h1
      · cases h1
    · rw [cell_of_row w g _ cur _ (0, 0) hh]
      rw [← ht, List.getElem?_take] at h2
      split at h2
      · simpa using h2
      · cases h2
theorem Row.nil_ (w : World) (B : Nat) : Row w B (.slice none 0 0) [] := World.ownsRow_nil w B _ 2
end
def IsRow (B : Nat) (l : List Dot) (w : World) (v : Value) : Prop := Row w B v l
def IsDots (l : List Dot) (w : World) (v : Value) : Prop := ∃ A n c, v = .slice A n c ∧ Dots w A n c l
instance (B : Nat) (l : List Dot) : Grows (IsRow B l) := ⟨fun hb h => Row.mono h hb⟩
instance (l : List Dot) : Grows (IsDots l) := ⟨fun hb ⟨A, n, c, e, h⟩ => ⟨A, n, c, e, h.mono hb⟩⟩
theorem IsRow.dots {B : Nat} {l : List Dot} {w : World} {v : Value} (h : IsRow B l w v) : IsDots l w v := let ⟨A, c, e, h'⟩ := Row.dots h; ⟨A, _, c, e, h'⟩

theorem info_dot : ∃ i : TypeInfo, Tryz.prog.info? 143 = some i ∧ i.zero = some (.agg #[.int .i64 0, .int .i64 0]) ∧ i.size = 2 ∧ i.bytes = 16 := by
  obtain ⟨i, h1, h2, h3, h4⟩ := info_parts (P := Tryz.prog) (show (Tryz.prog.info? 143).map (fun i => (i.zero, i.size, i.bytes)) = some (some (.agg #[.int .i64 0, .int .i64 0]), 2, 16) by kernel_rfl)
  exact ⟨i, h1, h2, h3, h4⟩

/-- An append of dots onto a row of the call's own. -/
theorem run_app {t ty : TypeId} (ht : Tryz.prog.underlying t = some (.slice 143)) {w : World} {B : Nat} {v : Value} {l k : List Dot} {A : Option Addr} {n c : Nat} (h : Row w B v l) (hk : Dots w A n c k) (hs : l.length + k.length ≤ 1000000000) (hB : B ≤ w.heap.size) :
    ∃ v' w', (Builtin.append_ #[t, t] ty #[v, .slice A n c]).run Tryz.prog w = .ok v' w' ∧ Row w' B v' (l ++ k) ∧ w.grownBy w' v.ownBlock := by
  obtain ⟨i, hi, hz, hsz, hby⟩ := info_dot
  cases A with
  | none =>
    have hc := hk.nil rfl
    have hn : n = 0 := by have := hk.cap; omega
    subst hc; subst hn
    have hk0 : k = [] := List.eq_nil_of_length_eq_zero hk.len.symm
    subst hk0
    refine ⟨v, w, run_append_owned_none (P := Tryz.prog) (w := w) B t ty 143 i 2 ht hi v l.length (dcells l) h, by rw [List.append_nil]; exact h, ⟨rfl, rfl, rfl, Nat.le_refl _, fun _ _ _ => rfl⟩⟩
  | some a =>
    obtain ⟨v', w', h1, h2, h3, _⟩ := run_append_own (P := Tryz.prog) w B t ty 143 i _ 2 16 ht hi hz hsz hby rfl (by omega) v l.length (dcells l) h a n c (dcells k) (by rw [dcells_length, hk.len]) (fun j u hu => hk.cells rfl j u hu) (dcells_one k)
      (by rw [hk.len]; unfold maxLen; omega) (by rw [hk.len]; omega) hB
    refine ⟨v', w', h1, ?_, h3⟩
    unfold Row
    rw [List.length_append, dcells_append]
    rw [hk.len] at h2
    exact h2
/-- Where the row lies that an append gives: where it lay, or in a new block. -/
theorem run_app_block {t ty : TypeId} (ht : Tryz.prog.underlying t = some (.slice 143)) {w w' : World} {B : Nat} {v v' : Value} {l k : List Dot} {A : Option Addr} {n c : Nat} (h : Row w B v l) (hk : Dots w A n c k) (hs : l.length + k.length ≤ 1000000000)
    (hr : (Builtin.append_ #[t, t] ty #[v, .slice A n c]).run Tryz.prog w = .ok v' w') : ∀ g, v'.ownBlock = some g → v.ownBlock = some g ∨ w.heap.size ≤ g := by
  obtain ⟨i, hi, hz, hsz, hby⟩ := info_dot
  cases A with
  | none =>
    have hc := hk.nil rfl
    have hn : n = 0 := by have := hk.cap; omega
    subst hc; subst hn
    rw [run_append_owned_none (P := Tryz.prog) (w := w) B t ty 143 i 2 ht hi v l.length (dcells l) h] at hr
    cases hr
    exact fun g hg => .inl hg
  | some a =>
    have hnews : ∀ j u, (dcells k)[j]? = some u → w.cell? (a.add j) = some u := fun j u hu => hk.cells rfl j u hu
    have hlen : (dcells k).length = n * i.size := by rw [dcells_length, hk.len, hsz]
    have hkl := hk.len
    rcases h.2 with ⟨rfl, h0⟩ | ⟨g, cap, cur, rfl, hbg, hg, hnc, hcm, hcs, htake⟩
    · by_cases hm : n = 0
      · subst hm
        have hk0 : k = [] := List.eq_nil_of_length_eq_zero hkl.symm
        subst hk0
        have e : (Builtin.append_ #[t, t] ty #[.slice none 0 0, .slice (some a) 0 c]).run Tryz.prog w = .ok (.slice none 0 0) w := by
          simp [Builtin.append_, run_underlying ht, sizeOf, typeInfo, hi, Builtin.lenOf, Builtin.firstCells, loadCells, loadCellsFrom]
        rw [e] at hr; cases hr
        exact fun g hg => .inl hg
      · rw [run_append_nil (P := Tryz.prog) w t ty 143 i _ ht hi hz a n c (dcells k) hlen hnews (by omega) (by omega) (by rw [hby]; omega)] at hr
        cases hr
        intro g hg; simp [Value.ownBlock] at hg; exact .inr (by omega)
    · by_cases hroom : l.length + n ≤ cap
      · rw [run_append_room (P := Tryz.prog) w t ty 143 i ht hi g l.length cap cur hg a n c (dcells k) hlen hnews (dcells_one k) hroom (by rw [hlen, hsz, hcs, ← Nat.add_mul]; exact Nat.mul_le_mul_right _ hroom)] at hr
        cases hr
        exact fun g hg => .inl hg
      · have holds : ∀ j u, (dcells l)[j]? = some u → w.cell? ((⟨g, 0, none⟩ : Addr).add j) = some u := World.ownsRow.cells (v := .slice (some ⟨g, 0, none⟩) l.length cap) h rfl
        rw [run_append_grow (P := Tryz.prog) w t ty 143 i _ ht hi hz ⟨g, 0, none⟩ l.length cap (dcells l) (by rw [dcells_length, hsz]) holds a n c (dcells k) hlen hnews (by omega) (by omega) (by rw [hby]; exact growslice_fits (by omega) (by omega))] at hr
        cases hr
        intro g hg; simp [Value.ownBlock] at hg; exact .inr (by omega)
theorem Row.empty {w : World} {B g : Nat} (hB : B ≤ g) (h : w.heap[g]? = some (.cells #[] 143 (0, 0))) : Row w B (.slice (some ⟨g, 0, none⟩) 0 0) [] :=
  ⟨rfl, .inr ⟨g, 0, #[], rfl, hB, h, Nat.le_refl _, Nat.zero_le _, rfl, rfl⟩⟩
theorem Row.grown {w w1 : World} {B : Nat} {v : Value} {l : List Dot} {row : Option Nat} (h : Row w B v l) (hg : w.grownBy w1 row) (hne : v.ownBlock = none ∨ v.ownBlock ≠ row) : Row w1 B v l := World.ownsRow.kept h hg hne
/-- Dots in a row that an append elsewhere leaves. -/
theorem Dots.grown {w w1 : World} {A : Option Addr} {n c : Nat} {l : List Dot} {row : Option Nat} (h : Dots w A n c l) (hg : w.grownBy w1 row) (hne : ∀ a, A = some a → some a.block ≠ row) : Dots w1 A n c l :=
  ⟨h.len, h.cap, h.max, h.nil, fun i d hi => by
    obtain ⟨b, o, rfl, hlt, h1, h2⟩ := h.cell i d hi
    exact ⟨b, o, rfl, Nat.lt_of_lt_of_le hlt hg.size, hg.cell h1 (hne ⟨b, o, none⟩ rfl), hg.cell h2 (hne ⟨b, o, none⟩ rfl)⟩⟩
/-- A store elsewhere. -/
theorem Dots.set_ {w : World} {A : Option Addr} {n c : Nat} {l : List Dot} (h : Dots w A n c l) {p : Addr} (hne : ∀ a, A = some a → a.block ≠ p.block) (u : Value) : Dots (w.setCell p u) A n c l :=
  ⟨h.len, h.cap, h.max, h.nil, fun i d hi => by
    obtain ⟨b, o, rfl, hlt, h1, h2⟩ := h.cell i d hi
    have hb : b ≠ p.block := hne ⟨b, o, none⟩ rfl
    refine ⟨b, o, rfl, by simpa [World.setCell] using hlt, ?_, ?_⟩
    · rw [World.cell?_setCell_other w p _ u (fun e => hb (by rw [e]))]; exact h1
    · rw [World.cell?_setCell_other w p _ u (fun e => hb (by rw [e]))]; exact h2⟩
theorem Row.set_ {w : World} {B : Nat} {v : Value} {l : List Dot} (h : Row w B v l) {p : Addr} (hne : ∀ k, v.ownBlock = some k → k ≠ p.block) (u : Value) : Row (w.setCell p u) B v l := by
  refine ⟨h.1, ?_⟩
  rcases h.2 with h2 | ⟨g, cap, cur, hv, hg, hh, r⟩
  · exact .inl h2
  · exact .inr ⟨g, cap, cur, hv, hg, by rw [Below.heap_setCell w p u g (hne g (by rw [hv]; rfl))]; exact hh, r⟩
theorem own_ne {A : Option Addr} {n c N : Nat} (h : ∀ a, A = some a → a.block ≠ N) : ∀ k, (Value.slice A n c).ownBlock = some k → k ≠ N := by
  intro k hk
  cases A with
  | none => simp [Value.ownBlock] at hk
  | some a => simp [Value.ownBlock] at hk; subst hk; exact h a rfl
theorem Row.from_ {w : World} {B : Nat} {A : Option Addr} {n c : Nat} {l : List Dot} (h : Row w B (.slice A n c) l) : ∀ a, A = some a → B ≤ a.block := fun a e => (World.ownsRow.lt h a.block (by rw [e]; rfl)).1
theorem cutA_block {A : Option Addr} {c k : Nat} {p : Nat → Prop} (h : ∀ a, A = some a → p a.block) : ∀ a, cutA A c k = some a → p a.block := by
  intro a e
  unfold cutA at e
  split at e
  · exact h a e
  · cases A with
    | none => cases e
    | some a' => simp at e; subst e; rw [show (a'.add (k * 2)).block = a'.block by unfold Addr.add; split <;> rfl]; exact h a' rfl
theorem Row.own (w : World) {B : Nat} {v : Value} {l : List Dot} (h : Row w B v l) : ∀ k, v.ownBlock = some k → B ≤ k := fun k hk => (World.ownsRow.lt h k hk).1
/-- The same as an operation. -/
theorem wpList_app {ops : Array Oper} {rest : List Oper} {o : Oper} {a : Act} {Q : Exit → Act → World → Prop} {s x : Operand} {t : TypeId} {w : World} {B : Nat} {v : Value} {l k : List Dot} {A : Option Addr} {n c : Nat}
    (hgd : o.guard = none) (ho : o.op = .call { callee := .builtin .append, args := #[s, x], argTypes := #[t, t] }) (ht : Tryz.prog.underlying t = some (.slice 143)) (hsv : a.eval s = v) (hxv : a.eval x = .slice A n c)
    (h : Row w B v l) (hk : Dots w A n c k) (hs : l.length + k.length ≤ 1000000000) (hB : B ≤ w.heap.size)
    (K : ∀ v' w', Row w' B v' (l ++ k) → w.grownBy w' v.ownBlock → wpList Tryz.prog ops Q rest (a.put o.dst v') w') : wpList Tryz.prog ops Q (o :: rest) a w := by
  refine wpList_plain hgd fun K' hK => ?_
  obtain ⟨v', w', hr, h2, h3⟩ := run_app (ty := o.type) ht h hk hs hB
  unfold Oper.wp
  simp [execOp, ho, resolve, invoke, builtin, hsv, hxv, hr, Result.andThen]
  exact hK _ _ (K v' w' h2 h3)

theorem wpList_appO {ops : Array Oper} {rest : List Oper} {o : Oper} {a : Act} {Q : Exit → Act → World → Prop} {s x : Operand} {t : TypeId} {w : World} {B : Nat} {v : Value} {l k : List Dot} {A : Option Addr} {n c : Nat}
    (hgd : o.guard = none) (ho : o.op = .call { callee := .builtin .append, args := #[s, x], argTypes := #[t, t] }) (ht : Tryz.prog.underlying t = some (.slice 143)) (hsv : a.eval s = v) (hxv : a.eval x = .slice A n c)
    (h : Row w B v l) (hk : Dots w A n c k) (hs : l.length + k.length ≤ 1000000000) (hB : B ≤ w.heap.size)
    (K : ∀ v' w', Row w' B v' (l ++ k) → w.grownBy w' v.ownBlock → (∀ g, v'.ownBlock = some g → v.ownBlock = some g ∨ w.heap.size ≤ g) → wpList Tryz.prog ops Q rest (a.put o.dst v') w') : wpList Tryz.prog ops Q (o :: rest) a w := by
  refine wpList_plain hgd fun K' hK => ?_
  obtain ⟨v', w', hr, h2, h3⟩ := run_app (ty := o.type) ht h hk hs hB
  have h4 := run_app_block ht h hk hs hr
  unfold Oper.wp
  simp [execOp, ho, resolve, invoke, builtin, hsv, hxv, hr, Result.andThen]
  exact hK _ _ (K v' w' h2 h3 h4)

theorem wp_app {o : Oper} {a : Act} {Q : Exit → Act → World → Prop} {s x : Operand} {t : TypeId} {w : World} {B : Nat} {v : Value} {l k : List Dot} {A : Option Addr} {n c : Nat} {K : Act → World → Prop}
    (ho : o.op = .call { callee := .builtin .append, args := #[s, x], argTypes := #[t, t] }) (ht : Tryz.prog.underlying t = some (.slice 143)) (hsv : a.eval s = v) (hxv : a.eval x = .slice A n c)
    (h : Row w B v l) (hk : Dots w A n c k) (hs : l.length + k.length ≤ 1000000000) (hB : B ≤ w.heap.size)
    (hK : ∀ v' w', Row w' B v' (l ++ k) → w.grownBy w' v.ownBlock → K (a.put o.dst v') w') : o.wp Tryz.prog a w K Q := by
  obtain ⟨v', w', hr, h2, h3⟩ := run_app (ty := o.type) ht h hk hs hB
  unfold Oper.wp
  simp [execOp, ho, resolve, invoke, builtin, hsv, hxv, hr, Result.andThen]
  exact hK v' w' h2 h3
section
variable {P : Program} {ops : List Oper} {Fs : List VT} {w0 : World} {a0 : Act} {i : Nat} {d : Option Tmp} {ty : TypeId} {pos : String} {after : Array Edge} {g : Option (Nat × Bool)}
/-- In a region: an append onto nil: a new row. -/
theorem Ob.appNil {x : Operand} {t : TypeId} {l : List Dot} (hw : Wanted ops Fs w0 a0 i ⟨d, .call ⟨.builtin .append, #[.const (.slice none 0 0), x], #[t, t]⟩, ty, pos, after, g⟩) (ht : Tryz.prog.underlying t = some (.slice 143))
    (hx : Has ops Fs w0 a0 i ⟨d, .call ⟨.builtin .append, #[.const (.slice none 0 0), x], #[t, t]⟩, ty, pos, after, g⟩ x (IsDots l)) (hs : l.length ≤ 1000000000) :
    Ob Tryz.prog ops Fs w0 a0 i ⟨d, .call ⟨.builtin .append, #[.const (.slice none 0 0), x], #[t, t]⟩, ty, pos, after, g⟩ (IsRow w0.heap.size l) :=
  Ob.any hw fun a w cx => by
    obtain ⟨A, n, c, e, hd⟩ := hx a w cx
    obtain ⟨v', w', hr, h2, h3⟩ := run_app (ty := ty) ht (Row.nil_ w w.heap.size) hd (by simpa using hs) (Nat.le_refl _)
    refine ⟨v', w', ?_, (Below.refl _ w).grown h3 (Nat.le_refl _) (fun k hk => by simp [Value.ownBlock] at hk), Row.low h2 cx.le.size⟩
    have hc : a.eval (.const (.slice none 0 0)) = .slice none 0 0 := rfl
    generalize a.eval = ρ at e hc
    simp [execOp, resolve, invoke, builtin, e, hc, hr]
theorem Ob.appNilV {x : Operand} {t : TypeId} {l : List Dot} {A : Option Addr} {n c : Nat} (hw : Wanted ops Fs w0 a0 i ⟨d, .call ⟨.builtin .append, #[.const (.slice none 0 0), x], #[t, t]⟩, ty, pos, after, g⟩) (ht : Tryz.prog.underlying t = some (.slice 143))
    (hx : Has ops Fs w0 a0 i ⟨d, .call ⟨.builtin .append, #[.const (.slice none 0 0), x], #[t, t]⟩, ty, pos, after, g⟩ x (Is (.slice A n c))) (hd : ∀ w, Below w0.heap.size w0 w → Dots w A n c l) (hs : l.length ≤ 1000000000) :
    Ob Tryz.prog ops Fs w0 a0 i ⟨d, .call ⟨.builtin .append, #[.const (.slice none 0 0), x], #[t, t]⟩, ty, pos, after, g⟩ (IsRow w0.heap.size l) :=
  Ob.any hw fun a w cx => by
    have e : a.eval x = .slice A n c := hx a w cx
    have hd := hd w cx.le
    obtain ⟨v', w', hr, h2, h3⟩ := run_app (ty := ty) ht (Row.nil_ w w.heap.size) hd (by simpa using hs) (Nat.le_refl _)
    refine ⟨v', w', ?_, (Below.refl _ w).grown h3 (Nat.le_refl _) (fun k hk => by simp [Value.ownBlock] at hk), Row.low h2 cx.le.size⟩
    have hc : a.eval (.const (.slice none 0 0)) = .slice none 0 0 := rfl
    generalize a.eval = ρ at e hc
    simp [execOp, resolve, invoke, builtin, e, hc, hr]
theorem Ob.sliceTo_dots {x y : Operand} {A : Option Addr} {n c k : Nat} (hw : Wanted ops Fs w0 a0 i ⟨d, .slice 126 x none (some y) none, ty, pos, after, g⟩) (hx : Has ops Fs w0 a0 i ⟨d, .slice 126 x none (some y) none, ty, pos, after, g⟩ x (Is (.slice A n c))) (hy : Has ops Fs w0 a0 i ⟨d, .slice 126 x none (some y) none, ty, pos, after, g⟩ y (IsI (k : Int))) (h : k ≤ c) :
    Ob Tryz.prog ops Fs w0 a0 i ⟨d, .slice 126 x none (some y) none, ty, pos, after, g⟩ (Is (.slice A k c)) :=
  Ob.stay hw fun a w cx => ⟨_, by
    have h1 : a.eval x = .slice A n c := hx a w cx
    have h2 : a.eval y = .int .i64 (k : Int) := hy a w cx
    have h3 := slice_to_dots (w := w) (A := A) (n := n) h
    generalize a.eval = ρ at h1 h2
    simp only [execOp, Option.map, h1, h2]
    simp [h3], rfl⟩
theorem Ob.sliceFrom_dots {x y : Operand} {A : Option Addr} {n c k : Nat} (hw : Wanted ops Fs w0 a0 i ⟨d, .slice 126 x (some y) none none, ty, pos, after, g⟩) (hx : Has ops Fs w0 a0 i ⟨d, .slice 126 x (some y) none none, ty, pos, after, g⟩ x (Is (.slice A n c))) (hy : Has ops Fs w0 a0 i ⟨d, .slice 126 x (some y) none none, ty, pos, after, g⟩ y (IsI (k : Int))) (h : k ≤ n) (hc : n ≤ c) :
    Ob Tryz.prog ops Fs w0 a0 i ⟨d, .slice 126 x (some y) none none, ty, pos, after, g⟩ (Is (.slice (cutA A c k) (n - k) (c - k))) :=
  Ob.stay hw fun a w cx => ⟨_, by
    have h1 : a.eval x = .slice A n c := hx a w cx
    have h2 : a.eval y = .int .i64 (k : Int) := hy a w cx
    have h3 := slice_from_dots (w := w) (A := A) h hc
    generalize a.eval = ρ at h1 h2
    simp only [execOp, Option.map, h1, h2]
    simp [h3], rfl⟩
theorem Ob.sliceTo_vec {x y : Operand} {A : Option Addr} {n c k : Nat} (hw : Wanted ops Fs w0 a0 i ⟨d, .slice 127 x none (some y) none, ty, pos, after, g⟩) (hx : Has ops Fs w0 a0 i ⟨d, .slice 127 x none (some y) none, ty, pos, after, g⟩ x (Is (.slice A n c))) (hy : Has ops Fs w0 a0 i ⟨d, .slice 127 x none (some y) none, ty, pos, after, g⟩ y (IsI (k : Int))) (h : k ≤ c) :
    Ob Tryz.prog ops Fs w0 a0 i ⟨d, .slice 127 x none (some y) none, ty, pos, after, g⟩ (Is (.slice A k c)) :=
  Ob.stay hw fun a w cx => ⟨_, by
    have h1 : a.eval x = .slice A n c := hx a w cx
    have h2 : a.eval y = .int .i64 (k : Int) := hy a w cx
    have h3 := slice_to_vec (w := w) (A := A) (n := n) h
    generalize a.eval = ρ at h1 h2
    simp only [execOp, Option.map, h1, h2]
    simp [h3], rfl⟩
theorem Ob.sliceFrom_vec {x y : Operand} {A : Option Addr} {n c k : Nat} (hw : Wanted ops Fs w0 a0 i ⟨d, .slice 127 x (some y) none none, ty, pos, after, g⟩) (hx : Has ops Fs w0 a0 i ⟨d, .slice 127 x (some y) none none, ty, pos, after, g⟩ x (Is (.slice A n c))) (hy : Has ops Fs w0 a0 i ⟨d, .slice 127 x (some y) none none, ty, pos, after, g⟩ y (IsI (k : Int))) (h : k ≤ n) (hc : n ≤ c) :
    Ob Tryz.prog ops Fs w0 a0 i ⟨d, .slice 127 x (some y) none none, ty, pos, after, g⟩ (Is (.slice (cutA A c k) (n - k) (c - k))) :=
  Ob.stay hw fun a w cx => ⟨_, by
    have h1 : a.eval x = .slice A n c := hx a w cx
    have h2 : a.eval y = .int .i64 (k : Int) := hy a w cx
    have h3 := slice_from_vec (w := w) (A := A) h hc
    generalize a.eval = ρ at h1 h2
    simp only [execOp, Option.map, h1, h2]
    simp [h3], rfl⟩
theorem Ob.mkCon {x y : Operand} {A B : Option Addr} {n ca m cb : Nat} (hw : Wanted ops Fs w0 a0 i ⟨d, .build 129 #[(0, x), (1, y)], ty, pos, after, g⟩) (hx : Has ops Fs w0 a0 i ⟨d, .build 129 #[(0, x), (1, y)], ty, pos, after, g⟩ x (Is (.slice A n ca))) (hy : Has ops Fs w0 a0 i ⟨d, .build 129 #[(0, x), (1, y)], ty, pos, after, g⟩ y (Is (.slice B m cb))) :
    Ob Tryz.prog ops Fs w0 a0 i ⟨d, .build 129 #[(0, x), (1, y)], ty, pos, after, g⟩ (Is (.agg #[.slice A n ca, .slice B m cb])) :=
  Ob.stay hw fun a w cx => ⟨_, by
    have h1 : a.eval x = .slice A n ca := hx a w cx
    have h2 : a.eval y = .slice B m cb := hy a w cx
    generalize a.eval = ρ at h1 h2
    simp [execOp, h1, h2, go_sem], rfl⟩
theorem Ob.mkDot {x y : Operand} {m n : Int} (hw : Wanted ops Fs w0 a0 i ⟨d, .build 143 #[(0, x), (1, y)], ty, pos, after, g⟩) (hx : Has ops Fs w0 a0 i ⟨d, .build 143 #[(0, x), (1, y)], ty, pos, after, g⟩ x (IsI m)) (hy : Has ops Fs w0 a0 i ⟨d, .build 143 #[(0, x), (1, y)], ty, pos, after, g⟩ y (IsI n)) :
    Ob Tryz.prog ops Fs w0 a0 i ⟨d, .build 143 #[(0, x), (1, y)], ty, pos, after, g⟩ (Is (.agg #[.int .i64 m, .int .i64 n])) :=
  Ob.stay hw fun a w cx => ⟨.agg #[.int .i64 m, .int .i64 n], by
    have h1 : a.eval x = .int .i64 m := hx a w cx
    have h2 : a.eval y = .int .i64 n := hy a w cx
    generalize a.eval = ρ at h1 h2
    simp [execOp, h1, h2, go_sem], rfl⟩
theorem Ob.mkDots1126 {x : Operand} {m n : Int} (hw : Wanted ops Fs w0 a0 i ⟨d, .buildSlice 126 1 #[(0, x)], ty, pos, after, g⟩) (hx : Has ops Fs w0 a0 i ⟨d, .buildSlice 126 1 #[(0, x)], ty, pos, after, g⟩ x (Is (.agg #[.int .i64 m, .int .i64 n]))) :
    Ob Tryz.prog ops Fs w0 a0 i ⟨d, .buildSlice 126 1 #[(0, x)], ty, pos, after, g⟩ (IsDots [(m, n)]) :=
  Ob.any hw fun a w cx => by
    have h1 : a.eval x = .agg #[.int .i64 m, .int .i64 n] := hx a w cx
    refine ⟨.slice (some ⟨w.heap.size, 0, none⟩) 1 1, w.alloc (.cells #[.int .i64 m, .int .i64 n] 143), ?_, by go_grown, some ⟨w.heap.size, 0, none⟩, 1, 1, rfl, rfl, Nat.le_refl _, by unfold maxLen; omega, (fun e => nomatch e), fun j e hj => ?_⟩
    · generalize a.eval = ρ at h1
      simp [execOp, h1, go_sem]
    · have : j = 0 := by have := (List.getElem?_eq_some_iff.1 hj).1; simpa using this
      subst this
      simp at hj; subst hj
      exact ⟨w.heap.size, 0, rfl, by simp, by simp [go_sem], by simp [go_sem]⟩
theorem Ob.mkDots1127 {x : Operand} {m n : Int} (hw : Wanted ops Fs w0 a0 i ⟨d, .buildSlice 127 1 #[(0, x)], ty, pos, after, g⟩) (hx : Has ops Fs w0 a0 i ⟨d, .buildSlice 127 1 #[(0, x)], ty, pos, after, g⟩ x (Is (.agg #[.int .i64 m, .int .i64 n]))) :
    Ob Tryz.prog ops Fs w0 a0 i ⟨d, .buildSlice 127 1 #[(0, x)], ty, pos, after, g⟩ (IsDots [(m, n)]) :=
  Ob.any hw fun a w cx => by
    have h1 : a.eval x = .agg #[.int .i64 m, .int .i64 n] := hx a w cx
    refine ⟨.slice (some ⟨w.heap.size, 0, none⟩) 1 1, w.alloc (.cells #[.int .i64 m, .int .i64 n] 143), ?_, by go_grown, some ⟨w.heap.size, 0, none⟩, 1, 1, rfl, rfl, Nat.le_refl _, by unfold maxLen; omega, (fun e => nomatch e), fun j e hj => ?_⟩
    · generalize a.eval = ρ at h1
      simp [execOp, h1, go_sem]
    · have : j = 0 := by have := (List.getElem?_eq_some_iff.1 hj).1; simpa using this
      subst this
      simp at hj; subst hj
      exact ⟨w.heap.size, 0, rfl, by simp, by simp [go_sem], by simp [go_sem]⟩
end
end Go.Proofs.YtjddelmhbafelaaGreatDoor

/-
  Slices whose elements are records without pointers: what their cells read as; rows of the call's own, and what an append makes of them. (For any element: a bundle says how its cells look.)
-/
namespace Go.Proofs.YtjddelmhbafelaaGreatDoor
open Go.RowKit

/-- How an element's cells look. -/
structure Enc (α : Type) where
  z : Nat
  enc : α → List Value
  len : ∀ x, (enc x).length = z
  one : ∀ x, ∀ u ∈ enc x, u.oneCell' = true
def Enc.all {α : Type} (e : Enc α) (l : List α) : List Value := l.flatMap e.enc
section
variable {α : Type} {e : Enc α}
theorem Enc.all_cons (x : α) (l : List α) : e.all (x :: l) = e.enc x ++ e.all l := rfl
theorem Enc.all_append (a b : List α) : e.all (a ++ b) = e.all a ++ e.all b := by unfold Enc.all; rw [List.flatMap_append]
theorem Enc.all_length : ∀ l : List α, (e.all l).length = l.length * e.z
  | [] => by simp [Enc.all]
  | x :: l => by rw [Enc.all_cons, List.length_append, e.len, Enc.all_length l, List.length_cons, Nat.add_mul]; omega
theorem Enc.all_get : ∀ (l : List α) (i : Nat) (x : α), l[i]? = some x → ∀ j u, (e.enc x)[j]? = some u → (e.all l)[i * e.z + j]? = some u
  | [], i, x, h, _, _, _ => by simp at h
  | a :: l, 0, x, h, j, u, hj => by
    simp at h; subst h
    rw [Enc.all_cons, List.getElem?_append_left (by have := (List.getElem?_eq_some_iff.1 hj).1; omega)]
    simpa using hj
  | a :: l, i + 1, x, h, j, u, hj => by
    have := Enc.all_get l i x (by simpa using h) j u hj
    rw [Enc.all_cons, List.getElem?_append_right (by rw [e.len, Nat.add_mul]; omega)]
    have e2 : (i + 1) * e.z + j - (e.enc a).length = i * e.z + j := by rw [e.len, Nat.add_mul]; omega
    rw [e2]; exact this
theorem Enc.all_at (l : List α) (j : Nat) (u : Value) (h : (e.all l)[j]? = some u) : ∃ i x, l[i]? = some x ∧ ∃ r, (e.enc x)[r]? = some u ∧ j = i * e.z + r := by
  induction l generalizing j with
  | nil => simp [Enc.all] at h
  | cons a l ih =>
    rw [Enc.all_cons] at h
    rcases Nat.lt_or_ge j e.z with hj | hj
    · rw [List.getElem?_append_left (by rw [e.len]; exact hj)] at h
      exact ⟨0, a, rfl, j, h, by omega⟩
    · rw [List.getElem?_append_right (by rw [e.len]; exact hj), e.len] at h
      obtain ⟨i, x, h1, r, h2, h3⟩ := ih _ h
      exact ⟨i + 1, x, by simpa using h1, r, h2, by rw [Nat.add_mul]; omega⟩
theorem Enc.all_one (l : List α) : ∀ u ∈ e.all l, u.oneCell' = true := by
  intro u hu
  obtain ⟨j, hj⟩ := List.getElem?_of_mem hu
  obtain ⟨_, x, _, r, h, _⟩ := Enc.all_at l j u hj
  exact e.one x u (List.mem_of_getElem? h)
/-- A slice whose cells read as a list. -/
structure Sl (e : Enc α) (w : World) (A : Option Addr) (n c : Nat) (l : List α) : Prop where
  len : n = l.length
  cap : n ≤ c
  max : c ≤ maxLen
  nil : A = none → c = 0
  cell : ∀ i x, l[i]? = some x → ∃ b o, A = some ⟨b, o, none⟩ ∧ b < w.heap.size ∧ ∀ j u, (e.enc x)[j]? = some u → w.cell? ⟨b, o + i * e.z + j, none⟩ = some u
def IsSl (e : Enc α) (l : List α) (w : World) (v : Value) : Prop := ∃ A n c, v = .slice A n c ∧ Sl e w A n c l
/-- A row of the call's own, from block B on. -/
def OwnSl (e : Enc α) (ty : TypeId) (w : World) (B : Nat) (v : Value) (l : List α) : Prop := w.ownsRow B ty e.z v l.length (e.all l)
def IsOwn (e : Enc α) (ty : TypeId) (B : Nat) (l : List α) (w : World) (v : Value) : Prop := OwnSl e ty w B v l
variable {w w' : World} {A : Option Addr} {n c B : Nat} {l k : List α} {ty : TypeId} {v : Value}
theorem Sl.mono (h : Sl e w A n c l) (hb : Below w.heap.size w w') : Sl e w' A n c l :=
  ⟨h.len, h.cap, h.max, h.nil, fun i x hi => by
    obtain ⟨b, o, rfl, hlt, h1⟩ := h.cell i x hi
    exact ⟨b, o, rfl, Nat.lt_of_lt_of_le hlt hb.size, fun j u hj => (hb.cell (p := ⟨b, _, none⟩) hlt).trans (h1 j u hj)⟩⟩
theorem Sl.big (h : Sl e w A n c l) : n ≤ 9223372036854775807 := by have := h.cap; have := h.max; unfold maxLen at this; omega
theorem Sl.nil_ (e : Enc α) (w : World) : Sl e w none 0 0 [] := ⟨rfl, Nat.le_refl _, by unfold maxLen; omega, fun _ => rfl, fun i x h => by simp at h⟩
theorem Sl.at_ (h : Sl e w A n c l) {i : Nat} (hi : i < n) : ∃ b o x, A = some ⟨b, o, none⟩ ∧ b < w.heap.size ∧ l[i]? = some x ∧ l.drop i = x :: l.drop (i + 1) ∧ ∀ j u, (e.enc x)[j]? = some u → w.cell? ⟨b, o + i * e.z + j, none⟩ = some u := by
  have hl : i < l.length := by have := h.len; omega
  obtain ⟨b, o, e1, hb, h1⟩ := h.cell i l[i] (List.getElem?_eq_getElem hl)
  exact ⟨b, o, l[i], e1, hb, List.getElem?_eq_getElem hl, by rw [List.drop_eq_getElem_cons hl], h1⟩
theorem Sl.cells (h : Sl e w A n c l) {a : Addr} (hA : A = some a) (j : Nat) (u : Value) (hu : (e.all l)[j]? = some u) : w.cell? (a.add j) = some u := by
  obtain ⟨i, x, hi, r, hr, rfl⟩ := Enc.all_at l j u hu
  obtain ⟨b, o, e1, _, h1⟩ := h.cell i x hi
  rw [hA] at e1; cases e1
  rw [add_lit, ← Nat.add_assoc]
  exact h1 r u hr
theorem million_le : 1000000 ≤ maxLen := by unfold maxLen; decide
/-- A slice of new cells. -/
theorem Sl.new (e : Enc α) (w : World) (l : List α) (hl : l.length ≤ 1000000) (cs : Array Value) (hcs : cs.toList = e.all l) (ty : TypeId) : Sl e (w.alloc (.cells cs ty)) (some ⟨w.heap.size, 0, none⟩) l.length l.length l := by
  have hlt : w.heap.size < (w.alloc (.cells cs ty)).heap.size := (Array.getElem?_eq_some_iff.1 (heap_alloc_new w _)).1
  refine ⟨rfl, Nat.le_refl _, Nat.le_trans hl million_le, (fun e => nomatch e), fun i x hi => ⟨w.heap.size, 0, rfl, hlt, fun j u hj => ?_⟩⟩
  have h1 := Enc.all_get l i x hi j u hj
  rw [← hcs] at h1
  rw [Nat.zero_add, cell_of_row _ _ _ cs ty (0, 0) (heap_alloc_new w _), ← Array.getElem?_toList]
  exact h1
theorem OwnSl.mono (h : OwnSl e ty w B v l) (hb : Below w.heap.size w w') : OwnSl e ty w' B v l := by
  refine ⟨h.1, ?_⟩
  rcases h.2 with h2 | ⟨g, cap, cur, hv, hg, hh, r⟩
  · exact .inl h2
  · exact .inr ⟨g, cap, cur, hv, hg, (hb.block g (Array.getElem?_eq_some_iff.1 hh).1).trans hh, r⟩
theorem OwnSl.low (h : OwnSl e ty w B v l) {B' : Nat} (hB : B' ≤ B) : OwnSl e ty w B' v l := by
  refine ⟨h.1, ?_⟩
  rcases h.2 with h2 | ⟨g, cap, cur, hv, hg, r⟩
  · exact .inl h2
  · exact .inr ⟨g, cap, cur, hv, by omega, r⟩
theorem OwnSl.own (h : OwnSl e ty w B v l) : ∀ q, v.ownBlock = some q → B ≤ q ∧ q < w.heap.size := World.ownsRow.lt h
theorem OwnSl.grown {w1 : World} {row : Option Nat} (h : OwnSl e ty w B v l) (hg : w.grownBy w1 row) (hne : v.ownBlock = none ∨ v.ownBlock ≠ row) : OwnSl e ty w1 B v l := World.ownsRow.kept h hg hne
theorem OwnSl.nil_ (e : Enc α) (ty : TypeId) (w : World) (B : Nat) : OwnSl e ty w B (.slice none 0 0) [] := World.ownsRow_nil w B _ _
theorem OwnSl.sl (h : OwnSl e ty w B v l) : ∃ A c, v = .slice A l.length c ∧ Sl e w A l.length c l := by
  rcases h.2 with ⟨rfl, h0⟩ | ⟨g, cap, cur, rfl, hg, hh, hn, hm, hs, ht⟩
  · have : l = [] := List.eq_nil_of_length_eq_zero h0
    subst this
    exact ⟨none, 0, rfl, Sl.nil_ e w⟩
  · refine ⟨some ⟨g, 0, none⟩, cap, rfl, rfl, hn, hm, (fun e => nomatch e), fun i x hi => ⟨g, 0, rfl, (Array.getElem?_eq_some_iff.1 hh).1, fun j u hj => ?_⟩⟩
    have := World.ownsRow.cells (v := .slice (some ⟨g, 0, none⟩) l.length cap) h rfl _ u (Enc.all_get l i x hi j u hj)
    rw [add_lit, ← Nat.add_assoc] at this
    exact this
theorem IsOwn.sl (h : IsOwn e ty B l w v) : IsSl e l w v := let ⟨A, c, e1, h'⟩ := OwnSl.sl h; ⟨A, _, c, e1, h'⟩
/-- The closed facts on an element type. -/
structure Inf (P : Program) (ty : TypeId) (e : Enc α) (bytes : Nat) : Prop where
  ex : ∃ (i : TypeInfo) (z : Value), P.info? ty = some i ∧ i.zero = some z ∧ i.size = e.z ∧ i.bytes = bytes ∧ z.cells.size = e.z
  pos : 0 < e.z
  by_ : bytes ≤ 1000
/-- An append onto a row of the call's own. -/
theorem run_appS {P : Program} {bytes : Nat} {t rt : TypeId} (inf : Inf P ty e bytes) (ht : P.underlying t = some (.slice ty)) (h : OwnSl e ty w B v l) (hk : Sl e w A n c k) (hs : l.length + k.length ≤ 1000000000) (hB : B ≤ w.heap.size) :
    ∃ v' w', (Builtin.append_ #[t, t] rt #[v, .slice A n c]).run P w = .ok v' w' ∧ OwnSl e ty w' B v' (l ++ k) ∧ w.grownBy w' v.ownBlock ∧ (v'.ownBlock = v.ownBlock ∨ v'.ownBlock = some w.heap.size) := by
  obtain ⟨i, z, hi, hz, hsz, hby, hzs⟩ := inf.ex
  have hpos := inf.pos
  have hbb := inf.by_
  cases A with
  | none =>
    have hc := hk.nil rfl
    have hn : n = 0 := by have := hk.cap; omega
    subst hc; subst hn
    have hk0 : k = [] := List.eq_nil_of_length_eq_zero hk.len.symm
    subst hk0
    refine ⟨v, w, run_append_owned_none (P := P) (w := w) B t rt ty i e.z ht hi v l.length (e.all l) h, by rw [List.append_nil]; exact h, ⟨rfl, rfl, rfl, Nat.le_refl _, fun _ _ _ => rfl⟩, .inl rfl⟩
  | some a =>
    have hkl := hk.len
    obtain ⟨v', w', h1, h2, h3, _, h5⟩ := run_append_own_at (P := P) w B t rt ty i z e.z bytes ht hi hz hsz hby hzs hpos v l.length (e.all l) h a n c (e.all k) (by rw [Enc.all_length, hk.len]) (fun j u hu => hk.cells rfl j u hu) (Enc.all_one k)
      (by rw [hkl]; unfold maxLen; omega) (by rw [hkl]; exact Nat.le_trans (Nat.mul_le_mul hs hbb) (by decide)) hB
    refine ⟨v', w', h1, ?_, h3, h5⟩
    unfold OwnSl
    rw [List.length_append, Enc.all_append]
    rw [hkl] at h2
    exact h2
theorem wpList_appS {P : Program} {bytes : Nat} {t : TypeId} {ops : Array Oper} {rest : List Oper} {o : Oper} {a : Act} {Q : Exit → Act → World → Prop} {s x : Operand} (inf : Inf P ty e bytes)
    (hgd : o.guard = none) (ho : o.op = .call { callee := .builtin .append, args := #[s, x], argTypes := #[t, t] }) (ht : P.underlying t = some (.slice ty)) (hsv : a.eval s = v) (hxv : a.eval x = .slice A n c)
    (h : OwnSl e ty w B v l) (hk : Sl e w A n c k) (hs : l.length + k.length ≤ 1000000000) (hB : B ≤ w.heap.size)
    (K : ∀ v' w', OwnSl e ty w' B v' (l ++ k) → w.grownBy w' v.ownBlock → (v'.ownBlock = v.ownBlock ∨ v'.ownBlock = some w.heap.size) → wpList P ops Q rest (a.put o.dst v') w') : wpList P ops Q (o :: rest) a w := by
  refine wpList_plain hgd fun K' hK => ?_
  obtain ⟨v', w', hr, h2, h3, h4⟩ := run_appS (rt := o.type) inf ht h hk hs hB
  unfold Oper.wp
  simp [execOp, ho, resolve, invoke, builtin, hsv, hxv, hr, Result.andThen]
  exact hK _ _ (K v' w' h2 h3 h4)
end
instance {α : Type} (e : Enc α) (l : List α) : Grows (IsSl e l) := ⟨fun hb ⟨A, n, c, e1, h⟩ => ⟨A, n, c, e1, h.mono hb⟩⟩
instance {α : Type} (e : Enc α) (ty : TypeId) (B : Nat) (l : List α) : Grows (IsOwn e ty B l) := ⟨fun hb h => OwnSl.mono h hb⟩

/-! ### Bytes -/
def encB : Enc UInt8 := ⟨1, fun x => [.int .u8 x.toNat], fun _ => rfl, fun x u hu => by rw [List.mem_singleton.1 hu]; rfl⟩
abbrev Bytes (w : World) (A : Option Addr) (n c : Nat) (l : List UInt8) : Prop := Sl encB w A n c l
abbrev IsBytes (l : List UInt8) := IsSl encB l
abbrev strV (l : List UInt8) : Value := .string ⟨⟨l⟩⟩
end Go.Proofs.YtjddelmhbafelaaGreatDoor

/-
  Lists of ints; are two of them the same.
-/
namespace Go.Proofs.YtjddelmhbafelaaGreatDoor
open Go.RowKit
theorem retB {b c : Bool} {w w' : World} (h : b = c) (hb : Below w.heap.size w w') : Ret w (IsB c) (.returned (.bool b)) w' := ⟨_, rfl, hb, by rw [h]; rfl⟩
def encI : Enc Int := ⟨1, fun x => [.int .i64 x], fun _ => rfl, fun x u hu => by rw [List.mem_singleton.1 hu]; rfl⟩
theorem Sl.int {w : World} {A : Option Addr} {n c : Nat} {l : List Int} (h : Sl encI w A n c l) {i : Nat} (hi : i < n) : ∃ b o x, A = some ⟨b, o, none⟩ ∧ b < w.heap.size ∧ l[i]? = some x ∧ l.drop i = x :: l.drop (i + 1) ∧ w.cell? ⟨b, o + i, none⟩ = some (.int .i64 x) := by
  obtain ⟨b, o, x, h1, h2, h3, h4, h5⟩ := h.at_ hi
  refine ⟨b, o, x, h1, h2, h3, h4, ?_⟩
  have := h5 0 _ rfl
  simpa [encI] using this
def ListRel {α : Type} [DecidableEq α] (w : World) (n : Nat) (la lb : List α) (i : Value) (wr : World) : Prop :=
  ∃ k : Nat, i = .int .i64 k ∧ k ≤ n ∧ Below w.heap.size w wr ∧ decide (la = lb) = decide (la.drop k = lb.drop k)
section
variable {α : Type} [DecidableEq α]
theorem ListRel.next {w w1 : World} {n k : Nat} {la lb : List α} {a b : α} (hb1 : Below w.heap.size w w1) (hk : k < n) (h1 : la.drop k = a :: la.drop (k + 1)) (h2 : lb.drop k = b :: lb.drop (k + 1))
    (hs : decide (la = lb) = decide (la.drop k = lb.drop k)) (hl : a = b) : ListRel w n la lb (.int .i64 ((k : Int) + 1)) w1 :=
  ⟨k + 1, by simp, hk, hb1, by rw [hs, h1, h2, hl]; simp⟩
theorem list_no {k : Nat} {la lb : List α} {a b : α} (h1 : la.drop k = a :: la.drop (k + 1)) (h2 : lb.drop k = b :: lb.drop (k + 1))
    (hs : decide (la = lb) = decide (la.drop k = lb.drop k)) (hl : a ≠ b) : decide (la = lb) = false := by
  rw [hs, h1, h2]; simp [hl]
theorem list_yes {n k : Nat} {la lb : List α} (hs : decide (la = lb) = decide (la.drop k = lb.drop k)) (h1 : n = la.length) (h2 : n = lb.length) (hk : ¬ k < n) : decide (la = lb) = true := by
  rw [hs, List.drop_of_length_le (by omega), List.drop_of_length_le (by omega)]; simp
theorem list_len {n m : Nat} {la lb : List α} (h1 : n = la.length) (h2 : m = lb.length) (h : n ≠ m) : decide (la = lb) = false := by
  rw [decide_eq_false_iff_not]; rintro rfl; exact h (h1.trans h2.symm)
end

set_option maxRecDepth 100000 in
set_option maxHeartbeats 2000000 in
theorem rInts (A B : Option Addr) (n m ca cb : Nat) (la lb : List Int) (w : World) (ha : Sl encI w A n ca la) (hb : Sl encI w B m cb lb) :
    Calls Tryz.prog 15 #[.slice A n ca, .slice B m cb] w (Ret w (IsB (decide (la = lb)))) := by
  by_cases hnm : n = m
  · subst hnm
    have hn := ha.big
    have hne : ((n : Int) != (n : Int)) = false := by simp
    go_enter Tryz.func15, Tryz.ntmps15
    go_wp2
    go_loopw [5] (fun i wr => ListRel w n la lb i wr) (fun i _ => n - (intOf i).toNat)
    case atStart => exact ⟨0, rfl, by omega, Below.refl _ _, rfl⟩
    case round =>
      obtain ⟨k, rfl, hk, hbw, hs⟩ := hrel
      by_cases hlt : k < n
      · obtain ⟨b, o, x, rfl, -, -, d1, c1⟩ := (ha.mono hbw).int (i := k) hlt
        obtain ⟨b', o', u, rfl, -, -, d2, c2⟩ := (hb.mono hbw).int (i := k) hlt
        have D1 := Lib.hid d1; have D2 := Lib.hid d2; have HS := Lib.hid hs
        clear d1 d2 hs
        by_cases hl : x = u
        · have HL := Lib.hid hl
          have hl' : (x != u) = false := by simp [hl]
          clear hl
          go_wp2
          go_quiet (fail)
          go_wp2
          go_roundw
          case rel => exact ListRel.next (hbw.drewN' _) hlt D1.out D2.out HS.out HL.out
          case measure => simp [intOf]; omega
        · have HL := Lib.hid hl
          have hl' : (x != u) = true := by simp [hl]
          clear hl
          go_wp2
          go_quiet (fail)
          go_wp2
          go_ret
          exact retB (list_no D1.out D2.out HS.out HL.out).symm (hbw.drewN' _)
      · have HS := Lib.hid (list_yes hs ha.len hb.len hlt); clear hs
        go_wp2
        go_ret
        exact retB HS.out.symm hbw
  · have hne : ((n : Int) != (m : Int)) = true := by simp; omega
    have HL := Lib.hid (list_len ha.len hb.len hnm)
    clear ha hb
    go_enter Tryz.func15, Tryz.ntmps15
    go_wp2
    go_ret
    exact retB HL.out.symm (Below.refl _ _)
end Go.Proofs.YtjddelmhbafelaaGreatDoor

/-
  Slices that are made at once and filled by stores: an element's cells, whatever they are.
-/
namespace Go.Proofs.YtjddelmhbafelaaGreatDoor
open Go.RowKit

theorem rangeKeep {w w' : World} {b o : Nat} {cs : List Value} (h : w.rangeAt b o cs) (hb : Below w.heap.size w w') : w'.rangeAt b o cs := fun j v hj => cellKeep hb (h j v hj)
theorem thereKeep {w w' : World} {b o n : Nat} (h : w.there b o n) (hb : Below w.heap.size w w') : w'.there b o n := fun j hj => by
  obtain ⟨h1, h2⟩ := h j hj
  obtain ⟨v, hv⟩ := Option.isSome_iff_exists.1 h1
  exact ⟨by rw [cellKeep hb hv]; rfl, by rw [hb.frozen (p := ⟨b, o + j, none⟩) (World.block_lt_of_cell? w _ hv)]; exact h2⟩
theorem belowCells {W : World} {g : Nat} (hg : W.heap.size ≤ g) : ∀ (vs : List Value) (o : Nat) (w : World), Below W.heap.size W w → Below W.heap.size W (w.setCells g o vs)
  | [], _, _, h => h
  | v :: r, o, w, h => by
    rw [World.setCells]
    exact belowCells hg r (o + 1) _ (h.setCell (p := ⟨g, o, none⟩) hg v)
/-- n elements of z cells in a block that may be written: what they are. -/
structure Arr (w : World) (g n z : Nat) (f : Nat → List Value) : Prop where
  there : w.there g 0 (n * z)
  len : ∀ i, i < n → (f i).length = z
  at_ : ∀ i, i < n → w.rangeAt g (i * z) (f i)
section
variable {w w' : World} {g n z : Nat} {f : Nat → List Value}
theorem Arr.mono (h : Arr w g n z f) (hb : Below w.heap.size w w') : Arr w' g n z f := ⟨thereKeep h.there hb, h.len, fun i hi => rangeKeep (h.at_ i hi) hb⟩
theorem idx_le {i n z : Nat} (h : i < n) : i * z + z ≤ n * z := by
  have := Nat.mul_le_mul_right z (show i + 1 ≤ n from h)
  rw [Nat.add_mul] at this
  omega
theorem Arr.part (h : Arr w g n z f) {i : Nat} (hi : i < n) : w.there g (i * z) z := fun j hj => by
  have := h.there (i * z + j) (by have := idx_le (z := z) hi; omega)
  simpa [Nat.zero_add] using this
theorem Arr.store (h : Arr w g n z f) {i : Nat} (hi : i < n) {cs : List Value} (hc : cs.length = z) : Arr (w.setCells g (i * z) cs) g n z (fun j => if j = i then cs else f j) := by
  refine ⟨World.there_setCells h.there _ _ _, fun j hj => ?_, fun j hj => ?_⟩
  · show (if j = i then cs else f j).length = z
    split
    · exact hc
    · exact h.len j hj
  · show (w.setCells g (i * z) cs).rangeAt g (j * z) (if j = i then cs else f j)
    by_cases e : j = i
    · rw [if_pos e, e]
      exact World.rangeAt_setCells_same w g _ cs (by rw [hc]; exact h.part hi)
    · rw [if_neg e]
      refine World.rangeAt_setCells_apart (h.at_ j hj) g _ cs (.inr ?_)
      rw [h.len j hj, hc]
      rcases Nat.lt_or_ge j i with hlt | hge
      · exact .inl (idx_le hlt)
      · exact .inr (idx_le (show i < j by omega))
theorem Arr.congr {k : Nat → List Value} (h : Arr w g n z f) (e : ∀ i, i < n → k i = f i) : Arr w g n z k := ⟨h.there, fun i hi => by rw [e i hi]; exact h.len i hi, fun i hi => by rw [e i hi]; exact h.at_ i hi⟩
end
theorem madeCells_get (zc : Array Value) (hz : 0 < zc.size) (k j : Nat) (hj : j < k) : (madeCells zc k)[j]? = zc[j % zc.size]? := by
  have h1 : j % zc.size < zc.size := Nat.mod_lt _ hz
  simp [madeCells, hj, h1]
/-- Made: each element is the zero value. -/
theorem Arr.made (w : World) (zc : Array Value) (n : Nat) (e : TypeId) (hz : 0 < zc.size) : Arr (w.alloc (.cells (madeCells zc (n * zc.size)) e)) w.heap.size n zc.size (fun _ => zc.toList) := by
  have cell : ∀ j, j < n * zc.size → (w.alloc (.cells (madeCells zc (n * zc.size)) e)).cell? ⟨w.heap.size, j, none⟩ = zc[j % zc.size]? := fun j hj => by
    rw [cell_of_row _ _ _ _ e (0, 0) (heap_alloc_new w _), madeCells_get zc hz _ j hj]
  refine ⟨fun j hj => ⟨?_, ?_⟩, fun i _ => by simp, fun i hi j v hj => ?_⟩
  · rw [Nat.zero_add, cell j hj]
    have h1 : j % zc.size < zc.size := Nat.mod_lt _ hz
    simp [h1]
  · exact frozen_of_row _ _ _ _ e (heap_alloc_new w _)
  · have hjz : j < zc.size := by have := (List.getElem?_eq_some_iff.1 hj).1; simpa using this
    rw [cell _ (by have := idx_le (z := zc.size) hi; omega)]
    have e1 : (i * zc.size + j) % zc.size = j := by rw [Nat.mul_comm, Nat.mul_add_mod, Nat.mod_eq_of_lt hjz]
    rw [e1, ← Array.getElem?_toList]
    exact hj
end Go.Proofs.YtjddelmhbafelaaGreatDoor

/-
  linear.Order where one event was made: the sort of one number.
-/
namespace Go.Proofs.YtjddelmhbafelaaGreatDoor
open Go.RowKit
def Void (_ : World) (v : Value) : Prop := v = .tuple #[]
theorem ins_none (A : Option Addr) (n c m : Nat) (F : Value) (hm : m ≤ 1) (w : World) : Calls Tryz.prog 37 #[.slice A n c, .int .i64 0, .int .i64 (m : Int), F] w (Ret w Void) := by
  have d1 : decide ((1 : Int) < (m : Int)) = false := decide_eq_false (by omega)
  clear hm
  go_enter Tryz.func37, Tryz.ntmps37
  go_wp2
  refine wp_loop_rounds 1 ?_
  rw [rounds_succ]
  go_wp2
  refine bodyPost_ret (v := .tuple #[]) (by simp [results, Tryz.results37, go_sem]) rfl ?_
  exact ⟨_, rfl, Below.refl _ _, rfl⟩
theorem stable_one (A : Option Addr) (n c m : Nat) (F : Value) (hm : m ≤ 1) (w : World) : Calls Tryz.prog 25 #[.slice A n c, .int .i64 (m : Int), F] w (Ret w Void) := by
  have I := Lib.hid (ins_none A n c m F hm)
  have d1 : decide ((20 : Int) ≤ (m : Int)) = false := decide_eq_false (by omega)
  have d2 : decide ((20 : Int) < (m : Int)) = false := decide_eq_false (by omega)
  clear hm
  go_enter Tryz.func25, Tryz.ntmps25
  go_wp2
  refine wp_loop_rounds 1 ?_
  rw [rounds_succ]
  go_wp2_with fail
  refine (I.out w).mono ?_
  rintro _ w1 ⟨_, rfl, hb1, rfl⟩
  go_wp2
  refine wp_loop_rounds 1 ?_
  rw [rounds_succ]
  go_wp2
  refine bodyPost_ret (v := .tuple #[]) (by simp [results, Tryz.results25, go_sem]) rfl ?_
  exact ⟨_, rfl, hb1, rfl⟩
theorem sort_one (A : Option Addr) (n c : Nat) (F : Value) (hn : n ≤ 1) (w : World) : Calls Tryz.prog 18 #[.slice A n c, F] w (Ret w Void) := by
  have I := Lib.hid (stable_one A n c n F hn)
  have hb : n ≤ 9223372036854775807 := by omega
  clear hn
  go_enter Tryz.func18, Tryz.ntmps18
  go_wp2_with fail
  refine (I.out w).mono ?_
  rintro _ w1 ⟨_, rfl, hb1, rfl⟩
  go_wp2
  refine bodyPost_ret (v := .tuple #[]) (by simp [results, Tryz.results18, go_sem]) rfl ?_
  exact ⟨_, rfl, hb1, rfl⟩
end Go.Proofs.YtjddelmhbafelaaGreatDoor

/-
  Boxes made and filled at once; a goal at which the walk stops.
-/
namespace Go.Proofs.YtjddelmhbafelaaGreatDoor
open Go.RowKit
/-- A goal at which the walk stops. -/
def Halt (p : Prop) : Prop := p
theorem Halt.go {p : Prop} (h : Halt p) : p := h
theorem cast_world {P : Program} {Q : Exit → Act → World → Prop} {ops : Array Oper} {rest : List Oper} {a : Act} {W X : World} (e : W = X) (h : wpList P ops Q rest a W) : wpList P ops Q rest a X := e ▸ h
theorem there_new (w : World) (zc : Array Value) (e : TypeId) : (w.alloc (.cells zc e)).there w.heap.size 0 zc.size := fun j hj => by
  rw [Nat.zero_add]
  exact ⟨by rw [cell_of_row _ _ _ _ e (0, 0) (heap_alloc_new w _)]; simp [hj], frozen_of_row _ _ _ _ e (heap_alloc_new w _)⟩
/-- A box that is made and filled at once. -/
theorem box_new (w : World) (zc : Array Value) (e : TypeId) (cs : List Value) (hl : zc.size = cs.length) :
    Below w.heap.size w ((w.alloc (.cells zc e)).setCells w.heap.size 0 cs) ∧ ((w.alloc (.cells zc e)).setCells w.heap.size 0 cs).rangeAt w.heap.size 0 cs :=
  ⟨belowCells (Nat.le_refl _) cs 0 _ ((Below.refl _ _).alloc (Nat.le_refl _) _), World.rangeAt_setCells_same _ _ _ cs (by rw [← hl]; exact there_new w zc e)⟩
theorem box_range (x : World) (cs : Array Value) (e : TypeId) : (x.alloc (.cells cs e)).rangeAt x.heap.size 0 cs.toList := fun j v hj => by
  rw [Nat.zero_add, cell_of_row _ _ _ _ e (0, 0) (heap_alloc_new x _), ← Array.getElem?_toList]
  exact hj
end Go.Proofs.YtjddelmhbafelaaGreatDoor

/-
  linear.Order of many events of which one was made.
-/
namespace Go.Proofs.YtjddelmhbafelaaGreatDoor
open Go.RowKit
/-- The cells of the law's event get(i, m, a). -/
def evC (i m a : Int) : List Value := [.int .i64 0, .int .i64 4, .string ⟨⟨[97]⟩⟩, .string ⟨#[]⟩, .string ⟨#[]⟩, .int .i64 0, .slice none 0 0, .int .i64 4, .int .i64 0, .int .i64 0, .slice none 0 0, .slice none 0 0, .int .i64 i, .int .i64 m, .int .i64 a]
def evA (i m a : Int) : Array Value := #[.int .i64 0, .int .i64 4, .string ⟨⟨[97]⟩⟩, .string ⟨#[]⟩, .string ⟨#[]⟩, .int .i64 0, .slice none 0 0, .int .i64 4, .int .i64 0, .int .i64 0, .slice none 0 0, .slice none 0 0, .int .i64 i, .int .i64 m, .int .i64 a]
def evZ : Array Value := #[.int .i64 0, .int .i64 0, .string ⟨#[]⟩, .string ⟨#[]⟩, .string ⟨#[]⟩, .int .i64 0, .slice none 0 0, .int .i64 0, .int .i64 0, .int .i64 0, .slice none 0 0, .slice none 0 0, .int .i64 0, .int .i64 0, .int .i64 0]
theorem ev_one (i m a : Int) : (evA i m a).all (·.oneCell') = true := by simp [evA, Value.oneCell']
/-- n events; number k alone was made. -/
def mOf (k i : Nat) : Int := if i = k then 9000 else -1
def aOf (k i : Nat) : Int := if i = k then 9001 else -1
abbrev Evs (w : World) (g n k : Nat) : Prop := Arr w g n 15 (fun i => evC i (mOf k i) (aOf k i))
theorem infI : Inf Tryz.prog 3 encI 8 := by
  obtain ⟨i, h1, h2, h3, h4⟩ := info_parts (P := Tryz.prog) (show (Tryz.prog.info? 3).map (fun i => (i.zero, i.size, i.bytes)) = some (some (.int .i64 0), 1, 8) by kernel_rfl)
  exact ⟨⟨i, _, h1, h2, h3, h4, rfl⟩, by decide, by decide⟩
theorem Sl.oneI (w : World) (x : Int) (ty : TypeId) : Sl encI (w.alloc (.cells #[.int .i64 x] ty)) (some ⟨w.heap.size, 0, none⟩) 1 1 [x] := Sl.new encI w [x] (by simp) _ rfl ty
def outS (k j : Nat) : List Int := if k < j then [(k : Int)] else []
def ORel (w : World) (n k : Nat) (u i : Value) (wr : World) : Prop := ∃ j : Nat, i = .int .i64 j ∧ j ≤ n ∧ Below w.heap.size w wr ∧ OwnSl encI 3 wr w.heap.size u (outS k j)
theorem outS_skip {k j : Nat} (h : j ≠ k) : outS k (j + 1) = outS k j := by unfold outS; by_cases h1 : k < j <;> simp [h1] <;> omega
theorem outS_put (k : Nat) : outS k (k + 1) = outS k k ++ [(k : Int)] := by unfold outS; simp
theorem outS_end {k n : Nat} (h : k < n) : outS k n = [(k : Int)] := by unfold outS; simp [h]
set_option maxRecDepth 100000 in
set_option maxHeartbeats 4000000 in
theorem cOrder {w : World} {g n c k : Nat} (h : Evs w g n k) (hk : k < n) (hn : n ≤ 4096) : Calls Tryz.prog 14 #[.slice (some ⟨g, 0, none⟩) n c] w (Ret w (fun w' v => ∃ A c, v = .tuple #[.slice A 1 c, .int .i64 0] ∧ Sl encI w' A 1 c [(k : Int)])) := by
  have H := Lib.hid h; have HK := Lib.hid hk; have HN := Lib.hid hn
  have d0 : decide ((4096 : Int) < (n : Int)) = false := decide_eq_false (by omega)
  have HBG : n ≤ 9223372036854775807 := by omega
  clear h hk hn
  go_enter Tryz.func14, Tryz.ntmps14
  go_wp2
  clear d0
  go_loopw [4, 12] (fun u i wr => ORel w n k u i wr) (fun _ i _ => n - (intOf i).toNat)
  case atStart => exact ⟨0, rfl, Nat.zero_le _, by go_grown, OwnSl.nil_ _ _ _ _⟩
  case round =>
    obtain ⟨j, rfl, hj, hb, hown⟩ := hrel
    have HB := Lib.hid hb; have OWN := Lib.hid hown
    clear hb hown
    by_cases hlt : j < n
    · have R := Lib.hid ((H.out.mono HB.out).at_ j hlt)
      have HLT := Lib.hid hlt
      have hbox := box_new wr evZ 40 (evC j (mOf k j) (aOf k j)) rfl
      obtain ⟨W2, hW2⟩ : ∃ W2, W2 = (wr.alloc (.cells evZ 40)).setCells wr.heap.size 0 (evC j (mOf k j) (aOf k j)) := ⟨_, rfl⟩
      rw [← hW2] at hbox
      have HW2 := Lib.hid hW2
      have HB2 := Lib.hid (HB.out.le hbox.1)
      have OW2 := Lib.hid (OWN.out.mono hbox.1)
      have hc4 : W2.cell? ⟨wr.heap.size, 13, none⟩ = some (.int .i64 (mOf k j)) := hbox.2 13 _ rfl
      clear hbox hW2
      by_cases hjk : j = k
      · have e : mOf k j = 9000 := by unfold mOf; rw [if_pos hjk]
        rw [e] at hc4
        have C4 := Lib.hid hc4; have EJ := Lib.hid hjk
        clear hc4 e hjk
        have OWA := Lib.hid (OW2.out.mono ((Below.refl _ _).alloc (Nat.le_refl _) (.cells #[.int .i64 (j : Int)] 3)))
        have HSA := Lib.hid (show w.heap.size ≤ (W2.alloc (.cells #[.int .i64 (j : Int)] 3)).heap.size by have := HB2.out.size; simp; omega)
        go_wp2_with (first
          | (refine wpList_load_mid rfl 40 _ rfl _ _ rfl _ _ R.out Tryz.underlying40 rfl (show (Tryz.prog.info? 40).map (·.size) = some 15 by kernel_rfl) ?_; simp only [evC, Act.put, List.setIfInBounds_toArray, List.set_cons_zero, List.set_cons_succ])
          | (refine wpList_store_mid rfl 40 _ _ rfl wr.heap.size 0 (evA j (mOf k j) (aOf k j)) rfl rfl (there_new wr _ _) (show (Tryz.prog.info? 40).map (·.size) = some 15 by kernel_rfl) (ev_one _ _ _) ?_;
             simp only [Act.put, List.setIfInBounds_toArray, List.set_cons_zero, List.set_cons_succ];
             refine cast_world HW2.out ?_; have x4 := C4.out)
          | (at_builtin; refine wpList_appS (B := w.heap.size) (l := outS k j) infI rfl rfl Tryz.underlying27 rfl rfl OWA.out (Sl.oneI _ _ _) (by unfold outS; split <;> simp) HSA.out ?_; intro v1 w1 ho1 hg1 _; have HO1 := Lib.hid ho1; have HG1 := Lib.hid hg1; clear ho1 hg1)
          | fail)
        go_roundw
        case rel => exact ⟨j + 1, by simp, HLT.out, (HB2.out.alloc HB2.out.size _).grown HG1.out HSA.out (fun q hq => (OWA.out.own q hq).1), by have e := HO1.out; rw [EJ.out] at e ⊢; rw [outS_put]; exact e⟩
        case measure => simp [intOf]; omega
      · have e : mOf k j = -1 := by unfold mOf; rw [if_neg hjk]
        rw [e] at hc4
        have C4 := Lib.hid hc4; have NJ := Lib.hid hjk
        clear hc4 e hjk
        go_wp2_with (first
          | (refine wpList_load_mid rfl 40 _ rfl _ _ rfl _ _ R.out Tryz.underlying40 rfl (show (Tryz.prog.info? 40).map (·.size) = some 15 by kernel_rfl) ?_; simp only [evC, Act.put, List.setIfInBounds_toArray, List.set_cons_zero, List.set_cons_succ])
          | (refine wpList_store_mid rfl 40 _ _ rfl wr.heap.size 0 (evA j (mOf k j) (aOf k j)) rfl rfl (there_new wr _ _) (show (Tryz.prog.info? 40).map (·.size) = some 15 by kernel_rfl) (ev_one _ _ _) ?_;
             simp only [Act.put, List.setIfInBounds_toArray, List.set_cons_zero, List.set_cons_succ];
             refine cast_world HW2.out ?_; have x4 := C4.out)
          | (at_builtin; refine wpList_appS (B := w.heap.size) (l := outS k j) infI rfl rfl Tryz.underlying27 rfl rfl OWA.out (Sl.oneI _ _ _) (by unfold outS; split <;> simp) HSA.out ?_; intro v1 w1 ho1 hg1 _; have HO1 := Lib.hid ho1; have HG1 := Lib.hid hg1; clear ho1 hg1)
          | fail)
        go_roundw
        case rel => exact ⟨j + 1, by simp, HLT.out, HB2.out, by rw [outS_skip NJ.out]; exact OW2.out⟩
        case measure => simp [intOf]; omega
    · have hjn : j = n := by omega
      subst hjn
      have hown := OWN.out
      rw [outS_end HK.out] at hown
      obtain ⟨A, c9, rfl, hsl⟩ := hown.sl
      have SL := Lib.hid hsl
      clear hown hsl OWN H
      simp only [List.length_singleton] at *
      go_wp2_with fail
      refine (sort_one A 1 c9 _ (Nat.le_refl _) _).mono ?_
      rintro _ w5 ⟨_, rfl, hb5, rfl⟩
      have HB5 := Lib.hid (HB.out.le hb5); have SL5 := Lib.hid (SL.out.mono hb5)
      clear hb5
      go_wp2
      refine bodyPost_ret (v := .tuple #[.slice A 1 c9, .int .i64 0]) (by simp [results, Tryz.results14, go_sem]) rfl ?_
      exact ⟨_, rfl, HB5.out, _, _, rfl, SL5.out⟩
theorem cOrderLong (A : Option Addr) (n c : Nat) (w : World) (h : 4096 < n) (hn : n ≤ 9223372036854775807) : Calls Tryz.prog 14 #[.slice A n c] w (Ret w (Is (.tuple #[.slice none 0 0, .int .i64 5]))) := by
  have d1 : decide ((4096 : Int) < (n : Int)) = true := decide_eq_true (by omega)
  clear h
  go_enter Tryz.func14, Tryz.ntmps14
  go_wp2
  refine bodyPost_ret (v := .tuple #[.slice none 0 0, .int .i64 5]) (by simp [results, Tryz.results14, go_sem]) rfl ?_
  exact ⟨_, rfl, by go_grown, rfl⟩
end Go.Proofs.YtjddelmhbafelaaGreatDoor

/-
  A row of numbers that is sorted in place; calls of a function that is handed in; two numbers that change places.
-/
namespace Go.Proofs.YtjddelmhbafelaaGreatDoor
open Go.RowKit Ls
/-- n numbers that may be written, from a block's beginning. -/
structure RowI (w : World) (g n : Nat) (f : Nat → Int) : Prop where
  cell : ∀ i, i < n → w.cell? ⟨g, i, none⟩ = some (.int .i64 (f i))
  frz : ∀ i, i < n → w.frozen? ⟨g, i, none⟩ = false
  lt : g < w.heap.size
theorem RowI.mono {w w' : World} {g n : Nat} {f : Nat → Int} (h : RowI w g n f) (hb : Below w.heap.size w w') : RowI w' g n f :=
  ⟨fun i hi => cellKeep hb (h.cell i hi), fun i hi => by rw [hb.frozen (p := ⟨g, i, none⟩) h.lt]; exact h.frz i hi, Nat.lt_of_lt_of_le h.lt hb.size⟩
theorem RowI.congr {w : World} {g n : Nat} {f k : Nat → Int} (h : RowI w g n f) (e : f = k) : RowI w g n k := e ▸ h
/-- What a call gives that writes to block g alone. -/
def RetB (g : Nat) (w : World) (F : World → Prop) (e : Ending) (w' : World) : Prop := e = .returned (.tuple #[]) ∧ Below g w w' ∧ F w'
theorem swapped (w : World) (g i j : Nat) (x y : Value) : Below g w ((w.drew.setCell ⟨g, i, none⟩ x).setCell ⟨g, j, none⟩ y) :=
  (((Below.refl _ _).drew.setCell (p := ⟨g, i, none⟩) (Nat.le_refl _) x).setCell (p := ⟨g, j, none⟩) (Nat.le_refl _) y)
theorem RowI.swap {w : World} {g n : Nat} {f : Nat → Int} (h : RowI w g n f) {i j : Nat} (hi : i < n) (hj : j < n) : RowI ((w.setCell ⟨g, i, none⟩ (.int .i64 (f j))).setCell ⟨g, j, none⟩ (.int .i64 (f i))) g n (sw f i j) := by
  have c1 : (w.setCell ⟨g, i, none⟩ (.int .i64 (f j))).cell? ⟨g, i, none⟩ = some (.int .i64 (f j)) := World.cell?_setCell_same _ _ _ (h.cell i hi)
  refine ⟨fun k hk => ?_, fun k hk => ?_, ?_⟩
  · show ((w.setCell ⟨g, i, none⟩ (.int .i64 (f j))).setCell ⟨g, j, none⟩ (.int .i64 (f i))).cell? ⟨g, k, none⟩ = _
    by_cases kj : k = j
    · subst kj
      by_cases ki : k = i
      · subst ki
        rw [World.cell?_setCell_same _ _ _ c1]; unfold sw; rw [if_pos rfl]
      · rw [World.cell?_setCell_same _ _ _ (u := .int .i64 (f k)) (by rw [World.cell?_setCell_other _ _ _ _ (by intro e; simp only [Addr.mk.injEq] at e; omega)]; exact h.cell k hk)]
        unfold sw; rw [if_neg ki, if_pos rfl]
    · rw [World.cell?_setCell_other _ _ _ _ (by intro e; simp only [Addr.mk.injEq] at e; omega)]
      by_cases ki : k = i
      · subst ki; rw [c1]; unfold sw; rw [if_pos rfl]
      · rw [World.cell?_setCell_other _ _ _ _ (by intro e; simp only [Addr.mk.injEq] at e; omega), h.cell k hk]
        unfold sw; rw [if_neg ki, if_neg kj]
  · show ((w.setCell ⟨g, i, none⟩ (.int .i64 (f j))).setCell ⟨g, j, none⟩ (.int .i64 (f i))).frozen? ⟨g, k, none⟩ = _
    rw [World.frozen?_setCell, World.frozen?_setCell]; exact h.frz k hk
  · have := (((Below.refl g w).setCell (p := ⟨g, i, none⟩) (Nat.le_refl _) (.int .i64 (f j))).setCell (p := ⟨g, j, none⟩) (Nat.le_refl _) (.int .i64 (f i))).size
    exact Nat.lt_of_lt_of_le h.lt this
theorem RowI.drew {w : World} {g n : Nat} {f : Nat → Int} (h : RowI w g n f) : RowI w.drew g n f := h.mono (Below.refl _ _).drew
/-- Behind the first store the second place still holds something. -/
theorem RowI.between {w : World} {g n : Nat} {f : Nat → Int} (h : RowI w g n f) {i j : Nat} (hi : i < n) (hj : j < n) (v : Value) : ∃ u, (w.setCell ⟨g, i, none⟩ v).cell? ⟨g, j, none⟩ = some u := by
  by_cases e : i = j
  · subst e; exact ⟨v, World.cell?_setCell_same _ _ _ (h.cell i hi)⟩
  · exact ⟨_, (World.cell?_setCell_other _ _ _ _ (by intro e'; simp only [Addr.mk.injEq] at e'; omega)).trans (h.cell j hj)⟩
section
variable {P : Program} {ops : List Oper} {Fs : List VT} {w0 : World} {a0 : Act} {i : Nat}
variable {d : Option Tmp} {ty : TypeId} {pos : String} {after : Array Edge} {g : Option (Nat × Bool)}
/-- A call of a function value with one captured value. -/
theorem run_callF {f : FuncId} {q : Value} {t : Operand} {x y : Operand} {tys : Array TypeId} (he : Enters P f) (a : Act) (w : World) (h : a.eval t = .func (.func f) #[] #[q]) : (execOp a.eval ⟨d, .call ⟨.value t, #[x, y], tys⟩, ty, pos, after, g⟩).run P w = .ok (.enter f #[a.eval x, a.eval y, q]) w := by
  have := he #[a.eval x, a.eval y, q] w
  generalize a.eval = ρ at h this
  simp [execOp, resolve, Deferred.ofValue, invoke, h, this]
theorem Ob.callF2 {f : FuncId} {q p1 p2 : Value} {tys : Array TypeId} {t x y : Operand} {F : VT} (hw : Wanted ops Fs w0 a0 i ⟨d, .call ⟨.value t, #[x, y], tys⟩, ty, pos, after, g⟩)
    (ht : Has ops Fs w0 a0 i ⟨d, .call ⟨.value t, #[x, y], tys⟩, ty, pos, after, g⟩ t (Is (.func (.func f) #[] #[q])))
    (hx : Has ops Fs w0 a0 i ⟨d, .call ⟨.value t, #[x, y], tys⟩, ty, pos, after, g⟩ x (Is p1)) (hy : Has ops Fs w0 a0 i ⟨d, .call ⟨.value t, #[x, y], tys⟩, ty, pos, after, g⟩ y (Is p2)) (he : Enters P f)
    (h : ∀ w, Below w0.heap.size w0 w → Calls P f #[p1, p2, q] w (Ret w F)) : Ob P ops Fs w0 a0 i ⟨d, .call ⟨.value t, #[x, y], tys⟩, ty, pos, after, g⟩ F := fun a w cx => by
  rw [if_pos (hw a w cx)]
  unfold Oper.wp
  rw [run_callF he a w (ht a w cx)]
  have e1 : a.eval x = p1 := hx a w cx
  have e2 : a.eval y = p2 := hy a w cx
  rw [e1, e2]
  refine (h w cx.le).mono ?_
  rintro e w' ⟨v, rfl, hb, hF⟩
  exact ⟨v, rfl, hb, hF⟩
end
end Go.Proofs.YtjddelmhbafelaaGreatDoor

/-
  A region whose order is open, some of whose operations have been taken first (they yield their value in whatever world): the others, by themselves, in an order of our own.
-/
namespace Go.Proofs.YtjddelmhbafelaaGreatDoor
open Go.RowKit

/-- The place of operation j among those that are left. -/
def posOf (π : List Nat) (j : Nat) : Nat := π.idxOf j
def reOp (π : List Nat) (o : Oper) : Oper := { o with after := (o.after.toList.filterMap fun e => if π.contains e.on then some { e with on := posOf π e.on } else none).toArray, guard := match o.guard with | none => none | some (j, b) => some (posOf π j, b) }
def reOps (π : List Nat) (ops : List Oper) : List Oper := π.map fun i => reOp π (ops.getD i default)
/-- The closed facts. -/
def okPerm (π : List Nat) (ops : List Oper) : Bool :=
  (List.range π.length).all fun p => match π[p]? with
    | none => false
    | some j => decide (posOf π j = p) && decide (j < ops.length) && (match ops[j]? with | some o => (o.after.toList.all fun e => decide (e.on < ops.length)) && (match o.guard with | none => true | some (i, _) => π.contains i) | none => false)

section
variable {P : Program} {ops : List Oper} {π : List Nat} {Q : Exit → Act → World → Prop}
theorem okPerm_spec (h : okPerm π ops = true) {p j : Nat} (hp : π[p]? = some j) : posOf π j = p ∧ j < ops.length ∧ ∀ o, ops[j]? = some o → (∀ e ∈ o.after, e.on < ops.length) ∧ ∀ i b, o.guard = some (i, b) → i ∈ π := by
  have hl : p < π.length := (List.getElem?_eq_some_iff.1 hp).1
  have := List.all_eq_true.1 h p (List.mem_range.2 hl)
  simp only [hp, Bool.and_eq_true, decide_eq_true_eq] at this
  obtain ⟨⟨h1, h2⟩, h4⟩ := this
  refine ⟨h1, h2, fun o ho => ?_⟩
  rw [ho] at h4
  simp only [Bool.and_eq_true] at h4
  refine ⟨fun e he => by simpa using List.all_eq_true.1 h4.1 e (by simpa using he), fun i b hg => ?_⟩
  have := h4.2
  rw [hg] at this; simpa using this
theorem posOf_at {j : Nat} (h : j ∈ π) : π[posOf π j]? = some j := by
  unfold posOf
  have := List.idxOf_lt_length_of_mem h
  rw [List.getElem?_eq_getElem this, List.getElem_idxOf]
theorem reOps_at {p j : Nat} {o : Oper} (hp : π[p]? = some j) (ho : ops[j]? = some o) : (reOps π ops)[p]? = some (reOp π o) := by
  unfold reOps
  rw [List.getElem?_map, hp]
  simp [List.getD_eq_getElem?_getD, ho]
theorem wanted_re (h : okPerm π ops = true) {p j : Nat} {o : Oper} (hp : π[p]? = some j) (ho : ops[j]? = some o) (tmps : Array Value) : Region.wanted (reOp π o) (yielded (reOps π ops).toArray tmps) = Region.wanted o (yielded ops.toArray tmps) := by
  obtain ⟨_, hg⟩ := (okPerm_spec h hp).2.2 o ho
  unfold Region.wanted
  cases hgd : o.guard with
  | none => simp [reOp, hgd]
  | some g =>
    obtain ⟨i, b⟩ := g
    have hi := posOf_at (hg i b hgd)
    have hil := (okPerm_spec h hi).2.1
    have := reOps_at hi (List.getElem?_eq_getElem hil)
    simp [reOp, hgd, yielded, this, hil]
theorem wp_re (π : List Nat) (o : Oper) (a : Act) (w : World) (K : Act → World → Prop) : (reOp π o).wp P a w K Q = o.wp P a w K Q := by
  have e : execOp a.eval (reOp π o) = execOp a.eval o := rfl
  unfold Oper.wp
  rw [e]
  generalize (execOp a.eval o).run P w = r
  cases r with
  | ok n w' => cases n <;> rfl
  | halt x w' => cases x <;> rfl
theorem asks_re (π : List Nat) (o : Oper) (a : Act) (w : World) : (reOp π o).asks P a w = o.asks P a w := rfl
theorem wpOp_re (h : okPerm π ops = true) {p j : Nat} {o : Oper} (hp : π[p]? = some j) (ho : ops[j]? = some o) {a : Act} {w : World} {K : Act → World → Prop} (hh : wpOp P (reOps π ops).toArray Q p K a w) : wpOp P ops.toArray Q j K a w := by
  unfold wpOp at *
  have e := reOps_at hp ho
  simp only [List.getElem?_toArray, e] at hh
  simp only [List.getElem?_toArray, ho]
  rw [wanted_re h hp ho, wp_re, asks_re] at hh
  exact hh
theorem mem_re {o : Oper} {e : Edge} : e ∈ (reOp π o).after ↔ ∃ e', e' ∈ o.after ∧ e'.on ∈ π ∧ e = { e' with on := posOf π e'.on } := by
  simp only [reOp, List.mem_toArray, List.mem_filterMap, Array.mem_toList_iff]
  constructor
  · rintro ⟨e', h1, h2⟩
    by_cases hc : e'.on ∈ π
    · rw [if_pos (by simpa using hc)] at h2; exact ⟨e', h1, hc, by cases h2; rfl⟩
    · rw [if_neg (by simpa using hc)] at h2; cases h2
  · rintro ⟨e', h1, h2, rfl⟩
    exact ⟨e', h1, by rw [if_pos (by simpa using h2)]⟩

/-- The two lists of what has come up: what is not left has come up. -/
def Same (π : List Nat) (n : Nat) (l l' : Array Bool) : Prop := l.size = n ∧ l'.size = π.length ∧ (∀ (p j : Nat), π[p]? = some j → l[j]? = l'[p]?) ∧ ∀ (i : Nat), i < n → i ∉ π → l[i]? = some true
theorem ready_re (h : okPerm π ops = true) {l l' : Array Bool} (hs : Same π ops.length l l') {p j : Nat} (hp : π[p]? = some j) : j ∈ Region.ready .any ops.toArray l ↔ p ∈ Region.ready .any (reOps π ops).toArray l' := by
  obtain ⟨_, hj, hsp⟩ := okPerm_spec h hp
  have hoi : ops[j]? = some ops[j] := List.getElem?_eq_getElem hj
  have e := reOps_at hp hoi
  obtain ⟨hed, _⟩ := hsp _ hoi
  have hg : l.getD j true = l'.getD p true := by simp [Array.getD_eq_getD_getElem?, hs.2.2.1 p j hp]
  rw [mem_ready, mem_ready, hg]
  simp only [List.getElem?_toArray, hoi, e, Option.some.injEq, exists_eq_left']
  refine and_congr_right fun _ => ⟨fun ha e' he' hb => ?_, fun ha e' he' hb => ?_⟩
  · obtain ⟨e0, h1, h2, rfl⟩ := mem_re.1 he'
    have := ha e0 h1 hb
    have hq := hs.2.2.1 _ _ (posOf_at h2)
    simpa [Array.getD_eq_getD_getElem?, hq] using this
  · by_cases hc : e'.on ∈ π
    · have := ha _ (mem_re.2 ⟨e', he', hc, rfl⟩) hb
      have hq := hs.2.2.1 _ _ (posOf_at hc)
      simpa [Array.getD_eq_getD_getElem?, hq] using this
    · simp [Array.getD_eq_getD_getElem?, hs.2.2.2 _ (hed e' he') hc]
theorem ready_in {l l' : Array Bool} (hs : Same π ops.length l l') {i : Nat} (hi : i ∈ Region.ready .any ops.toArray l) : ∃ p : Nat, π[p]? = some i := by
  obtain ⟨h0, o, ho, _⟩ := mem_ready.1 hi
  have hil : i < ops.length := by simpa using (Array.getElem?_eq_some_iff.1 ho).1
  by_cases hc : i ∈ π
  · exact ⟨_, posOf_at hc⟩
  · have := hs.2.2.2 i hil hc
    simp [Array.getD_eq_getD_getElem?, this] at h0
theorem wpAny_re (h : okPerm π ops = true) : ∀ (fuel : Nat) (l l' : Array Bool) (a : Act) (w : World), Same π ops.length l l' → wpAny P .any (reOps π ops).toArray Q fuel l' a w → wpAny P .any ops.toArray Q fuel l a w := by
  have back : ∀ (l l' : Array Bool), Same π ops.length l l' → Region.ready .any ops.toArray l = [] → Region.ready .any (reOps π ops).toArray l' = [] := by
    intro l l' hs hr
    rw [List.eq_nil_iff_forall_not_mem]
    intro p hp
    have hpl : p < π.length := by
      obtain ⟨_, o, ho, _⟩ := mem_ready.1 hp
      have := (Array.getElem?_eq_some_iff.1 ho).1
      simpa [reOps] using this
    have := (ready_re h hs (List.getElem?_eq_getElem hpl)).2 hp
    rw [hr] at this; cases this
  intro fuel
  induction fuel with
  | zero =>
    intro l l' a w hs hw
    refine ⟨?_, hw.2⟩
    rw [List.eq_nil_iff_forall_not_mem]
    intro i hi
    obtain ⟨p, hp⟩ := ready_in hs hi
    have := (ready_re h hs hp).1 hi
    rw [hw.1] at this; cases this
  | succ fuel ih =>
    intro l l' a w hs hw
    refine ⟨fun hr => hw.1 (back l l' hs hr), fun i hi => ?_⟩
    obtain ⟨p, hp⟩ := ready_in hs hi
    obtain ⟨hpo, hil, _⟩ := okPerm_spec h hp
    refine wpOp_re h hp (List.getElem?_eq_getElem hil) (wpOp_mono (fun a' w' h' => ih _ _ a' w' ?_ h') (hw.2 _ ((ready_re h hs hp).1 hi)))
    have hpl : p < π.length := (List.getElem?_eq_some_iff.1 hp).1
    refine ⟨by simp [hs.1], by simp [hs.2.1], fun q k hq => ?_, fun k hk hn => ?_⟩
    · by_cases hki : i = k
      · subst hki
        have hqp : q = p := by rw [← (okPerm_spec h hq).1, hpo]
        subst hqp
        simp [hs.1, hs.2.1, hil, hpl]
      · have hne : p ≠ q := fun e => by subst e; rw [hp] at hq; cases hq; exact hki rfl
        rw [Array.getElem?_setIfInBounds_ne hki, Array.getElem?_setIfInBounds_ne hne]; exact hs.2.2.1 q k hq
    · by_cases hki : i = k
      · subst hki; simp [hs.1, hil]
      · rw [Array.getElem?_setIfInBounds_ne hki]; exact hs.2.2.2 k hk hn

/-- What is left, by the walk with a tail. -/
theorem wp_left {w0 : World} {a0 : Act} {l : Array Bool} (π : List Nat) (n : Nat) (hp : okPerm π ops = true) (hs : (decide (l.size = ops.length) && (List.range ops.length).all fun i => l[i]? == some (!π.contains i)) = true)
    (hok : okM a0.tmps.size 0 ((reOps π ops).take n) [] = true) (hot : (decide (n < (reOps π ops).length) && okT n (reOps π ops)) = true) (h : MDerT P (reOps π ops) n w0 a0 Q ((reOps π ops).take n) []) : wpAny P .any ops.toArray Q π.length l a0 w0 := by
  rw [Bool.and_eq_true, decide_eq_true_iff] at hot hs
  obtain ⟨Gs, h1, h2, h3⟩ := MDer.all (Fs := []) h.fore [] rfl (by simp) (fun i o F hi => by simp at hi)
  have hl : (reOps π ops).length = π.length := by simp [reOps]
  have hu : unlisted (Array.replicate (reOps π ops).length false) = (reOps π ops).length := by simp [unlisted, List.countP_replicate]
  have := region_MT_any (Q := Q) hot.1 hok hot.2 h1 h2 h3 (reOps π ops).length (Array.replicate (reOps π ops).length false) a0 w0
    ⟨Below.refl _ w0, rfl, rfl, by simp [List.length_take]; omega, fun _ _ => rfl, fun j oj d G hj => by simp [Array.getElem?_replicate] at hj, fun j oj i hj => by simp [Array.getElem?_replicate] at hj, fun j oj d _ _ _ => rfl⟩ (by simp) (fun j _ hj => by simp [hj]) hu
  rw [hl] at this
  refine wpAny_re hp _ _ _ _ _ ⟨hs.1, by simp, fun p j hpj => ?_, fun i hi hn => ?_⟩ this
  · have hpl : p < π.length := (List.getElem?_eq_some_iff.1 hpj).1
    have hjl := (okPerm_spec hp hpj).2.1
    have h5 := List.all_eq_true.1 hs.2 j (List.mem_range.2 hjl)
    have hm : j ∈ π := List.mem_of_getElem? hpj
    simp [hm] at h5
    rw [h5]; simp [hpl]
  · have h5 := List.all_eq_true.1 hs.2 i (List.mem_range.2 hi)
    simp [hn] at h5
    exact h5
/-- An operation that yields its value in whatever world, taken first. -/
theorem take_pure {i fuel : Nat} {listed : Array Bool} {a : Act} {w : World} {oi : Oper} {v : Value} (hi : ops[i]? = some oi) (hg : oi.guard = none) (hc : (Region.noSelect ops.toArray && (Region.free .any ops.toArray listed i && (Region.ready .any ops.toArray listed).contains i)) = true)
    (hQ : ∀ c a w, Q (.panic c) (a.put oi.dst v) w → Q (.panic c) a w) (hv : ∀ w, (execOp a.eval oi).run P w = .ok (.value v) w) (h : wpAny P .any ops.toArray Q fuel (listed.setIfInBounds i true) (a.put oi.dst v) w) : wpAny P .any ops.toArray Q (fuel + 1) listed a w := by
  simp only [Bool.and_eq_true] at hc
  exact wpAny_take (by simpa using hi) hc.1 hc.2.1 hc.2.2 hQ (.inl ⟨by simp [Region.wanted, hg], hv⟩) h
theorem wpList_assign {ops : Array Oper} {rest : List Oper} {o : Oper} {a : Act} {w : World} {x : Operand} {v : Value} (hg : o.guard = none) (ho : o.op = .assign x) (hx : a.eval x = v) (h : wpList P ops Q rest (a.put o.dst v) w) : wpList P ops Q (o :: rest) a w := by
  refine wpList_plain hg fun K hK => ?_
  have e : (execOp a.eval o).run P w = .ok (.value v) w := by
    generalize a.eval = ρ at hx
    simp [execOp, ho, hx]
  unfold Oper.wp
  rw [e]
  exact hK _ _ h
end
end Go.Proofs.YtjddelmhbafelaaGreatDoor

/-
  A region whose order is open: its first n operations walked once; what is left is handed on in the model's own words (a store, and pure operations beside it).
-/
namespace Go.Proofs.YtjddelmhbafelaaGreatDoor
open Go.RowKit

section
variable {P : Program} {ops : List Oper} {w0 : World} {a0 : Act} {Q : Exit → Act → World → Prop}
/-- The first n have come up, no other. -/
def firstN (n len : Nat) : Array Bool := (List.replicate n true ++ List.replicate (len - n) false).toArray
/-- The closed facts: what is left waits for the last of the first n, and that one, through others, for all of them. -/
def okR (n : Nat) (ops : List Oper) : Bool :=
  (List.range ops.length).all fun i => match ops[i]? with
    | none => false
    | some o => (!decide (i < n) || ((o.after.toList.all fun e => decide (e.on < i)) && (match o.guard with | none => true | some (j, _) => decide (j < i)))) &&
      (if i < n then decide (i + 1 = n) || (List.range n).any fun k => decide (i < k) && (match ops[k]? with | some q => hasEdge q i | none => false) else (List.range i).any fun k => decide (n ≤ k + 1) && hasEdge o k)
theorem okR_spec {n : Nat} (h : okR n ops = true) {i : Nat} {o : Oper} (hi : ops[i]? = some o) : (i < n → ∀ e ∈ o.after, e.on < i) ∧ (i < n → ∀ j b, o.guard = some (j, b) → j < i) ∧
    (i + 1 < n → ∃ k q, i < k ∧ k < n ∧ ops[k]? = some q ∧ hasEdge q i = true) ∧ (n ≤ i → ∃ k, k < i ∧ n ≤ k + 1 ∧ hasEdge o k = true) := by
  have hl : i < ops.length := (List.getElem?_eq_some_iff.1 hi).1
  have := List.all_eq_true.1 h i (List.mem_range.2 hl)
  simp only [hi, Bool.and_eq_true] at this
  obtain ⟨h1, h3⟩ := this
  refine ⟨fun hin e he => ?_, fun hin j b hg => ?_, fun hin => ?_, fun hin => ?_⟩
  · simp only [hin, decide_true, Bool.not_true, Bool.false_or, Bool.and_eq_true] at h1
    simpa using List.all_eq_true.1 h1.1 e (by simpa using he)
  · simp only [hin, decide_true, Bool.not_true, Bool.false_or, Bool.and_eq_true] at h1
    have h2 := h1.2
    rw [hg] at h2; simpa using h2
  · rw [if_pos (by omega)] at h3
    have hne : decide (i + 1 = n) = false := by rw [decide_eq_false_iff_not]; omega
    rw [hne, Bool.false_or, List.any_eq_true] at h3
    obtain ⟨k, hk, hk2⟩ := h3
    rw [Bool.and_eq_true] at hk2
    cases hq : ops[k]? with
    | none => rw [hq] at hk2; exact absurd hk2.2 (by simp)
    | some q => rw [hq] at hk2; exact ⟨k, q, by simpa using hk2.1, List.mem_range.1 hk, hq, hk2.2⟩
  · rw [if_neg (by omega), List.any_eq_true] at h3
    obtain ⟨k, hk, hk2⟩ := h3
    rw [Bool.and_eq_true, decide_eq_true_iff] at hk2
    exact ⟨k, List.mem_range.1 hk, hk2.1, hk2.2⟩

def MDerL (P : Program) (ops : List Oper) (n : Nat) (w0 : World) (a0 : Act) (Q : Exit → Act → World → Prop) : List Oper → List VT → Prop
  | o :: os, RF => ∃ F : VT, Grows F ∧ Ob P (ops.take n) RF.reverse w0 a0 RF.length o F ∧ MDerL P ops n w0 a0 Q os (F :: RF)
  | [], RF => ∀ w, Below w0.heap.size w0 w → EndM (fun _ a w => wpAny P .any ops.toArray Q (ops.length - n) (firstN n ops.length) a w) (dstsOf (ops.take n)) RF.reverse a0 w
theorem MDerL.step {n : Nat} {o : Oper} {os : List Oper} {RF : List VT} {F : VT} [hF : Grows F] (h : Ob P (ops.take n) RF.reverse w0 a0 RF.length o F) (k : MDerL P ops n w0 a0 Q os (F :: RF)) : MDerL P ops n w0 a0 Q (o :: os) RF := ⟨F, hF, h, k⟩
theorem MDerL.fore {n : Nat} : ∀ {os : List Oper} {RF : List VT}, MDerL P ops n w0 a0 Q os RF → MDer P (ops.take n) w0 a0 (fun _ a w => wpAny P .any ops.toArray Q (ops.length - n) (firstN n ops.length) a w) os RF.reverse
  | [], _, h => h
  | o :: os, RF, ⟨F, hF, hob, k⟩ => ⟨F, hF, by rw [List.length_reverse]; exact hob, by have := k.fore; rwa [List.reverse_cons] at this⟩

theorem region_MR_any {n : Nat} {Gs : List VT} (hn : n < ops.length) (hok : okM a0.tmps.size 0 (ops.take n) [] = true) (hot : okR n ops = true) (hlen : Gs.length = (ops.take n).length)
    (hobs : ∀ (i : Nat) (o : Oper) (F : VT), (ops.take n)[i]? = some o → Gs[i]? = some F → Grows F ∧ Ob P (ops.take n) Gs w0 a0 i o F)
    (hend : ∀ w, Below w0.heap.size w0 w → EndM (fun _ a w => wpAny P .any ops.toArray Q (ops.length - n) (firstN n ops.length) a w) (dstsOf (ops.take n)) Gs a0 w) :
    ∀ (fuel : Nat) (listed : Array Bool) (a : Act) (w : World), InvM (ops.take n) Gs w0 a0 listed a w → listed.size = ops.length → (∀ j, n ≤ j → j < ops.length → listed[j]? = some false) → unlisted listed = fuel → wpAny P .any ops.toArray Q fuel listed a w := by
  obtain ⟨s1, s2⟩ := okM_spec hok
  have htl : (ops.take n).length = n := by rw [List.length_take]; omega
  have bodyAt : ∀ j o, j < n → (ops[j]? = some o ↔ (ops.take n)[j]? = some o) := fun j o hj => by rw [List.getElem?_take, if_pos hj]
  intro fuel
  induction fuel with
  | zero =>
    intro listed a w h hs hf hu
    exfalso
    have h1 := hf n (Nat.le_refl _) hn
    have : 0 < unlisted listed := by
      unfold unlisted
      rw [List.countP_pos_iff]
      refine ⟨false, ?_, rfl⟩
      rw [← Array.getElem?_toList] at h1
      exact List.mem_of_getElem? h1
    omega
  | succ fuel ih =>
    intro listed a w h hs hf hu
    -- whether the body has all come up
    by_cases hall : ∀ j, j < n → listed[j]? = some true
    · -- what is left
      have e : listed = firstN n ops.length := by
        refine Array.ext (by simp [firstN]; omega) fun j h1 h2 => ?_
        have hl : listed[j]? = (firstN n ops.length)[j]? := by
          have hr : (firstN n ops.length)[j]? = if j < n then (if j < n then some true else none) else (if j - n < ops.length - n then some false else none) := by
            unfold firstN
            rw [List.getElem?_toArray, List.getElem?_append, List.length_replicate, List.getElem?_replicate, List.getElem?_replicate]
          rw [hr]
          by_cases hj : j < n
          · rw [if_pos hj, if_pos hj]; exact hall j hj
          · rw [if_neg hj, if_pos (by omega)]; exact hf j (by omega) (by omega)
        rw [Array.getElem?_eq_getElem h1, Array.getElem?_eq_getElem h2] at hl
        exact Option.some.inj hl
      have hQ : wpAny P .any ops.toArray Q (ops.length - n) (firstN n ops.length) a w := by
        refine endM_of (Q := fun _ a w => wpAny P .any ops.toArray Q (ops.length - n) (firstN n ops.length) a w) (ops.take n) Gs a0 (fun j o d F h1 h2 h3 => h.done j o d F (hall j (by have := (List.getElem?_eq_some_iff.1 h1).1; omega)) h1 h2 h3) hlen.symm (fun o ho => ?_) h.defers.symm h.size.symm (fun t ht => (h.old t ht).symm) (hend w h.le)
        obtain ⟨j, hj⟩ := List.getElem?_of_mem ho
        obtain ⟨⟨d, hd, _⟩, _⟩ := s1 j o hj
        rw [hd]; simp
      have hcount : unlisted listed = ops.length - n := by
        rw [e]
        unfold unlisted firstN
        simp [List.countP_append, List.countP_replicate]
      rw [← hu, hcount, e]
      exact hQ
    · -- the body
      have hex : ∃ j, j < n ∧ listed[j]? = some false := by
        refine Classical.byContradiction fun hne => hall fun j hj => ?_
        have hjs : j < listed.size := by omega
        cases hb : listed[j] with
        | true => rw [Array.getElem?_eq_getElem hjs, hb]
        | false => exact absurd ⟨j, hj, by rw [Array.getElem?_eq_getElem hjs, hb]⟩ hne
      have hnr : Region.ready .any ops.toArray listed ≠ [] := by
        obtain ⟨j0, hj0, hjf⟩ := hex
        have key : ∀ j, j < n → listed[j]? = some false → Region.ready .any ops.toArray listed ≠ [] := by
          intro j
          induction j using Nat.strongRecOn with
          | _ j ihj =>
            intro hj hjf hr
            have hjo : ops[j]? = some ops[j] := List.getElem?_eq_getElem (by omega)
            have : j ∈ Region.ready .any ops.toArray listed := mem_ready.2 ⟨by simp [Array.getD_eq_getD_getElem?, hjf], ops[j], by simp, fun e he _ => by
              have hlt := (okR_spec hot hjo).1 (by omega) e he
              have hes : e.on < listed.size := by omega
              cases hb : listed[e.on] with
              | true => simp [Array.getD_eq_getD_getElem?, hes, hb]
              | false => exact absurd hr (ihj e.on hlt (by omega) (by rw [Array.getElem?_eq_getElem hes, hb]))⟩
            rw [hr] at this; cases this
        exact key j0 hj0 hjf
      refine ⟨fun h0 => absurd h0 hnr, fun i hi => ?_⟩
      obtain ⟨h0, o, ho, hed⟩ := mem_ready.1 hi
      have ho' : ops[i]? = some o := by simpa using ho
      have hil : i < ops.length := (List.getElem?_eq_some_iff.1 ho').1
      have edgeF : ∀ (o : Oper), ops[i]? = some o → ∀ j, hasEdge o j = true → listed[j]? = some true := fun q hq j he => by
        have hqo : q = o := by rw [hq] at ho'; simpa using ho'
        subst hqo
        unfold hasEdge at he
        rw [List.any_eq_true] at he
        obtain ⟨e, hm, he⟩ := he
        simp only [Bool.and_eq_true, beq_iff_eq] at he
        have h1 := hed e (by simpa using hm) he.2
        rw [he.1] at h1
        have hj2 : j < listed.size := by
          rcases Nat.lt_or_ge j listed.size with h9 | h9
          · exact h9
          · simp [Array.getD_eq_getD_getElem?, h9] at h1
        rw [Array.getElem?_eq_getElem hj2]
        simpa [Array.getD_eq_getD_getElem?, hj2] using h1
      have hin : i < n := by
        rcases Nat.lt_or_ge i n with h1 | h1
        · exact h1
        · exfalso
          obtain ⟨k, hk1, hk2, hk3⟩ := (okR_spec hot ho').2.2.2 h1
          rcases Nat.lt_or_ge k n with h2 | h2
          · have hk : k + 1 = n := by omega
            have chain : ∀ d j, n - j = d → j < n → listed[j]? = some true := by
              intro d
              induction d using Nat.strongRecOn with
              | _ d ihd =>
                intro j hd hj
                by_cases hjk : j = k
                · subst hjk; exact edgeF o ho' j hk3
                · have hjo : ops[j]? = some ops[j] := List.getElem?_eq_getElem (by omega)
                  obtain ⟨m, q, hm1, hm2, hm3, hm4⟩ := (okR_spec hot hjo).2.2.1 (by omega)
                  exact h.closed m q j (ihd (n - m) (by omega) m rfl hm2) ((bodyAt m q hm2).1 hm3) hm4
            exact hall fun j hj => chain (n - j) j rfl hj
          · have := edgeF o ho' k hk3
            have h5 := hf k h2 (by omega)
            rw [this] at h5; cases h5
      have hob' : (ops.take n)[i]? = some o := (bodyAt i o hin).1 ho'
      have hjl : i < listed.size := by omega
      have hfi : listed[i]? = some false := by
        rw [Array.getElem?_eq_getElem hjl]
        simpa [Array.getD_eq_getD_getElem?, hjl] using h0
      have hGi : i < Gs.length := by omega
      obtain ⟨hgr, hob⟩ := hobs i o Gs[i] hob' (List.getElem?_eq_getElem hGi)
      have hg : ∀ (j : Nat) (F : VT), Gs[j]? = some F → Grows F := fun j F hj => by
        have hjo : j < (ops.take n).length := by rw [← hlen]; exact (List.getElem?_eq_some_iff.1 hj).1
        exact (hobs j (ops.take n)[j] F (List.getElem?_eq_getElem hjo) hj).1
      have edge := edgeF o ho'
      have cx : Cx (ops.take n) Gs w0 a0 i o a w := ⟨h.le, h.defers, h.size, h.old, fun j oj d G he h1 h2 h3 => h.done j oj d G (edge j he) h1 h2 h3, fun j oj d h1 he h2 => by
        refine h.todo j oj d ?_ h1 h2
        have hj3 : j < (ops.take n).length := (List.getElem?_eq_some_iff.1 h1).1
        have hj2 : j < listed.size := by omega
        cases hb : listed[j] with
        | false => rw [Array.getElem?_eq_getElem hj2, hb]
        | true =>
          exfalso
          have := h.closed j oj i (by rw [Array.getElem?_eq_getElem hj2, hb]) h1 he
          rw [hfi] at this; cases this⟩
      have hob2 := hob a w cx
      rw [wanted_take hin ((okR_spec hot ho').2.1 hin)] at hob2
      have step : ∀ a' w', InvM (ops.take n) Gs w0 a0 (listed.setIfInBounds i true) a' w' → wpAny P .any ops.toArray Q fuel (listed.setIfInBounds i true) a' w' := fun a' w' h' =>
        ih _ a' w' h' (by simp [hs]) (fun j hj hjl2 => by rw [Array.getElem?_setIfInBounds_ne (by omega)]; exact hf j hj hjl2) (by have := unlisted_set hfi; omega)
      unfold wpOp
      simp only [ho]
      split
      · rename_i hw
        rw [if_pos hw] at hob2
        refine .inl (Oper.wp_noQ (Oper.wp_mono (fun a' w' h' => ?_) hob2))
        obtain ⟨v, rfl, hb, hv⟩ := h'
        exact step _ _ (h.put hok hg hb hob' edge fun G hG => by rw [List.getElem?_eq_getElem hGi] at hG; cases hG; exact hv)
      · rename_i hw
        rw [if_neg hw] at hob2
        exact step _ _ (h.put hok hg (Below.refl _ _) hob' edge fun G hG => by rw [List.getElem?_eq_getElem hGi] at hG; cases hG; exact hob2)


/-- The rule: the first n operations; what is left is the caller's. -/
theorem wp_region_MR {id : Nat} (n : Nat) (hm : P.follows .mixedOrders = true) (hok : okM a0.tmps.size 0 (ops.take n) [] = true) (hot : (decide (n < ops.length) && okR n ops) = true) (h : MDerL P ops n w0 a0 Q (ops.take n) []) : (Code.region id ops.toArray true).wp P Q a0 w0 := by
  rw [Bool.and_eq_true, decide_eq_true_iff] at hot
  obtain ⟨Gs, h1, h2, h3⟩ := MDer.all (Fs := []) h.fore [] rfl (by simp) (fun i o F hi => by simp at hi)
  refine wp_region_any hm ?_
  have hu : unlisted (Array.replicate ops.length false) = ops.length := by simp [unlisted, List.countP_replicate]
  have := region_MR_any (Q := Q) hot.1 hok hot.2 h1 h2 h3 ops.length (Array.replicate ops.length false) a0 { w0 with drawn := w0.drawn + 1 }
    ⟨(Below.refl _ w0).drew, rfl, rfl, by simp [List.length_take]; omega, fun _ _ => rfl, fun j oj d G hj => by simp [Array.getElem?_replicate] at hj, fun j oj i hj => by simp [Array.getElem?_replicate] at hj, fun j oj d _ _ _ => rfl⟩ (by simp) (fun j _ hj => by simp [hj]) hu
  simpa using this
/-- One operation alone can come up. -/
theorem wpAny_next {ops : Array Oper} {fuel i : Nat} {listed : Array Bool} {a : Act} {w : World} {o : Oper} (hr : Region.ready .any ops listed = [i]) (ho : ops[i]? = some o) (hg : o.guard = none)
    (h : o.wp P a w (wpAny P .any ops Q fuel (listed.setIfInBounds i true)) Q) : wpAny P .any ops Q (fuel + 1) listed a w := by
  refine ⟨fun h0 => (by rw [hr] at h0; cases h0), fun j hj => ?_⟩
  rw [hr] at hj
  obtain rfl := List.mem_singleton.1 hj
  unfold wpOp
  simp only [ho]
  rw [if_pos (by simp [Region.wanted, hg])]
  exact .inl h
end
end Go.Proofs.YtjddelmhbafelaaGreatDoor

/-
  Single operations of a region, taken by hand: moves, sums, differences, places; two loads that may come in either order; stores.
-/
namespace Go.Proofs.YtjddelmhbafelaaGreatDoor
open Go.RowKit Ls
theorem wrapN {p : Nat} (h : p ≤ 1000000) : wrap64 (p : Int) = (p : Int) := by unfold wrap64; omega
theorem wrapS {p : Nat} (h : p ≤ 1000000) : wrap64 ((p : Int) + 1) = (p : Int) + 1 := by unfold wrap64; omega
theorem wrapA {p q r : Nat} (e : p + q = r) (h : r ≤ 1000000) : IntKind.i64.wrap ((p : Int) + (q : Int)) = (r : Int) := by rw [IntKind.wrap_i64]; omega
theorem wrapB {p q r : Nat} (e : q + r = p) (h : p ≤ 1000000) : IntKind.i64.wrap ((p : Int) - (q : Int)) = (r : Int) := by rw [IntKind.wrap_i64]; omega
theorem wrapA' {p q r : Nat} (e : p + q = r) (h : r ≤ 1000000) : wrap64 ((p : Int) + (q : Int)) = (r : Int) := by unfold wrap64; omega
theorem wrapB' {p q r : Nat} (e : q + r = p) (h : p ≤ 1000000) : wrap64 ((p : Int) - (q : Int)) = (r : Int) := by unfold wrap64; omega
section
variable {P : Program} {ops : Array Oper} {Q : Exit → Act → World → Prop}
variable {d : Option Tmp} {ty : TypeId} {pos : String} {after : Array Edge} {g : Option (Nat × Bool)} {ρ : Operand → Value}
theorem px_move {x : Operand} {v : Value} (h : ρ x = v) (w : World) : (execOp ρ ⟨d, .move x, ty, pos, after, g⟩).run P w = .ok (.value v) w := by simp [execOp, h]
theorem px_add {x y : Operand} {t t' : TypeId} {p q r : Int} (hx : ρ x = .int .i64 p) (hy : ρ y = .int .i64 q) (h : IntKind.i64.wrap (p + q) = r) (ht : P.underlying t = some (.int .i64)) (w : World) : (execOp ρ ⟨d, .binOp .add t x y t', ty, pos, after, g⟩).run P w = .ok (.value (.int .i64 r)) w := by
  simp [execOp, hx, hy, go_sem, ht]; exact h
theorem px_sub {x y : Operand} {t t' : TypeId} {p q r : Int} (hx : ρ x = .int .i64 p) (hy : ρ y = .int .i64 q) (h : IntKind.i64.wrap (p - q) = r) (ht : P.underlying t = some (.int .i64)) (w : World) : (execOp ρ ⟨d, .binOp .sub t x y t', ty, pos, after, g⟩).run P w = .ok (.value (.int .i64 r)) w := by
  simp [execOp, hx, hy, go_sem, ht]; exact h
theorem wp_skip {o : Oper} {a : Act} {w w' : World} {K : Act → World → Prop} (e : (execOp a.eval o).run P w = .ok .skip w') (h : K (a.put o.dst undef) w') : o.wp P a w K Q := by
  unfold Oper.wp
  rw [e]; exact h
/-- Two operations that leave the world alone, in either order. -/
theorem take_two {i j fuel : Nat} {listed : Array Bool} {a : Act} {w : World} {oi oj : Oper} {vi vj : Value} {di dj : Tmp}
    (hr : Region.ready .any ops listed = [i, j]) (hri : Region.ready .any ops (listed.setIfInBounds i true) = [j]) (hrj : Region.ready .any ops (listed.setIfInBounds j true) = [i]) (hij : i ≠ j) (hd : di ≠ dj)
    (hi : ops[i]? = some oi) (hj : ops[j]? = some oj) (gi : oi.guard = none) (gj : oj.guard = none) (ei : oi.dst = some di) (ej : oj.dst = some dj)
    (h1 : (execOp a.eval oi).run P w = .ok (.value vi) w) (h2 : (execOp (a.put (some di) vi).eval oj).run P w = .ok (.value vj) w)
    (h3 : (execOp a.eval oj).run P w = .ok (.value vj) w) (h4 : (execOp (a.put (some dj) vj).eval oi).run P w = .ok (.value vi) w)
    (h : wpAny P .any ops Q fuel ((listed.setIfInBounds i true).setIfInBounds j true) ((a.put (some di) vi).put (some dj) vj) w) : wpAny P .any ops Q (fuel + 2) listed a w := by
  refine wpAny_all hr (by simp) fun k hk => ?_
  have one : ∀ {o : Oper} {b : Act} {dd : Tmp} {v : Value} {K : Act → World → Prop}, o.dst = some dd → (execOp b.eval o).run P w = .ok (.value v) w → K (b.put (some dd) v) w → o.wp P b w K Q := fun {o b dd v K} e hv hk => by
    unfold Oper.wp; rw [hv, ← e] at *; exact hk
  rcases List.mem_cons.1 hk with rfl | hk
  · unfold wpOp
    simp only [hi]
    rw [if_pos (by simp [Region.wanted, gi])]
    refine .inl (one ei h1 ?_)
    exact wpAny_next hri hj gj (one ej h2 h)
  · obtain rfl := List.mem_singleton.1 hk
    unfold wpOp
    simp only [hj]
    rw [if_pos (by simp [Region.wanted, gj])]
    refine .inl (one ej h3 ?_)
    refine wpAny_next hrj hi gi (one ei h4 ?_)
    have e1 : (listed.setIfInBounds k true).setIfInBounds i true = (listed.setIfInBounds i true).setIfInBounds k true := Array.setIfInBounds_comm _ _ (Ne.symm hij)
    have e2 : (a.put (some dj) vj).put (some di) vi = (a.put (some di) vi).put (some dj) vj := by
      simp only [Act.put]
      rw [Array.setIfInBounds_comm _ _ (Ne.symm hd)]
    rw [e1, e2]; exact h
end
section
variable {d : Option Tmp} {ty : TypeId} {pos : String} {after : Array Edge} {g : Option (Nat × Bool)} {ρ : Operand → Value}
theorem px_load {x : Operand} {b o : Nat} {w : World} {v : Int} (hx : ρ x = .pointer (some ⟨b, o, none⟩)) (h : w.cell? ⟨b, o, none⟩ = some (.int .i64 v)) : (execOp ρ ⟨d, .load 3 x, ty, pos, after, g⟩).run Tryz.prog w = .ok (.value (.int .i64 v)) w := by
  simp [execOp, hx, go_sem, h]
theorem px_store {x y : Operand} {b o : Nat} {w : World} {v : Int} {u : Value} (hx : ρ x = .pointer (some ⟨b, o, none⟩)) (hy : ρ y = .int .i64 v) (h : w.cell? ⟨b, o, none⟩ = some u) (hf : w.frozen? ⟨b, o, none⟩ = false) :
    (execOp ρ ⟨d, .store 3 x y, ty, pos, after, g⟩).run Tryz.prog w = .ok .skip (w.setCell ⟨b, o, none⟩ (.int .i64 v)) := by
  simp [execOp, hx, hy, go_sem, h, hf]
theorem px_index {x y : Operand} {b n c k : Nat} (hx : ρ x = .slice (some ⟨b, 0, none⟩) n c) (hy : ρ y = .int .i64 (k : Int)) (hk : k < n) (w : World) :
    (execOp ρ ⟨d, .indexAddr 27 x y, ty, pos, after, g⟩).run Tryz.prog w = .ok (.value (.pointer (some ⟨b, k, none⟩))) w := by
  have h1 : (0 : Int) ≤ (k : Int) := by omega
  have h2 : (k : Int) < (n : Int) := by omega
  simp [execOp, hx, hy, go_sem, h1, h2]
end
theorem und_int : Tryz.prog.underlying 3 = some (.int .i64) := Tryz.underlying3
theorem und_ints : Tryz.prog.underlying 27 = some (.slice 3) := Tryz.underlying27
theorem siz_int : (Tryz.prog.info? 3).map (·.size) = some 1 := by kernel_rfl
end Go.Proofs.YtjddelmhbafelaaGreatDoor

/-
  slices.swapRangeCmpFunc at numbers.
-/
namespace Go.Proofs.YtjddelmhbafelaaGreatDoor
open Go.RowKit Ls
theorem wrapT {p : Nat} (h : p ≤ 1000000) : IntKind.i64.wrap ((p : Int) + 1) = ((p + 1 : Nat) : Int) := by rw [IntKind.wrap_i64]; omega
theorem wrapU {p : Nat} (h : p ≤ 1000000) : IntKind.i64.wrap (((p + 1 : Nat) : Int) - 1) = (p : Int) := by rw [IntKind.wrap_i64]; omega
def SwRel (w : World) (g n a b k : Nat) (f : Nat → Int) (i : Value) (wr : World) : Prop := ∃ j : Nat, i = .int .i64 j ∧ j ≤ k ∧ Below g w wr ∧ RowI wr g n (swp f a b j)
set_option maxRecDepth 100000 in
set_option maxHeartbeats 4000000 in
theorem cSwapRange {w : World} {g n c a b k : Nat} {f : Nat → Int} (F : Value) (h : RowI w g n f) (hab : a + k ≤ b) (hb : b + k ≤ n) (hn : n ≤ 1000) :
    Calls Tryz.prog 102 #[.slice (some ⟨g, 0, none⟩) n c, .int .i64 a, .int .i64 b, .int .i64 k, F] w (RetB g w (fun w' => RowI w' g n (swp f a b k))) := by
  have H := Lib.hid h; have HAB := Lib.hid hab; have HB := Lib.hid hb; have HN := Lib.hid hn
  have HBG : k ≤ 9223372036854775807 := by omega
  clear h hab hb hn
  go_enter Tryz.func102, Tryz.ntmps102
  go_wp2
  go_loopw [10] (fun i wr => SwRel w g n a b k f i wr) (fun i _ => k - (intOf i).toNat)
  case atStart => exact ⟨0, rfl, Nat.zero_le _, Below.refl _ _, by rw [swp_zero]; exact H.out⟩
  case round =>
    obtain ⟨j, rfl, hj, hbw, hrow⟩ := hrel
    have HBW := Lib.hid hbw; have HROW := Lib.hid hrow
    clear hbw hrow
    by_cases hlt : j < k
    · have h1 := HAB.out; have h2 := HB.out; have h3 := HN.out
      obtain ⟨p, hp⟩ : ∃ p, p = a + j := ⟨_, rfl⟩
      obtain ⟨q, hq⟩ : ∃ q, q = b + j := ⟨_, rfl⟩
      have hpn : p < n := by omega
      have hqn : q < n := by omega
      have ra := wrapA hp.symm (show p ≤ 1000000 by omega)
      have rb := wrapA hq.symm (show q ≤ 1000000 by omega)
      have MEAS : k - (j + 1) < k - j := by omega
      obtain ⟨x, hx⟩ : ∃ x, x = swp f a b j p := ⟨_, rfl⟩
      obtain ⟨y, hy⟩ : ∃ y, y = swp f a b j q := ⟨_, rfl⟩
      have ca := HROW.out.drew.cell p hpn
      have cb := HROW.out.drew.cell q hqn
      have fa := HROW.out.drew.frz p hpn
      have fb := HROW.out.drew.frz q hqn
      obtain ⟨u, cc⟩ := HROW.out.drew.between hpn hqn (.int .i64 y)
      have hs := HROW.out.drew.swap hpn hqn
      rw [← hx] at ca hs
      rw [← hy] at cb hs
      rw [hp, hq, swp_step f (Nat.le_trans (Nat.add_le_add_left hlt a) HAB.out), ← hp, ← hq] at hs
      have HS := Lib.hid hs; have HLT := Lib.hid hlt
      have HB2 := Lib.hid (HBW.out.trans (swapped wr g p q (.int .i64 y) (.int .i64 x)))
      clear hs hx hy hp hq h1 h2 h3
      go_wp2
      refine wp_region_any mixed ?_
      change wpAny _ _ _ _ _ (List.toArray [false, false, false, false, false, false, false, false, false, false, false, false, false, false, false, false, false, false, false, false, false, false, false, false]) _ (World.drew _)
      refine take_pure (i := 0) rfl rfl (by kernel_rfl) (fun _ _ _ h => h) (px_move (v := (.slice (some ⟨g, 0, none⟩) n c)) rfl) ?_
      simp only [Act.put, List.setIfInBounds_toArray, List.set_cons_zero, List.set_cons_succ]
      refine take_pure (i := 1) rfl rfl (by kernel_rfl) (fun _ _ _ h => h) (px_move (v := (.int .i64 ((a : Nat) : Int))) rfl) ?_
      simp only [Act.put, List.setIfInBounds_toArray, List.set_cons_zero, List.set_cons_succ]
      refine take_pure (i := 2) rfl rfl (by kernel_rfl) (fun _ _ _ h => h) (px_move (v := (.int .i64 ((j : Nat) : Int))) rfl) ?_
      simp only [Act.put, List.setIfInBounds_toArray, List.set_cons_zero, List.set_cons_succ]
      refine take_pure (i := 3) rfl rfl (by kernel_rfl) (fun _ _ _ h => h) (px_add rfl rfl ra und_int) ?_
      simp only [Act.put, List.setIfInBounds_toArray, List.set_cons_zero, List.set_cons_succ]
      refine take_pure (i := 4) rfl rfl (by kernel_rfl) (fun _ _ _ h => h) (px_move (v := (.slice (some ⟨g, 0, none⟩) n c)) rfl) ?_
      simp only [Act.put, List.setIfInBounds_toArray, List.set_cons_zero, List.set_cons_succ]
      refine take_pure (i := 5) rfl rfl (by kernel_rfl) (fun _ _ _ h => h) (px_move (v := (.int .i64 ((b : Nat) : Int))) rfl) ?_
      simp only [Act.put, List.setIfInBounds_toArray, List.set_cons_zero, List.set_cons_succ]
      refine take_pure (i := 6) rfl rfl (by kernel_rfl) (fun _ _ _ h => h) (px_move (v := (.int .i64 ((j : Nat) : Int))) rfl) ?_
      simp only [Act.put, List.setIfInBounds_toArray, List.set_cons_zero, List.set_cons_succ]
      refine take_pure (i := 7) rfl rfl (by kernel_rfl) (fun _ _ _ h => h) (px_add rfl rfl rb und_int) ?_
      simp only [Act.put, List.setIfInBounds_toArray, List.set_cons_zero, List.set_cons_succ]
      refine take_pure (i := 8) rfl rfl (by kernel_rfl) (fun _ _ _ h => h) (px_move (v := (.slice (some ⟨g, 0, none⟩) n c)) rfl) ?_
      simp only [Act.put, List.setIfInBounds_toArray, List.set_cons_zero, List.set_cons_succ]
      refine take_pure (i := 9) rfl rfl (by kernel_rfl) (fun _ _ _ h => h) (px_move (v := (.int .i64 ((b : Nat) : Int))) rfl) ?_
      simp only [Act.put, List.setIfInBounds_toArray, List.set_cons_zero, List.set_cons_succ]
      refine take_pure (i := 10) rfl rfl (by kernel_rfl) (fun _ _ _ h => h) (px_move (v := (.int .i64 ((j : Nat) : Int))) rfl) ?_
      simp only [Act.put, List.setIfInBounds_toArray, List.set_cons_zero, List.set_cons_succ]
      refine take_pure (i := 11) rfl rfl (by kernel_rfl) (fun _ _ _ h => h) (px_add rfl rfl rb und_int) ?_
      simp only [Act.put, List.setIfInBounds_toArray, List.set_cons_zero, List.set_cons_succ]
      refine take_pure (i := 12) rfl rfl (by kernel_rfl) (fun _ _ _ h => h) (px_index rfl rfl hqn) ?_
      simp only [Act.put, List.setIfInBounds_toArray, List.set_cons_zero, List.set_cons_succ]
      refine take_pure (i := 14) rfl rfl (by kernel_rfl) (fun _ _ _ h => h) (px_move (v := (.slice (some ⟨g, 0, none⟩) n c)) rfl) ?_
      simp only [Act.put, List.setIfInBounds_toArray, List.set_cons_zero, List.set_cons_succ]
      refine take_pure (i := 15) rfl rfl (by kernel_rfl) (fun _ _ _ h => h) (px_move (v := (.int .i64 ((a : Nat) : Int))) rfl) ?_
      simp only [Act.put, List.setIfInBounds_toArray, List.set_cons_zero, List.set_cons_succ]
      refine take_pure (i := 16) rfl rfl (by kernel_rfl) (fun _ _ _ h => h) (px_move (v := (.int .i64 ((j : Nat) : Int))) rfl) ?_
      simp only [Act.put, List.setIfInBounds_toArray, List.set_cons_zero, List.set_cons_succ]
      refine take_pure (i := 17) rfl rfl (by kernel_rfl) (fun _ _ _ h => h) (px_add rfl rfl ra und_int) ?_
      simp only [Act.put, List.setIfInBounds_toArray, List.set_cons_zero, List.set_cons_succ]
      refine take_pure (i := 18) rfl rfl (by kernel_rfl) (fun _ _ _ h => h) (px_index rfl rfl hpn) ?_
      simp only [Act.put, List.setIfInBounds_toArray, List.set_cons_zero, List.set_cons_succ]
      refine take_two (i := 13) (j := 19) (by kernel_rfl) (by kernel_rfl) (by kernel_rfl) (by decide) (by decide) rfl rfl rfl rfl rfl rfl (px_load rfl cb) (px_load rfl ca) (px_load rfl ca) (px_load rfl cb) ?_
      simp only [Act.put, List.setIfInBounds_toArray, List.set_cons_zero, List.set_cons_succ]
      refine take_pure (i := 20) rfl rfl (by kernel_rfl) (fun _ _ _ h => h) (px_index rfl rfl hpn) ?_
      simp only [Act.put, List.setIfInBounds_toArray, List.set_cons_zero, List.set_cons_succ]
      refine wpAny_next (i := 21) (by kernel_rfl) rfl rfl ?_
      refine wp_skip (px_store rfl rfl ca fa) ?_
      change wpAny _ _ _ _ _ _ (Act.put _ none undef) _
      simp only [Act.put]
      refine take_pure (i := 22) rfl rfl (by kernel_rfl) (fun _ _ _ h => h) (px_index rfl rfl hqn) ?_
      simp only [Act.put, List.setIfInBounds_toArray, List.set_cons_zero, List.set_cons_succ]
      refine wpAny_next (i := 23) (by kernel_rfl) rfl rfl ?_
      refine wp_skip (px_store rfl rfl cc ((World.frozen?_setCell _ _ _ _).trans fb)) ?_
      change wpAny _ _ _ _ _ _ (Act.put _ none undef) _
      simp only [Act.put]
      refine ⟨by kernel_rfl, ?_⟩
      generalize (wr.drew.setCell ⟨g, p, none⟩ (.int .i64 y)).setCell ⟨g, q, none⟩ (.int .i64 x) = w2 at HS HB2 ⊢
      clear ca cb fa fb cc
      go_wp2
      go_roundw
      case rel => exact ⟨j + 1, by simp, HLT.out, HB2.out, HS.out⟩
      case measure =>
        simp [intOf]
        exact MEAS
    · have hjk : j = k := by omega
      subst hjk
      go_wp2
      refine bodyPost_ret (v := .tuple #[]) (by simp [results, Tryz.results102, go_sem]) rfl ?_
      exact ⟨rfl, HBW.out, HROW.out⟩
end Go.Proofs.YtjddelmhbafelaaGreatDoor

/-
  slices.rotateCmpFunc at numbers.
-/
namespace Go.Proofs.YtjddelmhbafelaaGreatDoor
open Go.RowKit Ls
def RoRel (w : World) (g n a m b : Nat) (f : Nat → Int) (u v : Value) (wr : World) : Prop :=
  ∃ (i j : Nat) (k : Nat → Int), u = .int .i64 i ∧ v = .int .i64 j ∧ 0 < i ∧ 0 < j ∧ a ≤ m - i ∧ i ≤ m ∧ m + j ≤ b ∧ Below g w wr ∧ RowI wr g n k ∧ rot k (m - i) m (m + j) = rot f a m b
theorem rot_keep {f : Nat → Int} {a m b a' b' : Nat} {k : Nat → Int} (e : rot k a' m b' = rot f a m b) : rot k a' m b' = rot f a m b := e
set_option maxRecDepth 100000 in
set_option maxHeartbeats 4000000 in
theorem cRotate {w : World} {g n c a m b : Nat} {f : Nat → Int} (F : Value) (h : RowI w g n f) (ham : a < m) (hmb : m < b) (hb : b ≤ n) (hn : n ≤ 1000) :
    Calls Tryz.prog 68 #[.slice (some ⟨g, 0, none⟩) n c, .int .i64 a, .int .i64 m, .int .i64 b, F] w (RetB g w (fun w' => RowI w' g n (rot f a m b))) := by
  have H := Lib.hid h
  have e1 : ((m : Int) - (a : Int)) = ((m - a : Nat) : Int) := by omega
  have e2 : ((b : Int) - (m : Int)) = ((b - m : Nat) : Int) := by omega
  have ST : Hid (RoRel w g n a m b f (.int .i64 ((m - a : Nat) : Int)) (.int .i64 ((b - m : Nat) : Int)) w) := Lib.hid ⟨m - a, b - m, f, rfl, rfl, by omega, by omega, by omega, by omega, by omega, Below.refl _ _, h, by congr 1 <;> omega⟩
  have HAM := Lib.hid ham; have HMB := Lib.hid hmb; have HB := Lib.hid hb; have HN := Lib.hid hn
  have bm : m ≤ 1000 := by omega
  have bb : b ≤ 1000 := by omega
  have ba : a ≤ 1000 := by omega
  clear h ham hmb hb hn
  go_enter Tryz.func68, Tryz.ntmps68
  go_wp2
  clear e1 e2
  go_loopw [10, 11] (fun u v wr => RoRel w g n a m b f u v wr) (fun u v _ => (intOf u).toNat + (intOf v).toNat)
  case atStart => exact ST.out
  case round =>
    clear ST
    obtain ⟨i, j, k, rfl, rfl, hi, hj, hai, him, hjb, hbw, hrow, hrot⟩ := hrel
    have h3 := HN.out; have h4 := HB.out
    have i3 : i ≤ 1000 := by omega
    have j3 : j ≤ 1000 := by omega
    have HROW := Lib.hid hrow; have HROT := Lib.hid hrot; have HBW := Lib.hid hbw; have HAI := Lib.hid hai
    have HIM := Lib.hid him; have HJB := Lib.hid hjb; have HI := Lib.hid hi; have HJ := Lib.hid hj
    clear hrow hrot hbw hai h3 h4
    rcases Nat.lt_trichotomy i j with hij | hij | hij
    · -- the second block is the greater one
      have d1 : ((i : Int) != (j : Int)) = true := by simp; omega
      have d2 : decide ((j : Int) < (i : Int)) = false := decide_eq_false (by omega)
      have s1 : ((m : Int) - (i : Int)) = ((m - i : Nat) : Int) := by omega
      obtain ⟨mj, hmj⟩ : ∃ p, p = m + j := ⟨_, rfl⟩
      obtain ⟨ml, hml⟩ : ∃ p, p = m + j - i := ⟨_, rfl⟩
      have s2 : ((m : Int) + (j : Int)) = (mj : Int) := by omega
      have s3 : ((mj : Int) - (i : Int)) = (ml : Int) := by omega
      have bmj : mj ≤ 2000 := by omega
      have s4 : ((j : Int) - (i : Int)) = ((j - i : Nat) : Int) := by omega
      have C := Lib.hid (cSwapRange (c := c) (a := m - i) (b := ml) (k := i) F HROW.out (by omega) (by have := HB.out; omega) HN.out)
      have R2 := Lib.hid ((rot_less k HIM.out hij).trans HROT.out)
      rw [← hml] at R2
      clear hmj hml
      have HIJ := Lib.hid hij
      clear him hjb hi hj hij
      go_wp2_with fail
      refine C.out.mono ?_
      rintro _ w1 ⟨rfl, hb1, hr1⟩
      have HB1 := Lib.hid (HBW.out.trans hb1); have HR1 := Lib.hid hr1
      clear hb1 hr1
      go_wp2
      go_roundw
      case rel => exact ⟨i, j - i, _, rfl, rfl, HI.out, by have := HIJ.out; omega, HAI.out, HIM.out, by have := HJB.out; omega, HB1.out, HR1.out, R2.out⟩
      case measure => have h1 := HIJ.out; have h2 := HI.out; clear s1 s2 s3 s4; simp [intOf]; omega
    · subst hij
      have d1 : ((i : Int) != (i : Int)) = false := by simp
      have s1 : ((m : Int) - (i : Int)) = ((m - i : Nat) : Int) := by omega
      have C := Lib.hid (cSwapRange (c := c) (a := m - i) (b := m) (k := i) F HROW.out (by omega) (by have := HB.out; omega) HN.out)
      have R2 := Lib.hid ((rot_same k HIM.out).trans HROT.out)
      clear him hjb hi hj
      go_wp2_with fail
      refine C.out.mono ?_
      rintro _ w1 ⟨rfl, hb1, hr1⟩
      have HB1 := Lib.hid (HBW.out.trans hb1); have HR1 := Lib.hid (hr1.congr R2.out)
      clear hb1 hr1
      go_wp2
      refine bodyPost_ret (v := .tuple #[]) (by simp [results, Tryz.results68, go_sem]) rfl ?_
      exact ⟨rfl, HB1.out, HR1.out⟩
    · -- the first block is the greater one
      have d1 : ((i : Int) != (j : Int)) = true := by simp; omega
      have d2 : decide ((j : Int) < (i : Int)) = true := decide_eq_true (by omega)
      have s1 : ((m : Int) - (i : Int)) = ((m - i : Nat) : Int) := by omega
      have s4 : ((i : Int) - (j : Int)) = ((i - j : Nat) : Int) := by omega
      have C := Lib.hid (cSwapRange (c := c) (a := m - i) (b := m) (k := j) F HROW.out (by omega) (by have := HB.out; omega) HN.out)
      have R2 := Lib.hid ((rot_more k HIM.out hij).trans HROT.out)
      have HIJ := Lib.hid hij
      clear him hjb hi hj hij
      go_wp2_with fail
      refine C.out.mono ?_
      rintro _ w1 ⟨rfl, hb1, hr1⟩
      have HB1 := Lib.hid (HBW.out.trans hb1); have HR1 := Lib.hid hr1
      clear hb1 hr1
      go_wp2
      go_roundw
      case rel => exact ⟨i - j, j, _, rfl, rfl, by have := HIJ.out; omega, HJ.out, by have := HIJ.out; have := HAI.out; omega, by have := HIM.out; omega, HJB.out, HB1.out, HR1.out, R2.out⟩
      case measure => have h1 := HIJ.out; have h2 := HJ.out; clear s1 s4; simp [intOf]; omega
end Go.Proofs.YtjddelmhbafelaaGreatDoor

/-
  slices.insertionSortCmpFunc at numbers, by a comparison of what they stand for.
-/
namespace Go.Proofs.YtjddelmhbafelaaGreatDoor
open Go.RowKit Ls
/-- The order of two numbers. -/
def cmpJ (a b : Int) : Int := if a < b then -1 else if b < a then 1 else 0
/-- The comparison that is handed in: of the numbers that belong to two indices. -/
structure CmpOK (M : Int → Int) (N : Nat) (φ : FuncId) (q : Value) (g : Nat) (w0 : World) : Prop where
  enters : Enters Tryz.prog φ
  calls : ∀ w, Below g w0 w → ∀ x y : Int, 0 ≤ x → x < N → 0 ≤ y → y < N → Calls Tryz.prog φ #[.int .i64 x, .int .i64 y, q] w (Ret w (IsI (cmpJ (M x) (M y))))
theorem cmpJ_lt {a b : Int} : cmpJ a b < 0 ↔ a < b := by unfold cmpJ; by_cases h : a < b <;> simp [h] <;> split <;> simp
/-- All numbers are indices. -/
def Oks (N n : Nat) (f : Nat → Int) : Prop := ∀ i, i < n → 0 ≤ f i ∧ f i < N
theorem Oks.re {N n : Nat} {f k : Nat → Int} {a b : Nat} (h : Oks N n f) (r : Re f k a b) (hb : b ≤ n) : Oks N n k := fun i hi => by
  by_cases e : a ≤ i ∧ i < b
  · obtain ⟨j, j1, j2, j3⟩ := r.at_ e.1 e.2
    rw [← j3]; exact h j (by omega)
  · rw [r.out i (by omega)]; exact h i hi
theorem index_row {g n c k : Nat} {w : World} (hk : k < n) : (Instr.indexAt 27 (.slice (some ⟨g, 0, none⟩) n c) (.int .i64 (k : Int))).run Tryz.prog w = .ok (.pointer (some ⟨g, k, none⟩)) w := by
  have h1 : (0 : Int) ≤ (k : Int) := by omega
  have h2 : (k : Int) < (n : Int) := by omega
  simp [go_sem, h1, h2]
theorem int_sub1 {x y : Operand} {j jp : Nat} {w : World} (e : jp + 1 = j) (h : j ≤ 1000000) : (eqGuard .sub 3 x y (.int .i64 (j : Int)) (.int .i64 1)).run Tryz.prog w = .ok () w ∧ (Go.binOp .sub 3 (.int .i64 (j : Int)) (.int .i64 1)).run Tryz.prog w = .ok (.int .i64 (jp : Int)) w := by
  have h1 : IntKind.i64.wrap ((j : Int) - 1) = (jp : Int) := by rw [IntKind.wrap_i64]; omega
  simp [go_sem]; exact h1
theorem wrapP {j jp : Nat} (e : jp + 1 = j) (h : j ≤ 1000000) : IntKind.i64.wrap ((j : Int) - 1) = (jp : Int) := by rw [IntKind.wrap_i64]; omega
theorem wrapP' {j jp : Nat} (e : jp + 1 = j) (h : j ≤ 1000000) : wrap64 ((j : Int) - 1) = (jp : Int) := by unfold wrap64; omega
structure InsO (M : Int → Int) (w : World) (g n a b i : Nat) (f k : Nat → Int) (wr : World) : Prop where
  lo : a + 1 ≤ i
  hi : i ≤ b ∨ i = a + 1 ∧ k = f
  bel : Below g w wr
  row : RowI wr g n k
  re : Re f k a i
  srt : Srt (mlt M) k a i
structure InsI (M : Int → Int) (w : World) (g n a i j : Nat) (k : Nat → Int) (wr : World) : Prop where
  lo : a ≤ j
  hi : j ≤ i
  bel : Below g w wr
  row : RowI wr g n (rot k j i (i + 1))
  gt : ∀ p, j ≤ p → p < i → mlt M (k i) (k p)
theorem srt_single {lt : Int → Int → Prop} (f : Nat → Int) (a : Nat) : Srt lt f a (a + 1) := fun i j h1 h2 h3 => by omega
theorem InsO.out {M : Int → Int} {w wr w2 : World} {g n a b i j : Nat} {f k : Nat → Int} (O : InsO M w g n a b i f k wr) (I : InsI M w g n a i j k w2) (hib : i < b) (hj : j = a ∨ mlt M (k (j - 1)) (k i)) : InsO M w g n a b (i + 1) f (rot k j i (i + 1)) w2 :=
  ⟨by have := O.lo; omega, .inl (by omega), I.bel, I.row, (O.re.wide (Nat.le_refl _) (by omega)).trans ((rot_re k I.hi (by omega)).wide I.lo (Nat.le_refl _)), srt_down (mlt_lin M) O.srt I.lo I.hi hj I.gt⟩
/-- What lies before i is less, as a number. -/
theorem InsO.less {M : Int → Int} {w wr : World} {g n a b i : Nat} {f k : Nat → Int} (O : InsO M w g n a b i f k wr) (hf : Srt (· < ·) f a b) (hib : i < b) {p : Nat} (h1 : a ≤ p) (h2 : p < i) : k p < k i := by
  obtain ⟨r, r1, r2, r3⟩ := O.re.at_ h1 h2
  rw [← r3, O.re.out i (by omega)]
  exact hf r i r1 r2 hib
set_option maxRecDepth 100000 in
set_option maxHeartbeats 8000000 in
theorem cInsert {M : Int → Int} {N : Nat} {φ : FuncId} {q : Value} {w0 w : World} {g n c a b : Nat} {f : Nat → Int} (hc : CmpOK M N φ q g w0) (hw : Below g w0 w) (h : RowI w g n f) (hab : a ≤ b) (hb : b ≤ n) (hn : n ≤ 1000) (hv : Oks N n f) (hf : Srt (· < ·) f a b) :
    Calls Tryz.prog 37 #[.slice (some ⟨g, 0, none⟩) n c, .int .i64 a, .int .i64 b, .func (.func φ) #[] #[q]] w (RetB g w (fun w' => ∃ k, RowI w' g n k ∧ Re f k a b ∧ Srt (mlt M) k a b)) := by
  have ST : Hid (InsO M w g n a b (a + 1) f f w) := Lib.hid ⟨Nat.le_refl _, .inr ⟨rfl, rfl⟩, Below.refl _ _, h, Re.refl _ _ _, srt_single f a⟩
  have HC := Lib.hid hc; have HW := Lib.hid hw; have HB := Lib.hid hb; have HN := Lib.hid hn; have HV := Lib.hid hv; have HF := Lib.hid hf; have HAB := Lib.hid hab
  have HBG : b ≤ 9223372036854775000 := by omega
  have HAG : a ≤ 9223372036854775000 := by omega
  clear hc hw h hab hb hn hv hf
  go_enter Tryz.func37, Tryz.ntmps37
  go_wp2
  go_loopw [8] (fun u wr => ∃ (i : Nat) (k : Nat → Int), u = .int .i64 i ∧ Hid (InsO M w g n a b i f k wr)) (fun u _ => b - (intOf u).toNat)
  case atStart => exact ⟨a + 1, f, by simp, ST⟩
  case round =>
    clear ST
    obtain ⟨i, k, rfl, O⟩ := hrel
    by_cases hlt : i < b
    · have HLT := Lib.hid hlt
      have bi : i ≤ 9223372036854775000 := by omega
      have IST : Hid (InsI M w g n a i i k wr) := Lib.hid ⟨by have := O.out.lo; omega, Nat.le_refl _, O.out.bel, by rw [rot_left k (by omega)]; exact O.out.row, fun p h1 h2 => by omega⟩
      go_wp2
      go_loopw [9] (fun v wr2 => ∃ j : Nat, v = .int .i64 j ∧ Hid (InsI M w g n a i j k wr2)) (fun v _ => (intOf v).toNat)
      case atStart => exact ⟨i, rfl, IST⟩
      case round =>
        clear IST
        obtain ⟨j, rfl, I⟩ := hrel
        have hlo := I.out.lo; have hhi := I.out.hi
        have hnn := HN.out; have hbn := HB.out
        by_cases hja : a < j
        · obtain ⟨jp, hjp⟩ : ∃ jp, jp + 1 = j := ⟨j - 1, by omega⟩
          have hjn : j < n := by omega
          have hpn : jp < n := by omega
          have hj6 : j ≤ 1000000 := by omega
          have d0 : decide ((a : Int) < (j : Int)) = true := decide_eq_true (by omega)
          obtain ⟨x, hx⟩ : ∃ x, x = rot k j i (i + 1) j := ⟨_, rfl⟩
          obtain ⟨y, hy⟩ : ∃ y, y = rot k j i (i + 1) jp := ⟨_, rfl⟩
          have ex : x = k i := by rw [hx, rot_low (Nat.le_refl _) (by omega)]; congr 1; omega
          have ey : y = k jp := by rw [hy, rot_out hhi (by omega) (by omega)]
          have hyx : y < x := by rw [ex, ey]; exact O.out.less HF.out HLT.out (by omega) (by omega)
          have vk := HV.out.re (O.out.re) (Nat.le_trans (Nat.le_of_lt HLT.out) HB.out)
          have vx : 0 ≤ x ∧ x < N := by rw [ex]; exact vk i (by omega)
          have vy : 0 ≤ y ∧ y < N := by rw [ey]; exact vk jp (by omega)
          have ca := I.out.row.cell j hjn
          have cb := I.out.row.cell jp hpn
          rw [← hx] at ca
          rw [← hy] at cb
          have CB := I.out.bel
          have CC := Lib.hid (fun w1 (hb1 : Below wr.heap.size wr w1) => HC.out.calls w1 ((HW.out.trans CB).trans (hb1.mono (Nat.le_of_lt I.out.row.lt))) x y vx.1 vx.2 vy.1 vy.2)
          have EN := Lib.hid HC.out.enters
          have DA := Lib.hid d0; have CA := Lib.hid ca; have CBB := Lib.hid cb
          have LT := Lib.hid (mlt_back (M := M) hyx); have FO := Lib.hid (mlt_fore (M := M) hyx)
          have EX := Lib.hid ex; have EY := Lib.hid ey; have HX := Lib.hid hx; have HY := Lib.hid hy
          clear ca cb vx vy vk hyx ex ey CB d0 hx hy hlt
          by_cases hl : M x < M y
          · have hd : decide (cmpJ (M x) (M y) < 0) = true := decide_eq_true (cmpJ_lt.2 hl)
            have HD := Lib.hid hd; have HL := Lib.hid hl
            clear hd hl
            go_wp2_with fail
            refine wp_region_M mixed (by kernel_rfl) ?_
            refine MDerR.step (Ob.move Wanted.free Has.oldIs) ?_
            refine MDerR.step (Ob.move Wanted.free Has.oldIs) ?_
            refine MDerR.step (Ob.binV Wanted.free (Has.new 0 1) (Has.new 1 0) (fun w1 => int_gtr true DA.out)) ?_
            refine MDerR.step (Ob.move Wanted.free (Has.new 2 0)) ?_
            refine MDerR.step (Ob.move (Wanted.on 3 0) Has.oldIs) ?_
            refine MDerR.step (Ob.move (Wanted.on 3 1) Has.oldIs) ?_
            refine MDerR.step (Ob.move (Wanted.on 3 2) Has.oldIs) ?_
            refine MDerR.step (Ob.indexV (Wanted.on 3 3) (Has.new 5 1) (Has.new 6 0) (fun w1 => index_row hjn)) ?_
            refine MDerR.step (Ob.loadV (Wanted.on 3 4) (Has.new 7 0) (fun w1 hb1 => load_int hb1 CA.out)) ?_
            refine MDerR.step (Ob.move (Wanted.on 3 5) Has.oldIs) ?_
            refine MDerR.step (Ob.move (Wanted.on 3 6) Has.oldIs) ?_
            refine MDerR.step (Ob.binV (Wanted.on 3 7) (Has.new 10 0) (Has.cst _) (fun w1 => int_sub1 hjp hj6)) ?_
            refine MDerR.step (Ob.indexV (Wanted.on 3 8) (Has.new 9 2) (Has.new 11 0) (fun w1 => index_row hpn)) ?_
            refine MDerR.step (Ob.loadV (Wanted.on 3 9) (Has.new 12 0) (fun w1 hb1 => load_int hb1 CBB.out)) ?_
            refine MDerR.step (Ob.callF2 (Wanted.on 3 10) (Has.new 4 9) (Has.new 8 5) (Has.new 13 0) EN.out (fun w1 hb1 => CC.out w1 hb1)) ?_
            refine MDerR.step (Ob.binV (Wanted.on 3 11) (Has.new 14 0) (Has.cst _) (fun w1 => int_lss true HD.out)) ?_
            refine MDerR.step (Ob.pickT Wanted.free (Has.new 3 12) (Has.new 15 0)) ?_
            simp only [MDerR, dstsOf, List.map, EndM, List.reverse_cons, List.reverse_nil, List.nil_append, List.cons_append]
            intro wE hE
            iterate 17 (rintro _ rfl)
            simp only [Act.put, List.setIfInBounds_toArray, List.set_cons_zero, List.set_cons_succ]
            have HE := Lib.hid hE
            have hrow := I.out.row.mono hE
            have ca := hrow.drew.cell j hjn
            have cb := hrow.drew.cell jp hpn
            have fa := hrow.drew.frz j hjn
            have fb := hrow.drew.frz jp hpn
            obtain ⟨u, cc⟩ := hrow.drew.between hjn hpn (.int .i64 y)
            have hs := hrow.drew.swap hjn hpn
            rw [← HX.out] at ca hs
            rw [← HY.out] at cb hs
            rw [← hjp, rot_down k (by omega), hjp] at hs
            have hb2 := I.out.bel.trans ((hE.mono (Nat.le_of_lt I.out.row.lt)).trans (swapped wE g j jp (.int .i64 y) (.int .i64 x)))
            have I2 : Hid (InsI M w g n a i jp k ((wE.drew.setCell ⟨g, j, none⟩ (.int .i64 y)).setCell ⟨g, jp, none⟩ (.int .i64 x))) := Lib.hid ⟨by omega, by omega, hb2, hs, fun p h1 h2 => by
              by_cases e : p = jp
              · rw [e, ← EX.out, ← EY.out]; exact LT.out.2 HL.out
              · exact I.out.gt p (by omega) h2⟩
            have WP := wrapP hjp hj6
            have zj : (j : Int) - 1 = (jp : Int) := by omega
            have bj : j ≤ 9223372036854775000 := by omega
            clear hrow hs hb2 hE
            go_wp2_with fail
            refine wp_region_any mixed ?_
            change wpAny _ _ _ _ _ (List.toArray [false, false, false, false, false, false, false, false, false, false, false, false, false, false, false, false, false, false]) _ (World.drew _)
            refine take_pure (i := 0) rfl rfl (by kernel_rfl) (fun _ _ _ h => h) (px_move (v := (.slice (some ⟨g, 0, none⟩) n c)) rfl) ?_
            simp only [Act.put, List.setIfInBounds_toArray, List.set_cons_zero, List.set_cons_succ]
            refine take_pure (i := 1) rfl rfl (by kernel_rfl) (fun _ _ _ h => h) (px_move (v := (.int .i64 ((j : Nat) : Int))) rfl) ?_
            simp only [Act.put, List.setIfInBounds_toArray, List.set_cons_zero, List.set_cons_succ]
            refine take_pure (i := 2) rfl rfl (by kernel_rfl) (fun _ _ _ h => h) (px_move (v := (.slice (some ⟨g, 0, none⟩) n c)) rfl) ?_
            simp only [Act.put, List.setIfInBounds_toArray, List.set_cons_zero, List.set_cons_succ]
            refine take_pure (i := 3) rfl rfl (by kernel_rfl) (fun _ _ _ h => h) (px_move (v := (.int .i64 ((j : Nat) : Int))) rfl) ?_
            simp only [Act.put, List.setIfInBounds_toArray, List.set_cons_zero, List.set_cons_succ]
            refine take_pure (i := 4) rfl rfl (by kernel_rfl) (fun _ _ _ h => h) (px_sub rfl rfl WP und_int) ?_
            simp only [Act.put, List.setIfInBounds_toArray, List.set_cons_zero, List.set_cons_succ]
            refine take_pure (i := 5) rfl rfl (by kernel_rfl) (fun _ _ _ h => h) (px_move (v := (.slice (some ⟨g, 0, none⟩) n c)) rfl) ?_
            simp only [Act.put, List.setIfInBounds_toArray, List.set_cons_zero, List.set_cons_succ]
            refine take_pure (i := 6) rfl rfl (by kernel_rfl) (fun _ _ _ h => h) (px_move (v := (.int .i64 ((j : Nat) : Int))) rfl) ?_
            simp only [Act.put, List.setIfInBounds_toArray, List.set_cons_zero, List.set_cons_succ]
            refine take_pure (i := 7) rfl rfl (by kernel_rfl) (fun _ _ _ h => h) (px_sub rfl rfl WP und_int) ?_
            simp only [Act.put, List.setIfInBounds_toArray, List.set_cons_zero, List.set_cons_succ]
            refine take_pure (i := 8) rfl rfl (by kernel_rfl) (fun _ _ _ h => h) (px_index rfl rfl hpn) ?_
            simp only [Act.put, List.setIfInBounds_toArray, List.set_cons_zero, List.set_cons_succ]
            refine take_pure (i := 10) rfl rfl (by kernel_rfl) (fun _ _ _ h => h) (px_move (v := (.slice (some ⟨g, 0, none⟩) n c)) rfl) ?_
            simp only [Act.put, List.setIfInBounds_toArray, List.set_cons_zero, List.set_cons_succ]
            refine take_pure (i := 11) rfl rfl (by kernel_rfl) (fun _ _ _ h => h) (px_move (v := (.int .i64 ((j : Nat) : Int))) rfl) ?_
            simp only [Act.put, List.setIfInBounds_toArray, List.set_cons_zero, List.set_cons_succ]
            refine take_pure (i := 12) rfl rfl (by kernel_rfl) (fun _ _ _ h => h) (px_index rfl rfl hjn) ?_
            simp only [Act.put, List.setIfInBounds_toArray, List.set_cons_zero, List.set_cons_succ]
            refine take_two (i := 9) (j := 13) (by kernel_rfl) (by kernel_rfl) (by kernel_rfl) (by decide) (by decide) rfl rfl rfl rfl rfl rfl (px_load rfl cb) (px_load rfl ca) (px_load rfl ca) (px_load rfl cb) ?_
            simp only [Act.put, List.setIfInBounds_toArray, List.set_cons_zero, List.set_cons_succ]
            refine take_pure (i := 14) rfl rfl (by kernel_rfl) (fun _ _ _ h => h) (px_index rfl rfl hjn) ?_
            simp only [Act.put, List.setIfInBounds_toArray, List.set_cons_zero, List.set_cons_succ]
            refine wpAny_next (i := 15) (by kernel_rfl) rfl rfl ?_
            refine wp_skip (px_store rfl rfl ca fa) ?_
            change wpAny _ _ _ _ _ _ (Act.put _ none undef) _
            simp only [Act.put]
            refine take_pure (i := 16) rfl rfl (by kernel_rfl) (fun _ _ _ h => h) (px_index rfl rfl hpn) ?_
            simp only [Act.put, List.setIfInBounds_toArray, List.set_cons_zero, List.set_cons_succ]
            refine wpAny_next (i := 17) (by kernel_rfl) rfl rfl ?_
            refine wp_skip (px_store rfl rfl cc ((World.frozen?_setCell _ _ _ _).trans fb)) ?_
            change wpAny _ _ _ _ _ _ (Act.put _ none undef) _
            simp only [Act.put]
            refine ⟨by kernel_rfl, ?_⟩
            generalize (wE.drew.setCell ⟨g, j, none⟩ (.int .i64 y)).setCell ⟨g, jp, none⟩ (.int .i64 x) = w2 at I2 ⊢
            clear ca cb fa fb cc WP
            go_wp2
            go_roundw
            case rel => exact ⟨jp, rfl, I2⟩
            case measure => simp [intOf]; omega
          · have hd : decide (cmpJ (M x) (M y) < 0) = false := decide_eq_false (fun e => hl (cmpJ_lt.1 e))
            have HD := Lib.hid hd
            have O2 : Hid (InsO M w g n a b (i + 1) f (rot k j i (i + 1)) wr) := Lib.hid (O.out.out I.out HLT.out (.inr (by
              have e : j - 1 = jp := by omega
              rw [e, ← EX.out, ← EY.out]; exact FO.out.2 hl)))
            have HL := Lib.hid hl
            have O3 : ∀ w3, Below wr.heap.size wr w3 → InsO M w g n a b (i + 1) f (rot k j i (i + 1)) w3 := fun w3 hb3 => ⟨O2.out.lo, O2.out.hi, O2.out.bel.trans (hb3.mono (Nat.le_of_lt O2.out.row.lt)), O2.out.row.mono hb3, O2.out.re, O2.out.srt⟩
            have O4 := Lib.hid O3
            clear hd hl O3
            go_wp2_with fail
            refine wp_region_M mixed (by kernel_rfl) ?_
            refine MDerR.step (Ob.move Wanted.free Has.oldIs) ?_
            refine MDerR.step (Ob.move Wanted.free Has.oldIs) ?_
            refine MDerR.step (Ob.binV Wanted.free (Has.new 0 1) (Has.new 1 0) (fun w1 => int_gtr true DA.out)) ?_
            refine MDerR.step (Ob.move Wanted.free (Has.new 2 0)) ?_
            refine MDerR.step (Ob.move (Wanted.on 3 0) Has.oldIs) ?_
            refine MDerR.step (Ob.move (Wanted.on 3 1) Has.oldIs) ?_
            refine MDerR.step (Ob.move (Wanted.on 3 2) Has.oldIs) ?_
            refine MDerR.step (Ob.indexV (Wanted.on 3 3) (Has.new 5 1) (Has.new 6 0) (fun w1 => index_row hjn)) ?_
            refine MDerR.step (Ob.loadV (Wanted.on 3 4) (Has.new 7 0) (fun w1 hb1 => load_int hb1 CA.out)) ?_
            refine MDerR.step (Ob.move (Wanted.on 3 5) Has.oldIs) ?_
            refine MDerR.step (Ob.move (Wanted.on 3 6) Has.oldIs) ?_
            refine MDerR.step (Ob.binV (Wanted.on 3 7) (Has.new 10 0) (Has.cst _) (fun w1 => int_sub1 hjp hj6)) ?_
            refine MDerR.step (Ob.indexV (Wanted.on 3 8) (Has.new 9 2) (Has.new 11 0) (fun w1 => index_row hpn)) ?_
            refine MDerR.step (Ob.loadV (Wanted.on 3 9) (Has.new 12 0) (fun w1 hb1 => load_int hb1 CBB.out)) ?_
            refine MDerR.step (Ob.callF2 (Wanted.on 3 10) (Has.new 4 9) (Has.new 8 5) (Has.new 13 0) EN.out (fun w1 hb1 => CC.out w1 hb1)) ?_
            refine MDerR.step (Ob.binV (Wanted.on 3 11) (Has.new 14 0) (Has.cst _) (fun w1 => int_lss false HD.out)) ?_
            refine MDerR.step (Ob.pickT Wanted.free (Has.new 3 12) (Has.new 15 0)) ?_
            simp only [MDerR, dstsOf, List.map, EndM, List.reverse_cons, List.reverse_nil, List.nil_append, List.cons_append]
            intro wE hE
            iterate 17 (rintro _ rfl)
            simp only [Act.put, List.setIfInBounds_toArray, List.set_cons_zero, List.set_cons_succ]
            have O5 := Lib.hid (O4.out _ hE)
            clear O4 hE
            go_wp2
            go_roundw
            case rel => exact ⟨i + 1, _, by simp, O5⟩
            case measure => have := HLT.out; simp [intOf]; omega
        · have d0 : decide ((a : Int) < (j : Int)) = false := decide_eq_false (by omega)
          have DA := Lib.hid d0
          have O2 : Hid (InsO M w g n a b (i + 1) f (rot k j i (i + 1)) wr) := Lib.hid (O.out.out I.out HLT.out (.inl (by omega)))
          have O3 : ∀ w3, Below wr.heap.size wr w3 → InsO M w g n a b (i + 1) f (rot k j i (i + 1)) w3 := fun w3 hb3 => ⟨O2.out.lo, O2.out.hi, O2.out.bel.trans (hb3.mono (Nat.le_of_lt O2.out.row.lt)), O2.out.row.mono hb3, O2.out.re, O2.out.srt⟩
          have O4 := Lib.hid O3
          clear d0 O3 hlt
          go_wp2_with fail
          refine wp_region_M mixed (by kernel_rfl) ?_
          refine MDerR.step (Ob.move Wanted.free Has.oldIs) ?_
          refine MDerR.step (Ob.move Wanted.free Has.oldIs) ?_
          refine MDerR.step (Ob.binV Wanted.free (Has.new 0 1) (Has.new 1 0) (fun w1 => int_gtr false DA.out)) ?_
          refine MDerR.step (Ob.move Wanted.free (Has.new 2 0)) ?_
          refine MDerR.step (Ob.off 3 0) ?_
          refine MDerR.step (Ob.off 3 1) ?_
          refine MDerR.step (Ob.off 3 2) ?_
          refine MDerR.step (Ob.off 3 3) ?_
          refine MDerR.step (Ob.off 3 4) ?_
          refine MDerR.step (Ob.off 3 5) ?_
          refine MDerR.step (Ob.off 3 6) ?_
          refine MDerR.step (Ob.off 3 7) ?_
          refine MDerR.step (Ob.off 3 8) ?_
          refine MDerR.step (Ob.off 3 9) ?_
          refine MDerR.step (Ob.off 3 10) ?_
          refine MDerR.step (Ob.off 3 11) ?_
          refine MDerR.step (Ob.pickF Wanted.free (Has.new 3 12) (Has.cst _)) ?_
          simp only [MDerR, dstsOf, List.map, EndM, List.reverse_cons, List.reverse_nil, List.nil_append, List.cons_append]
          intro wE hE
          iterate 17 (rintro _ rfl)
          simp only [Act.put, List.setIfInBounds_toArray, List.set_cons_zero, List.set_cons_succ]
          have O5 := Lib.hid (O4.out _ hE)
          clear O4 hE
          go_wp2
          go_roundw
          case rel => exact ⟨i + 1, _, by simp, O5⟩
          case measure => have := HLT.out; simp [intOf]; omega
    · have hO := O.out
      have fin : RowI wr g n k ∧ Re f k a b ∧ Srt (mlt M) k a b := by
        rcases hO.hi with e | ⟨e, rfl⟩
        · have : i = b := by omega
          subst this; exact ⟨hO.row, hO.re, hO.srt⟩
        · exact ⟨hO.row, Re.refl _ _ _, fun x y h1 h2 h3 => by have := HAB.out; have := hO.lo; omega⟩
      have FIN := Lib.hid fin
      clear hO fin
      go_wp2
      refine bodyPost_ret (v := .tuple #[]) (by simp [results, Tryz.results37, go_sem]) rfl ?_
      exact ⟨rfl, O.out.bel, k, FIN.out⟩
end Go.Proofs.YtjddelmhbafelaaGreatDoor

/-
  slices.symMergeCmpFunc at numbers, where one of the halves has one number.
-/
namespace Go.Proofs.YtjddelmhbafelaaGreatDoor
open Go.RowKit Ls
/-- What a search in the second half knows: of the numbers in [m, b) those before i are less than v, those from j on greater. -/
structure Find (M : Int → Int) (v : Int) (k : Nat → Int) (lo hi i j : Nat) : Prop where
  a : lo ≤ i
  b : i ≤ j
  c : j ≤ hi
  less : ∀ p, lo ≤ p → p < i → mlt M (k p) v
  more : ∀ p, j ≤ p → p < hi → mlt M v (k p)
theorem Find.up {M : Int → Int} {v : Int} {k : Nat → Int} {lo hi i j h : Nat} (F : Find M v k lo hi i j) (hs : Srt (mlt M) k lo hi) (h1 : i ≤ h) (h2 : h < j) (hl : mlt M (k h) v) : Find M v k lo hi (h + 1) j :=
  ⟨by have := F.a; omega, h2, F.c, fun p p1 p2 => by
    rcases Nat.lt_or_ge p h with q | q
    · exact (mlt_lin M).trans (hs p h p1 q (by have := F.c; omega)) hl
    · have : p = h := by omega
      rw [this]; exact hl, F.more⟩
theorem Find.down {M : Int → Int} {v : Int} {k : Nat → Int} {lo hi i j h : Nat} (F : Find M v k lo hi i j) (hs : Srt (mlt M) k lo hi) (h1 : i ≤ h) (h2 : h < j) (hl : mlt M v (k h)) : Find M v k lo hi i h :=
  ⟨F.a, h1, by have := F.c; omega, F.less, fun p p1 p2 => by
    rcases Nat.lt_or_ge h p with q | q
    · exact (mlt_lin M).trans hl (hs h p (by have := F.a; omega) q p2)
    · have : p = h := by omega
      rw [this]; exact hl⟩
theorem Find.done {M : Int → Int} {v : Int} {k : Nat → Int} {lo hi i : Nat} (F : Find M v k lo hi i i) : i = hi ∨ mlt M v (k i) := by
  have := F.c
  by_cases e : i = hi
  · exact .inl e
  · exact .inr (F.more i (Nat.le_refl _) (by omega))
set_option maxRecDepth 100000 in
set_option maxHeartbeats 8000000 in
theorem cMergeL {M : Int → Int} {N : Nat} {φ : FuncId} {q : Value} {w0 w : World} {g n c a b : Nat} {f : Nat → Int} (hc : CmpOK M N φ q g w0) (hw : Below g w0 w) (h : RowI w g n f) (hb : a + 1 < b) (hbn : b ≤ n) (hn : n ≤ 1000) (hv : Oks N n f)
    (hs : Srt (mlt M) f (a + 1) b) (hx : Cross f a (a + 1) b) :
    Calls Tryz.prog 38 #[.slice (some ⟨g, 0, none⟩) n c, .int .i64 a, .int .i64 ((a + 1 : Nat) : Int), .int .i64 b, .func (.func φ) #[] #[q]] w (RetB g w (fun w' => ∃ k, RowI w' g n k ∧ Re f k a b ∧ Srt (mlt M) k a b)) := by
  obtain ⟨m, hm⟩ : ∃ m, m = a + 1 := ⟨_, rfl⟩
  have ST : Hid (Find M (f a) f m b m b) := Lib.hid ⟨Nat.le_refl _, by omega, Nat.le_refl _, fun p h1 h2 => by omega, fun p h1 h2 => by omega⟩
  rw [← hm] at hs hx hb ⊢
  have z1 : (m : Int) - (a : Int) = 1 := by omega
  have HC := Lib.hid hc; have HW := Lib.hid hw; have H := Lib.hid h; have HB := Lib.hid hbn; have HN := Lib.hid hn; have HV := Lib.hid hv; have HS := Lib.hid hs; have HX := Lib.hid hx; have HM := Lib.hid hm; have HMB := Lib.hid hb
  have ba : a ≤ 1000 := by omega
  have bm : m ≤ 1000 := by omega
  have bb : b ≤ 1000 := by omega
  clear hc hw h hb hbn hn hv hs hx hm
  go_enter Tryz.func38, Tryz.ntmps38
  go_wp2
  clear z1
  go_loopw [10, 11] (fun u v wr => ∃ i j : Nat, u = .int .i64 i ∧ v = .int .i64 j ∧ Below w.heap.size w wr ∧ Hid (Find M (f a) f m b i j)) (fun u v _ => (intOf v).toNat - (intOf u).toNat)
  case atStart => exact ⟨m, b, rfl, rfl, Below.refl _ _, ST⟩
  case round =>
    clear ST
    obtain ⟨i, j, rfl, rfl, hbw, FI⟩ := hrel
    have HBW := Lib.hid hbw
    have bi : i ≤ 1000 := by have := FI.out.b; have := FI.out.c; omega
    have bj : j ≤ 1000 := by have := FI.out.c; omega
    clear hbw
    by_cases hlt : i < j
    · obtain ⟨h, hh⟩ : ∃ h, h = (i + j) / 2 := ⟨_, rfl⟩
      have zh : ((i : Int) + (j : Int)) / 2 = (h : Int) := by omega
      have hi1 : i ≤ h := by omega
      have hj1 : h < j := by omega
      have nb := HB.out
      have lo := FI.out.a; have hi := FI.out.c
      have hmm := HM.out
      have hhn : h < n := by omega
      have han : a < n := by omega
      obtain ⟨x, hx⟩ : ∃ x, x = f h := ⟨_, rfl⟩
      obtain ⟨y, hy⟩ : ∃ y, y = f a := ⟨_, rfl⟩
      have hyx : y < x := by rw [hx, hy]; exact HX.out a h (Nat.le_refl _) (by omega) (by omega) (by omega)
      have vx := HV.out h hhn; have vy := HV.out a han
      have R := H.out.mono HBW.out
      have ca := R.cell h hhn; have cb := R.cell a han
      rw [← hx] at ca vx
      rw [← hy] at cb vy
      have CA := Lib.hid ca; have CB := Lib.hid cb
      have EN := Lib.hid HC.out.enters
      have CC := Lib.hid (fun w1 (hb1 : Below wr.heap.size wr w1) => HC.out.calls w1 ((HW.out.trans (HBW.out.mono (Nat.le_of_lt H.out.lt))).trans (hb1.mono (Nat.le_of_lt R.lt))) x y vx.1 vx.2 vy.1 vy.2)
      have LT := Lib.hid (mlt_back (M := M) hyx); have FO := Lib.hid (mlt_fore (M := M) hyx)
      have HX1 := Lib.hid hx; have HY1 := Lib.hid hy; have HH1 := Lib.hid hi1; have HH2 := Lib.hid hj1; have HLT := Lib.hid hlt
      have bh : h ≤ 1000 := by omega
      clear R ca cb vx vy hyx nb lo hi hmm hh hx hy
      by_cases hl : M x < M y
      · have HD := Lib.hid (show decide (cmpJ (M x) (M y) < 0) = true from decide_eq_true (cmpJ_lt.2 hl))
        have F2 : Hid (Find M (f a) f m b (h + 1) j) := Lib.hid (FI.out.up HS.out HH1.out HH2.out (by rw [← HX1.out, ← HY1.out]; exact LT.out.2 hl))
        clear hl hlt hi1 hj1
        go_wp2_with fail
        refine wp_region_M mixed (by kernel_rfl) ?_
        refine MDerR.step (Ob.move Wanted.free Has.oldIs) ?_
        refine MDerR.step (Ob.move Wanted.free Has.oldIs) ?_
        refine MDerR.step (Ob.move Wanted.free Has.oldIs) ?_
        refine MDerR.step (Ob.indexV Wanted.free (Has.new 1 1) (Has.new 2 0) (fun w1 => index_row hhn)) ?_
        refine MDerR.step (Ob.loadV Wanted.free (Has.new 3 0) (fun w1 hb1 => load_int hb1 CA.out)) ?_
        refine MDerR.step (Ob.move Wanted.free Has.oldIs) ?_
        refine MDerR.step (Ob.move Wanted.free Has.oldIs) ?_
        refine MDerR.step (Ob.indexV Wanted.free (Has.new 5 1) (Has.new 6 0) (fun w1 => index_row han)) ?_
        refine MDerR.step (Ob.loadV Wanted.free (Has.new 7 0) (fun w1 hb1 => load_int hb1 CB.out)) ?_
        refine MDerR.step (Ob.callF2 Wanted.free (Has.new 0 8) (Has.new 4 4) (Has.new 8 0) EN.out (fun w1 hb1 => CC.out w1 hb1)) ?_
        refine MDerR.step (Ob.binV Wanted.free (Has.new 9 0) (Has.cst _) (fun w1 => int_lss true HD.out)) ?_
        simp only [MDerR, dstsOf, List.map, EndM, List.reverse_cons, List.reverse_nil, List.nil_append, List.cons_append]
        intro wE hE
        iterate 11 (rintro _ rfl)
        simp only [Act.put, List.setIfInBounds_toArray, List.set_cons_zero, List.set_cons_succ]
        have HE := Lib.hid (HBW.out.le hE)
        clear hE
        go_wp2
        go_roundw
        case rel => exact ⟨h + 1, j, by simp, rfl, HE.out, F2⟩
        case measure => have := HH1.out; have := HH2.out; simp [intOf]; omega
      · have HD := Lib.hid (show decide (cmpJ (M x) (M y) < 0) = false from decide_eq_false (fun e => hl (cmpJ_lt.1 e)))
        have F2 : Hid (Find M (f a) f m b i h) := Lib.hid (FI.out.down HS.out HH1.out HH2.out (by rw [← HX1.out, ← HY1.out]; exact FO.out.2 hl))
        clear hl hlt hi1 hj1
        go_wp2_with fail
        refine wp_region_M mixed (by kernel_rfl) ?_
        refine MDerR.step (Ob.move Wanted.free Has.oldIs) ?_
        refine MDerR.step (Ob.move Wanted.free Has.oldIs) ?_
        refine MDerR.step (Ob.move Wanted.free Has.oldIs) ?_
        refine MDerR.step (Ob.indexV Wanted.free (Has.new 1 1) (Has.new 2 0) (fun w1 => index_row hhn)) ?_
        refine MDerR.step (Ob.loadV Wanted.free (Has.new 3 0) (fun w1 hb1 => load_int hb1 CA.out)) ?_
        refine MDerR.step (Ob.move Wanted.free Has.oldIs) ?_
        refine MDerR.step (Ob.move Wanted.free Has.oldIs) ?_
        refine MDerR.step (Ob.indexV Wanted.free (Has.new 5 1) (Has.new 6 0) (fun w1 => index_row han)) ?_
        refine MDerR.step (Ob.loadV Wanted.free (Has.new 7 0) (fun w1 hb1 => load_int hb1 CB.out)) ?_
        refine MDerR.step (Ob.callF2 Wanted.free (Has.new 0 8) (Has.new 4 4) (Has.new 8 0) EN.out (fun w1 hb1 => CC.out w1 hb1)) ?_
        refine MDerR.step (Ob.binV Wanted.free (Has.new 9 0) (Has.cst _) (fun w1 => int_lss false HD.out)) ?_
        simp only [MDerR, dstsOf, List.map, EndM, List.reverse_cons, List.reverse_nil, List.nil_append, List.cons_append]
        intro wE hE
        iterate 11 (rintro _ rfl)
        simp only [Act.put, List.setIfInBounds_toArray, List.set_cons_zero, List.set_cons_succ]
        have HE := Lib.hid (HBW.out.le hE)
        clear hE
        go_wp2
        go_roundw
        case rel => exact ⟨i, h, rfl, rfl, HE.out, F2⟩
        case measure => have := HH1.out; have := HH2.out; simp [intOf]; omega
    · have hij : i = j := by have := FI.out.b; omega
      subst hij
      obtain ⟨ip, hip⟩ : ∃ ip, ip + 1 = i := ⟨i - 1, by have := FI.out.a; have := HM.out; omega⟩
      have zi : (i : Int) - 1 = (ip : Int) := by omega
      have hai : a ≤ ip := by have := FI.out.a; have := HM.out; omega
      have hinn : i ≤ n := by have := FI.out.c; have := HB.out; omega
      have ST2 : RowI wr g n (rot f a (a + 1) (a + 1)) := by rw [rot_right f (by omega)]; exact H.out.mono HBW.out
      have ST2' := Lib.hid ST2
      have HIP := Lib.hid hip; have HAI := Lib.hid hai; have HIN := Lib.hid hinn
      have bip : ip ≤ 1000 := by omega
      clear ST2 hip hai hlt bj
      go_wp2
      go_loopw [13] (fun u wr2 => ∃ k : Nat, u = .int .i64 k ∧ a ≤ k ∧ k ≤ ip ∧ Below g w wr2 ∧ Hid (RowI wr2 g n (rot f a (a + 1) (k + 1)))) (fun u _ => ip - (intOf u).toNat)
      case atStart => exact ⟨a, rfl, Nat.le_refl _, HAI.out, HBW.out.mono (Nat.le_of_lt H.out.lt), ST2'⟩
      case round =>
        clear ST2'
        obtain ⟨k, rfl, hka, hkip, hbw2, ROW⟩ := hrel
        have HB2 := Lib.hid hbw2
        clear hbw2
        by_cases hlt : k < ip
        · obtain ⟨k1, hk1⟩ : ∃ k1, k1 = k + 1 := ⟨_, rfl⟩
          have hkn : k < n := by have := HIP.out; have := HIN.out; omega
          have hk1n : k1 < n := by have := HIP.out; have := HIN.out; omega
          have KP : IntKind.i64.wrap ((k : Int) + 1) = (k1 : Int) := by rw [IntKind.wrap_i64]; omega
          obtain ⟨x, hx⟩ : ∃ x, x = rot f a (a + 1) (k + 1) k := ⟨_, rfl⟩
          obtain ⟨y, hy⟩ : ∃ y, y = rot f a (a + 1) (k + 1) k1 := ⟨_, rfl⟩
          have ca := ROW.out.drew.cell k hkn
          have cb := ROW.out.drew.cell k1 hk1n
          have fa := ROW.out.drew.frz k hkn
          have fb := ROW.out.drew.frz k1 hk1n
          obtain ⟨u, cc⟩ := ROW.out.drew.between hkn hk1n (.int .i64 y)
          have hs := ROW.out.drew.swap hkn hk1n
          rw [← hx] at ca hs
          rw [← hy] at cb hs
          rw [hk1, rot_up f hka, ← hk1] at hs
          have hb2 := HB2.out.trans (swapped wr g k k1 (.int .i64 y) (.int .i64 x))
          have bk : k ≤ 1000 := by omega
          have HLT := Lib.hid hlt; have HS2 := Lib.hid hs; have HBB := Lib.hid hb2; have HKA := Lib.hid hka
          clear hx hy hs hb2 hk1 hka hkip
          go_wp2_with fail
          refine wp_region_any mixed ?_
          change wpAny _ _ _ _ _ (List.toArray [false, false, false, false, false, false, false, false, false, false, false, false, false, false, false, false, false, false]) _ (World.drew _)
          refine take_pure (i := 0) rfl rfl (by kernel_rfl) (fun _ _ _ h => h) (px_move (v := (.slice (some ⟨g, 0, none⟩) n c)) rfl) ?_
          simp only [Act.put, List.setIfInBounds_toArray, List.set_cons_zero, List.set_cons_succ]
          refine take_pure (i := 1) rfl rfl (by kernel_rfl) (fun _ _ _ h => h) (px_move (v := (.int .i64 ((k : Nat) : Int))) rfl) ?_
          simp only [Act.put, List.setIfInBounds_toArray, List.set_cons_zero, List.set_cons_succ]
          refine take_pure (i := 2) rfl rfl (by kernel_rfl) (fun _ _ _ h => h) (px_move (v := (.slice (some ⟨g, 0, none⟩) n c)) rfl) ?_
          simp only [Act.put, List.setIfInBounds_toArray, List.set_cons_zero, List.set_cons_succ]
          refine take_pure (i := 3) rfl rfl (by kernel_rfl) (fun _ _ _ h => h) (px_move (v := (.int .i64 ((k : Nat) : Int))) rfl) ?_
          simp only [Act.put, List.setIfInBounds_toArray, List.set_cons_zero, List.set_cons_succ]
          refine take_pure (i := 4) rfl rfl (by kernel_rfl) (fun _ _ _ h => h) (px_add rfl rfl KP und_int) ?_
          simp only [Act.put, List.setIfInBounds_toArray, List.set_cons_zero, List.set_cons_succ]
          refine take_pure (i := 5) rfl rfl (by kernel_rfl) (fun _ _ _ h => h) (px_move (v := (.slice (some ⟨g, 0, none⟩) n c)) rfl) ?_
          simp only [Act.put, List.setIfInBounds_toArray, List.set_cons_zero, List.set_cons_succ]
          refine take_pure (i := 6) rfl rfl (by kernel_rfl) (fun _ _ _ h => h) (px_move (v := (.int .i64 ((k : Nat) : Int))) rfl) ?_
          simp only [Act.put, List.setIfInBounds_toArray, List.set_cons_zero, List.set_cons_succ]
          refine take_pure (i := 7) rfl rfl (by kernel_rfl) (fun _ _ _ h => h) (px_add rfl rfl KP und_int) ?_
          simp only [Act.put, List.setIfInBounds_toArray, List.set_cons_zero, List.set_cons_succ]
          refine take_pure (i := 8) rfl rfl (by kernel_rfl) (fun _ _ _ h => h) (px_index rfl rfl hk1n) ?_
          simp only [Act.put, List.setIfInBounds_toArray, List.set_cons_zero, List.set_cons_succ]
          refine take_pure (i := 10) rfl rfl (by kernel_rfl) (fun _ _ _ h => h) (px_move (v := (.slice (some ⟨g, 0, none⟩) n c)) rfl) ?_
          simp only [Act.put, List.setIfInBounds_toArray, List.set_cons_zero, List.set_cons_succ]
          refine take_pure (i := 11) rfl rfl (by kernel_rfl) (fun _ _ _ h => h) (px_move (v := (.int .i64 ((k : Nat) : Int))) rfl) ?_
          simp only [Act.put, List.setIfInBounds_toArray, List.set_cons_zero, List.set_cons_succ]
          refine take_pure (i := 12) rfl rfl (by kernel_rfl) (fun _ _ _ h => h) (px_index rfl rfl hkn) ?_
          simp only [Act.put, List.setIfInBounds_toArray, List.set_cons_zero, List.set_cons_succ]
          refine take_two (i := 9) (j := 13) (by kernel_rfl) (by kernel_rfl) (by kernel_rfl) (by decide) (by decide) rfl rfl rfl rfl rfl rfl (px_load rfl cb) (px_load rfl ca) (px_load rfl ca) (px_load rfl cb) ?_
          simp only [Act.put, List.setIfInBounds_toArray, List.set_cons_zero, List.set_cons_succ]
          refine take_pure (i := 14) rfl rfl (by kernel_rfl) (fun _ _ _ h => h) (px_index rfl rfl hkn) ?_
          simp only [Act.put, List.setIfInBounds_toArray, List.set_cons_zero, List.set_cons_succ]
          refine wpAny_next (i := 15) (by kernel_rfl) rfl rfl ?_
          refine wp_skip (px_store rfl rfl ca fa) ?_
          change wpAny _ _ _ _ _ _ (Act.put _ none undef) _
          simp only [Act.put]
          refine take_pure (i := 16) rfl rfl (by kernel_rfl) (fun _ _ _ h => h) (px_index rfl rfl hk1n) ?_
          simp only [Act.put, List.setIfInBounds_toArray, List.set_cons_zero, List.set_cons_succ]
          refine wpAny_next (i := 17) (by kernel_rfl) rfl rfl ?_
          refine wp_skip (px_store rfl rfl cc ((World.frozen?_setCell _ _ _ _).trans fb)) ?_
          change wpAny _ _ _ _ _ _ (Act.put _ none undef) _
          simp only [Act.put]
          refine ⟨by kernel_rfl, ?_⟩
          generalize (wr.drew.setCell ⟨g, k, none⟩ (.int .i64 y)).setCell ⟨g, k1, none⟩ (.int .i64 x) = w2 at HS2 HBB ⊢
          clear ca cb fa fb cc KP
          go_wp2
          go_roundw
          case rel => exact ⟨k + 1, by simp, by have := HKA.out; omega, HLT.out, HBB.out, HS2⟩
          case measure => have := HLT.out; simp [intOf]; omega
        · have hk : k = ip := by omega
          subst hk
          have fin : RowI wr g n (rot f a (a + 1) i) ∧ Re f (rot f a (a + 1) i) a b ∧ Srt (mlt M) (rot f a (a + 1) i) a b := by
            have e1 := FI.out.a; have e2 := FI.out.c; have e3 := HM.out
            refine ⟨by rw [← HIP.out]; exact ROW.out, (rot_re f (by omega) (by omega)).wide (Nat.le_refl _) e2, srt_up (mlt_lin M) (by rw [← e3]; exact HS.out) (by omega) e2 (fun p p1 p2 => FI.out.less p (by omega) p2) FI.out.done⟩
          have FIN := Lib.hid fin
          clear fin hka hkip
          go_wp2
          refine bodyPost_ret (v := .tuple #[]) (by simp [results, Tryz.results38, go_sem]) rfl ?_
          exact ⟨rfl, HB2.out, _, FIN.out⟩
end Go.Proofs.YtjddelmhbafelaaGreatDoor

/-
  slices.symMergeCmpFunc at numbers, where the second half has one number.
-/
namespace Go.Proofs.YtjddelmhbafelaaGreatDoor
open Go.RowKit Ls
set_option maxRecDepth 100000 in
set_option maxHeartbeats 8000000 in
theorem cMergeR {M : Int → Int} {N : Nat} {φ : FuncId} {q : Value} {w0 w : World} {g n c a m : Nat} {f : Nat → Int} (hc : CmpOK M N φ q g w0) (hw : Below g w0 w) (h : RowI w g n f) (ha : a + 1 < m) (hbn : m + 1 ≤ n) (hn : n ≤ 1000) (hv : Oks N n f)
    (hs : Srt (mlt M) f a m) (hx : Cross f a m (m + 1)) :
    Calls Tryz.prog 38 #[.slice (some ⟨g, 0, none⟩) n c, .int .i64 a, .int .i64 m, .int .i64 ((m + 1 : Nat) : Int), .func (.func φ) #[] #[q]] w (RetB g w (fun w' => ∃ k, RowI w' g n k ∧ Re f k a (m + 1) ∧ Srt (mlt M) k a (m + 1))) := by
  obtain ⟨b, hm⟩ : ∃ b, b = m + 1 := ⟨_, rfl⟩
  have ST : Hid (Find M (f m) f a m a m) := Lib.hid ⟨Nat.le_refl _, by omega, Nat.le_refl _, fun p h1 h2 => by omega, fun p h1 h2 => by omega⟩
  rw [← hm] at hx hbn ⊢
  have z0 : ((m : Int) - (a : Int) == 1) = false := by simp; omega
  have z1 : (b : Int) - (m : Int) = 1 := by omega
  have HC := Lib.hid hc; have HW := Lib.hid hw; have H := Lib.hid h; have HB := Lib.hid hbn; have HN := Lib.hid hn; have HV := Lib.hid hv; have HS := Lib.hid hs; have HX := Lib.hid hx; have HM := Lib.hid hm; have HMB := Lib.hid ha
  have ba : a ≤ 1000 := by omega
  have bm : m ≤ 1000 := by omega
  have bb : b ≤ 1000 := by omega
  clear hc hw h ha hbn hn hv hs hx hm
  go_enter Tryz.func38, Tryz.ntmps38
  go_wp2
  clear z1 z0
  go_loopw [14, 15] (fun u v wr => ∃ i j : Nat, u = .int .i64 i ∧ v = .int .i64 j ∧ Below w.heap.size w wr ∧ Hid (Find M (f m) f a m i j)) (fun u v _ => (intOf v).toNat - (intOf u).toNat)
  case atStart => exact ⟨a, m, rfl, rfl, Below.refl _ _, ST⟩
  case round =>
    clear ST
    obtain ⟨i, j, rfl, rfl, hbw, FI⟩ := hrel
    have HBW := Lib.hid hbw
    have bi : i ≤ 1000 := by have := FI.out.b; have := FI.out.c; omega
    have bj : j ≤ 1000 := by have := FI.out.c; omega
    clear hbw
    by_cases hlt : i < j
    · obtain ⟨h, hh⟩ : ∃ h, h = (i + j) / 2 := ⟨_, rfl⟩
      have zh : ((i : Int) + (j : Int)) / 2 = (h : Int) := by omega
      have hi1 : i ≤ h := by omega
      have hj1 : h < j := by omega
      have nb := HB.out
      have lo := FI.out.a; have hi := FI.out.c
      have hmm := HM.out
      have hhn : h < n := by omega
      have hmn : m < n := by omega
      obtain ⟨x, hx⟩ : ∃ x, x = f m := ⟨_, rfl⟩
      obtain ⟨y, hy⟩ : ∃ y, y = f h := ⟨_, rfl⟩
      have hyx : y < x := by rw [hx, hy]; exact HX.out h m (by omega) (by omega) (by omega) (by omega)
      have vx := HV.out m hmn; have vy := HV.out h hhn
      have R := H.out.mono HBW.out
      have ca := R.cell m hmn; have cb := R.cell h hhn
      rw [← hx] at ca vx
      rw [← hy] at cb vy
      have CA := Lib.hid ca; have CB := Lib.hid cb
      have EN := Lib.hid HC.out.enters
      have CC := Lib.hid (fun w1 (hb1 : Below wr.heap.size wr w1) => HC.out.calls w1 ((HW.out.trans (HBW.out.mono (Nat.le_of_lt H.out.lt))).trans (hb1.mono (Nat.le_of_lt R.lt))) x y vx.1 vx.2 vy.1 vy.2)
      have LT := Lib.hid (mlt_back (M := M) hyx); have FO := Lib.hid (mlt_fore (M := M) hyx)
      have HX1 := Lib.hid hx; have HY1 := Lib.hid hy; have HH1 := Lib.hid hi1; have HH2 := Lib.hid hj1; have HLT := Lib.hid hlt
      have bh : h ≤ 1000 := by omega
      clear R ca cb vx vy hyx nb lo hi hmm hh hx hy
      by_cases hl : M x < M y
      · have HD := Lib.hid (show decide (cmpJ (M x) (M y) < 0) = true from decide_eq_true (cmpJ_lt.2 hl))
        have F2 : Hid (Find M (f m) f a m i h) := Lib.hid (FI.out.down HS.out HH1.out HH2.out (by rw [← HX1.out, ← HY1.out]; exact LT.out.2 hl))
        clear hl hlt hi1 hj1
        go_wp2_with fail
        refine wp_region_M mixed (by kernel_rfl) ?_
        refine MDerR.step (Ob.move Wanted.free Has.oldIs) ?_
        refine MDerR.step (Ob.move Wanted.free Has.oldIs) ?_
        refine MDerR.step (Ob.move Wanted.free Has.oldIs) ?_
        refine MDerR.step (Ob.indexV Wanted.free (Has.new 1 1) (Has.new 2 0) (fun w1 => index_row hmn)) ?_
        refine MDerR.step (Ob.loadV Wanted.free (Has.new 3 0) (fun w1 hb1 => load_int hb1 CA.out)) ?_
        refine MDerR.step (Ob.move Wanted.free Has.oldIs) ?_
        refine MDerR.step (Ob.move Wanted.free Has.oldIs) ?_
        refine MDerR.step (Ob.indexV Wanted.free (Has.new 5 1) (Has.new 6 0) (fun w1 => index_row hhn)) ?_
        refine MDerR.step (Ob.loadV Wanted.free (Has.new 7 0) (fun w1 hb1 => load_int hb1 CB.out)) ?_
        refine MDerR.step (Ob.callF2 Wanted.free (Has.new 0 8) (Has.new 4 4) (Has.new 8 0) EN.out (fun w1 hb1 => CC.out w1 hb1)) ?_
        refine MDerR.step (Ob.binV Wanted.free (Has.new 9 0) (Has.cst _) (fun w1 => int_lss true HD.out)) ?_
        refine MDerR.step (Ob.not Wanted.free (Has.new 10 0)) ?_
        simp only [MDerR, dstsOf, List.map, EndM, List.reverse_cons, List.reverse_nil, List.nil_append, List.cons_append]
        intro wE hE
        iterate 12 (rintro _ rfl)
        simp only [Act.put, List.setIfInBounds_toArray, List.set_cons_zero, List.set_cons_succ]
        have HE := Lib.hid (HBW.out.le hE)
        clear hE
        go_wp2
        go_roundw
        case rel => exact ⟨i, h, rfl, rfl, HE.out, F2⟩
        case measure => have := HH1.out; have := HH2.out; simp [intOf]; omega
      · have HD := Lib.hid (show decide (cmpJ (M x) (M y) < 0) = false from decide_eq_false (fun e => hl (cmpJ_lt.1 e)))
        have F2 : Hid (Find M (f m) f a m (h + 1) j) := Lib.hid (FI.out.up HS.out HH1.out HH2.out (by rw [← HX1.out, ← HY1.out]; exact FO.out.2 hl))
        clear hl hlt hi1 hj1
        go_wp2_with fail
        refine wp_region_M mixed (by kernel_rfl) ?_
        refine MDerR.step (Ob.move Wanted.free Has.oldIs) ?_
        refine MDerR.step (Ob.move Wanted.free Has.oldIs) ?_
        refine MDerR.step (Ob.move Wanted.free Has.oldIs) ?_
        refine MDerR.step (Ob.indexV Wanted.free (Has.new 1 1) (Has.new 2 0) (fun w1 => index_row hmn)) ?_
        refine MDerR.step (Ob.loadV Wanted.free (Has.new 3 0) (fun w1 hb1 => load_int hb1 CA.out)) ?_
        refine MDerR.step (Ob.move Wanted.free Has.oldIs) ?_
        refine MDerR.step (Ob.move Wanted.free Has.oldIs) ?_
        refine MDerR.step (Ob.indexV Wanted.free (Has.new 5 1) (Has.new 6 0) (fun w1 => index_row hhn)) ?_
        refine MDerR.step (Ob.loadV Wanted.free (Has.new 7 0) (fun w1 hb1 => load_int hb1 CB.out)) ?_
        refine MDerR.step (Ob.callF2 Wanted.free (Has.new 0 8) (Has.new 4 4) (Has.new 8 0) EN.out (fun w1 hb1 => CC.out w1 hb1)) ?_
        refine MDerR.step (Ob.binV Wanted.free (Has.new 9 0) (Has.cst _) (fun w1 => int_lss false HD.out)) ?_
        refine MDerR.step (Ob.not Wanted.free (Has.new 10 0)) ?_
        simp only [MDerR, dstsOf, List.map, EndM, List.reverse_cons, List.reverse_nil, List.nil_append, List.cons_append]
        intro wE hE
        iterate 12 (rintro _ rfl)
        simp only [Act.put, List.setIfInBounds_toArray, List.set_cons_zero, List.set_cons_succ]
        have HE := Lib.hid (HBW.out.le hE)
        clear hE
        go_wp2
        go_roundw
        case rel => exact ⟨h + 1, j, by simp, rfl, HE.out, F2⟩
        case measure => have := HH1.out; have := HH2.out; simp [intOf]; omega
    · have hij : i = j := by have := FI.out.b; omega
      subst hij
      have him : i ≤ m := FI.out.c
      have ST2 : RowI wr g n (rot f m m (m + 1)) := by rw [rot_left f (by omega)]; exact H.out.mono HBW.out
      have ST2' := Lib.hid ST2
      have HIM := Lib.hid him
      clear ST2 him hlt bj
      go_wp2
      go_loopw [17] (fun u wr2 => ∃ k : Nat, u = .int .i64 k ∧ i ≤ k ∧ k ≤ m ∧ Below g w wr2 ∧ Hid (RowI wr2 g n (rot f k m (m + 1)))) (fun u _ => (intOf u).toNat)
      case atStart => exact ⟨m, rfl, HIM.out, Nat.le_refl _, HBW.out.mono (Nat.le_of_lt H.out.lt), ST2'⟩
      case round =>
        clear ST2'
        obtain ⟨k, rfl, hki, hkm, hbw2, ROW⟩ := hrel
        have HB2 := Lib.hid hbw2
        clear hbw2
        by_cases hlt : i < k
        · obtain ⟨k1, hk1⟩ : ∃ k1, k1 + 1 = k := ⟨k - 1, by omega⟩
          have hkn : k < n := by have := HM.out; have := HB.out; omega
          have hk1n : k1 < n := by omega
          have KP : IntKind.i64.wrap ((k : Int) - 1) = (k1 : Int) := wrapP hk1 (by omega)
          have zk : (k : Int) - 1 = (k1 : Int) := by omega
          obtain ⟨x, hx⟩ : ∃ x, x = rot f k m (m + 1) k := ⟨_, rfl⟩
          obtain ⟨y, hy⟩ : ∃ y, y = rot f k m (m + 1) k1 := ⟨_, rfl⟩
          have ca := ROW.out.drew.cell k hkn
          have cb := ROW.out.drew.cell k1 hk1n
          have fa := ROW.out.drew.frz k hkn
          have fb := ROW.out.drew.frz k1 hk1n
          obtain ⟨u, cc⟩ := ROW.out.drew.between hkn hk1n (.int .i64 y)
          have hs := ROW.out.drew.swap hkn hk1n
          rw [← hx] at ca hs
          rw [← hy] at cb hs
          rw [← hk1, rot_down f (by omega), hk1] at hs
          have hb2 := HB2.out.trans (swapped wr g k k1 (.int .i64 y) (.int .i64 x))
          have bk : k ≤ 1000 := by omega
          have bk1 : k1 ≤ 1000 := by omega
          have HK1 := Lib.hid (show i ≤ k1 by omega); have HK2 := Lib.hid (show k1 < k by omega)
          have HS2 := Lib.hid hs; have HBB := Lib.hid hb2; have HKM := Lib.hid (show k1 ≤ m by omega)
          clear hx hy hs hb2 hk1 hki hkm
          go_wp2_with fail
          refine wp_region_any mixed ?_
          change wpAny _ _ _ _ _ (List.toArray [false, false, false, false, false, false, false, false, false, false, false, false, false, false, false, false, false, false]) _ (World.drew _)
          refine take_pure (i := 0) rfl rfl (by kernel_rfl) (fun _ _ _ h => h) (px_move (v := (.slice (some ⟨g, 0, none⟩) n c)) rfl) ?_
          simp only [Act.put, List.setIfInBounds_toArray, List.set_cons_zero, List.set_cons_succ]
          refine take_pure (i := 1) rfl rfl (by kernel_rfl) (fun _ _ _ h => h) (px_move (v := (.int .i64 ((k : Nat) : Int))) rfl) ?_
          simp only [Act.put, List.setIfInBounds_toArray, List.set_cons_zero, List.set_cons_succ]
          refine take_pure (i := 2) rfl rfl (by kernel_rfl) (fun _ _ _ h => h) (px_move (v := (.slice (some ⟨g, 0, none⟩) n c)) rfl) ?_
          simp only [Act.put, List.setIfInBounds_toArray, List.set_cons_zero, List.set_cons_succ]
          refine take_pure (i := 3) rfl rfl (by kernel_rfl) (fun _ _ _ h => h) (px_move (v := (.int .i64 ((k : Nat) : Int))) rfl) ?_
          simp only [Act.put, List.setIfInBounds_toArray, List.set_cons_zero, List.set_cons_succ]
          refine take_pure (i := 4) rfl rfl (by kernel_rfl) (fun _ _ _ h => h) (px_sub rfl rfl KP und_int) ?_
          simp only [Act.put, List.setIfInBounds_toArray, List.set_cons_zero, List.set_cons_succ]
          refine take_pure (i := 5) rfl rfl (by kernel_rfl) (fun _ _ _ h => h) (px_move (v := (.slice (some ⟨g, 0, none⟩) n c)) rfl) ?_
          simp only [Act.put, List.setIfInBounds_toArray, List.set_cons_zero, List.set_cons_succ]
          refine take_pure (i := 6) rfl rfl (by kernel_rfl) (fun _ _ _ h => h) (px_move (v := (.int .i64 ((k : Nat) : Int))) rfl) ?_
          simp only [Act.put, List.setIfInBounds_toArray, List.set_cons_zero, List.set_cons_succ]
          refine take_pure (i := 7) rfl rfl (by kernel_rfl) (fun _ _ _ h => h) (px_sub rfl rfl KP und_int) ?_
          simp only [Act.put, List.setIfInBounds_toArray, List.set_cons_zero, List.set_cons_succ]
          refine take_pure (i := 8) rfl rfl (by kernel_rfl) (fun _ _ _ h => h) (px_index rfl rfl hk1n) ?_
          simp only [Act.put, List.setIfInBounds_toArray, List.set_cons_zero, List.set_cons_succ]
          refine take_pure (i := 10) rfl rfl (by kernel_rfl) (fun _ _ _ h => h) (px_move (v := (.slice (some ⟨g, 0, none⟩) n c)) rfl) ?_
          simp only [Act.put, List.setIfInBounds_toArray, List.set_cons_zero, List.set_cons_succ]
          refine take_pure (i := 11) rfl rfl (by kernel_rfl) (fun _ _ _ h => h) (px_move (v := (.int .i64 ((k : Nat) : Int))) rfl) ?_
          simp only [Act.put, List.setIfInBounds_toArray, List.set_cons_zero, List.set_cons_succ]
          refine take_pure (i := 12) rfl rfl (by kernel_rfl) (fun _ _ _ h => h) (px_index rfl rfl hkn) ?_
          simp only [Act.put, List.setIfInBounds_toArray, List.set_cons_zero, List.set_cons_succ]
          refine take_two (i := 9) (j := 13) (by kernel_rfl) (by kernel_rfl) (by kernel_rfl) (by decide) (by decide) rfl rfl rfl rfl rfl rfl (px_load rfl cb) (px_load rfl ca) (px_load rfl ca) (px_load rfl cb) ?_
          simp only [Act.put, List.setIfInBounds_toArray, List.set_cons_zero, List.set_cons_succ]
          refine take_pure (i := 14) rfl rfl (by kernel_rfl) (fun _ _ _ h => h) (px_index rfl rfl hkn) ?_
          simp only [Act.put, List.setIfInBounds_toArray, List.set_cons_zero, List.set_cons_succ]
          refine wpAny_next (i := 15) (by kernel_rfl) rfl rfl ?_
          refine wp_skip (px_store rfl rfl ca fa) ?_
          change wpAny _ _ _ _ _ _ (Act.put _ none undef) _
          simp only [Act.put]
          refine take_pure (i := 16) rfl rfl (by kernel_rfl) (fun _ _ _ h => h) (px_index rfl rfl hk1n) ?_
          simp only [Act.put, List.setIfInBounds_toArray, List.set_cons_zero, List.set_cons_succ]
          refine wpAny_next (i := 17) (by kernel_rfl) rfl rfl ?_
          refine wp_skip (px_store rfl rfl cc ((World.frozen?_setCell _ _ _ _).trans fb)) ?_
          change wpAny _ _ _ _ _ _ (Act.put _ none undef) _
          simp only [Act.put]
          refine ⟨by kernel_rfl, ?_⟩
          generalize (wr.drew.setCell ⟨g, k, none⟩ (.int .i64 y)).setCell ⟨g, k1, none⟩ (.int .i64 x) = w2 at HS2 HBB ⊢
          clear ca cb fa fb cc KP
          go_wp2
          go_roundw
          case rel => exact ⟨k1, rfl, HK1.out, HKM.out, HBB.out, HS2⟩
          case measure => have := HK2.out; simp [intOf]; omega
        · have hk : k = i := by omega
          subst hk
          have fin : RowI wr g n (rot f k m b) ∧ Re f (rot f k m b) a b ∧ Srt (mlt M) (rot f k m b) a b := by
            have e1 := FI.out.a; have e2 := FI.out.c; have e3 := HM.out
            refine ⟨by rw [e3]; exact ROW.out, (rot_re f e2 (by omega)).wide e1 (Nat.le_refl _), ?_⟩
            rw [e3]
            refine srt_down (mlt_lin M) HS.out e1 e2 ?_ (fun p p1 p2 => FI.out.more p p1 p2)
            rcases Nat.lt_or_ge a k with r | r
            · exact .inr (FI.out.less (k - 1) (by omega) (by omega))
            · exact .inl (by omega)
          have FIN := Lib.hid fin
          clear fin hki hkm
          go_wp2
          refine bodyPost_ret (v := .tuple #[]) (by simp [results, Tryz.results38, go_sem]) rfl ?_
          exact ⟨rfl, HB2.out, _, FIN.out⟩
end Go.Proofs.YtjddelmhbafelaaGreatDoor

/-
  slices.symMergeCmpFunc at numbers.
-/
namespace Go.Proofs.YtjddelmhbafelaaGreatDoor
open Go.RowKit Ls
/-- What the search for the cut knows, n being mid + m: in front of s the first half's numbers are the lesser ones, from r on the greater ones. -/
structure Cut (M : Int → Int) (f : Nat → Int) (n lo hi s r : Nat) : Prop where
  a : lo ≤ s
  b : s ≤ r
  c : r ≤ hi
  less : ∀ p, lo ≤ p → p < s → mlt M (f p) (f (n - 1 - p))
  more : ∀ p, r ≤ p → p < hi → mlt M (f (n - 1 - p)) (f p)
theorem Cut.up {M : Int → Int} {f : Nat → Int} {a m b n lo hi s r c : Nat} (C : Cut M f n lo hi s r) (hA : Srt (mlt M) f a m) (hB : Srt (mlt M) f m b) (h1 : s ≤ c) (h2 : c < r) (la : a ≤ lo) (hm : hi ≤ m) (hn : n ≤ lo + b) (hk : m + hi ≤ n) (hl : mlt M (f c) (f (n - 1 - c))) : Cut M f n lo hi (c + 1) r :=
  ⟨by have := C.a; omega, h2, C.c, fun p p1 p2 => by
    have := C.c
    rcases Nat.lt_or_ge p c with q | q
    · exact (mlt_lin M).trans (hA p c (by omega) q (by omega)) ((mlt_lin M).trans hl (hB _ _ (by omega) (by omega) (by omega)))
    · have : p = c := by omega
      rw [this]; exact hl, C.more⟩
theorem Cut.down {M : Int → Int} {f : Nat → Int} {a m b n lo hi s r c : Nat} (C : Cut M f n lo hi s r) (hA : Srt (mlt M) f a m) (hB : Srt (mlt M) f m b) (h1 : s ≤ c) (h2 : c < r) (la : a ≤ lo) (hm : hi ≤ m) (hn : n ≤ lo + b) (hk : m + hi ≤ n) (hl : mlt M (f (n - 1 - c)) (f c)) : Cut M f n lo hi s c :=
  ⟨C.a, h1, by have := C.c; omega, C.less, fun p p1 p2 => by
    have := C.a
    rcases Nat.lt_or_ge c p with q | q
    · exact (mlt_lin M).trans (hB (n - 1 - p) (n - 1 - c) (by omega) (by omega) (by omega)) ((mlt_lin M).trans hl (hA c p (by omega) q (by omega)))
    · have : p = c := by omega
      rw [this]; exact hl⟩
/-- Where a half of the merge is empty nothing is to do. -/
theorem rot_cut {f : Nat → Int} {m mid s : Nat} (h : ¬ (s < m ∧ m < mid + m - s)) (h1 : s ≤ m) (h2 : s ≤ mid) : rot f s m (mid + m - s) = f := by
  by_cases e : s < m
  · have : mid + m - s = m := by omega
    rw [this, rot_right f h1]
  · have : s = m := by omega
    subst this
    rw [rot_left f (by omega)]
/-- What is asked of the merge of at most s numbers. -/
def MergeOK (M : Int → Int) (N : Nat) (φ : FuncId) (q : Value) (w0 : World) (g n c s : Nat) : Prop :=
  ∀ (w : World) (a m b : Nat) (f : Nat → Int), b - a ≤ s → Below g w0 w → RowI w g n f → a < m → m < b → b ≤ n → n ≤ 1000 → Oks N n f → Srt (mlt M) f a m → Srt (mlt M) f m b → Cross f a m b →
    Calls Tryz.prog 38 #[.slice (some ⟨g, 0, none⟩) n c, .int .i64 a, .int .i64 m, .int .i64 b, .func (.func φ) #[] #[q]] w (RetB g w (fun w' => ∃ k, RowI w' g n k ∧ Re f k a b ∧ Srt (mlt M) k a b))
/-- The plain side: the two parts, and that each is a merge again. -/
structure Parts2 (M : Int → Int) (f k : Nat → Int) (a m b mid s : Nat) : Prop where
  re : Re f k a b
  sL1 : Srt (mlt M) k a s
  sL2 : Srt (mlt M) k s mid
  xL : Cross k a s mid
  sR1 : Srt (mlt M) k mid (mid + m - s)
  sR2 : Srt (mlt M) k (mid + m - s) b
  xR : Cross k mid (mid + m - s) b
  lt : ∀ x y, a ≤ x → x < mid → mid ≤ y → y < b → mlt M (k x) (k y)
theorem parts2 {M : Int → Int} {f : Nat → Int} {a m b mid s lo hi : Nat} (h1 : a < m) (h2 : m < b) (hmid : mid = (a + b) / 2) (hA : Srt (mlt M) f a m) (hB : Srt (mlt M) f m b) (hX : Cross f a m b)
    (hlo : lo = a ∨ lo + b = mid + m) (hhi : hi = m ∨ hi = mid) (la : a ≤ lo) (hm : hi ≤ m) (hmi : hi ≤ mid) (hn : mid + m ≤ lo + b) (C : Cut M f (mid + m) lo hi s s) : Parts2 M f (rot f s m (mid + m - s)) a m b mid s := by
  have c1 := C.a; have c2 := C.c
  have s1 : s ≤ m := by omega
  have s2 : s ≤ mid := by omega
  have s3 : mid + m ≤ s + b := by omega
  have LT := part_lt (mlt_lin M) (s := s) h1 h2 hmid hA hB (by omega) s1 s2 s3
    (by
      by_cases e : s = lo
      · omega
      · refine .inr (.inr ?_)
        have := C.less (s - 1) (by omega) (by omega)
        have e2 : mid + m - 1 - (s - 1) = mid + m - s := by omega
        rwa [e2] at this)
    (by
      by_cases e : s = hi
      · omega
      · exact .inr (.inr (C.more s (Nat.le_refl _) (by omega))))
  refine ⟨(rot_re f s1 (by omega)).wide (by omega) (by omega), ?_, ?_, ?_, ?_, ?_, ?_, LT⟩
  · intro x y e1 e2 e3; rw [rot_out s1 (by omega) (by omega), rot_out s1 (by omega) (by omega)]; exact hA x y e1 e2 (by omega)
  · intro x y e1 e2 e3; rw [rot_low (by omega) (by omega), rot_low (by omega) (by omega)]; exact hB _ _ (by omega) (by omega) (by omega)
  · intro x y e1 e2 e3 e4; rw [rot_out s1 (by omega) (by omega), rot_low (by omega) (by omega)]; exact hX _ _ e1 (by omega) (by omega) (by omega)
  · intro x y e1 e2 e3; rw [rot_high (by omega) (by omega), rot_high (by omega) (by omega)]; exact hA _ _ (by omega) (by omega) (by omega)
  · intro x y e1 e2 e3; rw [rot_out s1 (by omega) (by omega), rot_out s1 (by omega) (by omega)]; exact hB x y (by omega) e2 e3
  · intro x y e1 e2 e3 e4; rw [rot_high (by omega) (by omega), rot_out s1 (by omega) (by omega)]; exact hX _ _ (by omega) (by omega) (by omega) e4
end Go.Proofs.YtjddelmhbafelaaGreatDoor
