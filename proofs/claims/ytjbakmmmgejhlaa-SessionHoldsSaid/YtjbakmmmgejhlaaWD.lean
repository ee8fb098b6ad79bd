/-
  Rows of dots of the call's own: an append, a clone.
-/
import Derived.Test.YtjbakmmmgejhlaaWA
import Derived.Laws.OwnMore
import Derived.Test.YtjbakmmmgejhlaaWC
namespace Go.Proofs.Ytjbakmmmgejhlaa
open Go.RowKit

def dcells (l : List Dot) : List Value := l.flatMap fun d => [.int .i64 d.1, .int .i64 d.2]
theorem dcells_cons (d : Dot) (l : List Dot) : dcells (d :: l) = .int .i64 d.1 :: .int .i64 d.2 :: dcells l := rfl
theorem dcells_append (a b : List Dot) : dcells (a ++ b) = dcells a ++ dcells b := by unfold dcells; rw [List.flatMap_append]
theorem dcells_length : ∀ l : List Dot, (dcells l).length = l.length * 2
  | [] => rfl
  | d :: l => by rw [dcells_cons]; simp only [List.length_cons, dcells_length l]; omega
theorem dcells_get : ∀ (l : List Dot) (i : Nat) (d : Dot), l[i]? = some d → (dcells l)[i * 2]? = some (.int .i64 d.1) ∧ (dcells l)[i * 2 + 1]? = some (.int .i64 d.2)
  | [], i, d, h => by simp at h
  | a :: l, 0, d, h => by simp at h; subst h; exact ⟨rfl, rfl⟩
  | a :: l, i + 1, d, h => by
    have := dcells_get l i d (by simpa using h)
    rw [dcells_cons, show (i + 1) * 2 = i * 2 + 1 + 1 by omega]
    simpa using this
theorem dcells_at (l : List Dot) (j : Nat) (u : Value) (h : (dcells l)[j]? = some u) : ∃ i d, l[i]? = some d ∧ ((j = i * 2 ∧ u = .int .i64 d.1) ∨ (j = i * 2 + 1 ∧ u = .int .i64 d.2)) := by
  have hl : j < l.length * 2 := by rw [← dcells_length]; exact (List.getElem?_eq_some_iff.1 h).1
  have hi : j / 2 < l.length := by omega
  obtain ⟨h1, h2⟩ := dcells_get l (j / 2) l[j / 2] (List.getElem?_eq_getElem hi)
  refine ⟨j / 2, l[j / 2], List.getElem?_eq_getElem hi, ?_⟩
  rcases Nat.mod_two_eq_zero_or_one j with hm | hm
  · left
    have e : j = j / 2 * 2 := by omega
    rw [← e, h] at h1
    exact ⟨e, by simpa using h1⟩
  · right
    have e : j = j / 2 * 2 + 1 := by omega
    rw [← e, h] at h2
    exact ⟨e, by simpa using h2⟩
theorem dcells_one (l : List Dot) : ∀ u ∈ dcells l, u.oneCell' = true := by
  intro u hu
  obtain ⟨j, hj⟩ := List.getElem?_of_mem hu
  obtain ⟨i, d, _, h | h⟩ := dcells_at l j u hj <;> rw [h.2] <;> rfl
theorem add_lit (b o j : Nat) : (⟨b, o, none⟩ : Addr).add j = ⟨b, o + j, none⟩ := by unfold Addr.add; split <;> simp_all
theorem Dots.cells {w : World} {A : Option Addr} {n c : Nat} {l : List Dot} (h : Dots w A n c l) {a : Addr} (hA : A = some a) (j : Nat) (u : Value) (hu : (dcells l)[j]? = some u) : w.cell? (a.add j) = some u := by
  obtain ⟨i, d, hi, hh⟩ := dcells_at l j u hu
  obtain ⟨b, o, e, _, h1, h2⟩ := h.cell i d hi
  rw [hA] at e; cases e
  rw [add_lit]
  rcases hh with ⟨rfl, rfl⟩ | ⟨rfl, rfl⟩
  · exact h1
  · exact h2

/-- The address of a cut 's[k:]' (at the capacity it stays). -/
def cutA (A : Option Addr) (c k : Nat) : Option Addr := if c = k then A else A.map (·.add (k * 2))
theorem slice_to_dots {w : World} {A : Option Addr} {n c k : Nat} (h : k ≤ c) : (Instr.sliceAt 28 (.slice A n c) none (some (.int .i64 (k : Int))) none).run Try.prog w = .ok (.slice A k c) w := by
  have h1 : (0 : Int) ≤ (k : Int) := by omega
  have h2 : (k : Int) ≤ (c : Int) := by omega
  simp [go_sem, h1, h2]
theorem slice_from_dots {w : World} {A : Option Addr} {n c k : Nat} (h : k ≤ n) (hc : n ≤ c) : (Instr.sliceAt 28 (.slice A n c) (some (.int .i64 (k : Int))) none none).run Try.prog w = .ok (.slice (cutA A c k) (n - k) (c - k)) w := by
  have h1 : (0 : Int) ≤ (k : Int) := by omega
  have h2 : (k : Int) ≤ (n : Int) := by omega
  have h3 : (n : Int) ≤ (c : Int) := by omega
  unfold cutA
  simp [go_sem, h1, h2]
theorem slice_to_vec {w : World} {A : Option Addr} {n c k : Nat} (h : k ≤ c) : (Instr.sliceAt 29 (.slice A n c) none (some (.int .i64 (k : Int))) none).run Try.prog w = .ok (.slice A k c) w := by
  have h1 : (0 : Int) ≤ (k : Int) := by omega
  have h2 : (k : Int) ≤ (c : Int) := by omega
  simp [go_sem, h1, h2]
theorem slice_from_vec {w : World} {A : Option Addr} {n c k : Nat} (h : k ≤ n) (hc : n ≤ c) : (Instr.sliceAt 29 (.slice A n c) (some (.int .i64 (k : Int))) none none).run Try.prog w = .ok (.slice (cutA A c k) (n - k) (c - k)) w := by
  have h1 : (0 : Int) ≤ (k : Int) := by omega
  have h2 : (k : Int) ≤ (n : Int) := by omega
  have h3 : (n : Int) ≤ (c : Int) := by omega
  unfold cutA
  simp [go_sem, h1, h2]
theorem Dots.take {w : World} {A : Option Addr} {n c k : Nat} {l : List Dot} (h : Dots w A n c l) (hk : k ≤ n) : Dots w A k c (l.take k) :=
  ⟨by rw [List.length_take, ← h.len]; omega, Nat.le_trans hk h.cap, h.max, h.nil, fun i d hi => h.cell i d (by rw [List.getElem?_take] at hi; split at hi; exact hi; cases hi)⟩
theorem Dots.drop {w : World} {A : Option Addr} {n c k : Nat} {l : List Dot} (h : Dots w A n c l) (hk : k ≤ n) : Dots w (cutA A c k) (n - k) (c - k) (l.drop k) := by
  refine ⟨by rw [List.length_drop, ← h.len], by have := h.cap; omega, by have := h.max; omega, fun e => ?_, fun i d hi => ?_⟩
  · by_cases hc : c = k
    · omega
    · unfold cutA at e; rw [if_neg hc] at e
      have : A = none := by cases A with | none => rfl | some a => cases e
      have := h.nil this; omega
  · rw [List.getElem?_drop] at hi
    obtain ⟨b, o, rfl, hb, h1, h2⟩ := h.cell _ d hi
    have hl : k + i < l.length := (List.getElem?_eq_some_iff.1 hi).1
    have hc : ¬ c = k := by have := h.cap; have := h.len; omega
    unfold cutA; rw [if_neg hc]
    refine ⟨b, o + k * 2, by simp [add_lit], hb, ?_, ?_⟩
    · rw [show o + k * 2 + i * 2 = o + (k + i) * 2 by omega]; exact h1
    · rw [show o + k * 2 + i * 2 + 1 = o + (k + i) * 2 + 1 by omega]; exact h2

/-- A row of the call's own, from block B on, that reads as a list of dots. -/
def Row (w : World) (B : Nat) (v : Value) (l : List Dot) : Prop := w.ownsRow B 27 2 v l.length (dcells l)
section
variable {w w' : World} {B : Nat} {v : Value} {l : List Dot}
theorem Row.mono (h : Row w B v l) (hb : Below w.heap.size w w') : Row w' B v l := by
  refine ⟨h.1, ?_⟩
  rcases h.2 with h2 | ⟨g, cap, cur, hv, hg, hh, r⟩
  · exact .inl h2
  · exact .inr ⟨g, cap, cur, hv, hg, (hb.block g (Array.getElem?_eq_some_iff.1 hh).1).trans hh, r⟩
theorem Row.low (h : Row w B v l) {B' : Nat} (hB : B' ≤ B) : Row w B' v l := by
  refine ⟨h.1, ?_⟩
  rcases h.2 with h2 | ⟨g, cap, cur, hv, hg, r⟩
  · exact .inl h2
  · exact .inr ⟨g, cap, cur, hv, by omega, r⟩
theorem Row.dots (h : Row w B v l) : ∃ A c, v = .slice A l.length c ∧ Dots w A l.length c l := by
  rcases h.2 with ⟨rfl, h0⟩ | ⟨g, cap, cur, rfl, hg, hh, hn, hm, hs, ht⟩
  · have : l = [] := List.eq_nil_of_length_eq_zero h0
    subst this
    exact ⟨none, 0, rfl, Dots.nil_⟩
  · refine ⟨some ⟨g, 0, none⟩, cap, rfl, rfl, hn, hm, (fun e => nomatch e), fun i d hi => ?_⟩
    obtain ⟨h1, h2⟩ := dcells_get l i d hi
    have hil : i < l.length := (List.getElem?_eq_some_iff.1 hi).1
    refine ⟨g, 0, rfl, (Array.getElem?_eq_some_iff.1 hh).1, ?_, ?_⟩
    · rw [cell_of_row w g _ cur _ (0, 0) hh]
      rw [← ht, List.getElem?_take] at h1
      split at h1
      · simpa using h1
      · cases h1
    · rw [cell_of_row w g _ cur _ (0, 0) hh]
      rw [← ht, List.getElem?_take] at h2
      split at h2
      · simpa using h2
      · cases h2
theorem Row.nil_ (w : World) (B : Nat) : Row w B (.slice none 0 0) [] := World.ownsRow_nil w B _ 2
end
def IsRow (B : Nat) (l : List Dot) (w : World) (v : Value) : Prop := Row w B v l
def IsDots (l : List Dot) (w : World) (v : Value) : Prop := ∃ A n c, v = .slice A n c ∧ Dots w A n c l
instance (B : Nat) (l : List Dot) : Grows (IsRow B l) := ⟨fun hb h => Row.mono h hb⟩
instance (l : List Dot) : Grows (IsDots l) := ⟨fun hb ⟨A, n, c, e, h⟩ => ⟨A, n, c, e, h.mono hb⟩⟩
theorem IsRow.dots {B : Nat} {l : List Dot} {w : World} {v : Value} (h : IsRow B l w v) : IsDots l w v := let ⟨A, c, e, h'⟩ := Row.dots h; ⟨A, _, c, e, h'⟩

theorem info_dot : ∃ i : TypeInfo, Try.prog.info? 27 = some i ∧ i.zero = some (.agg #[.int .i64 0, .int .i64 0]) ∧ i.size = 2 ∧ i.bytes = 16 := by
  obtain ⟨i, h1, h2, h3, h4⟩ := info_parts (P := Try.prog) (show (Try.prog.info? 27).map (fun i => (i.zero, i.size, i.bytes)) = some (some (.agg #[.int .i64 0, .int .i64 0]), 2, 16) by kernel_rfl)
  exact ⟨i, h1, h2, h3, h4⟩

/-- An append of dots onto a row of the call's own. -/
theorem run_app {t ty : TypeId} (ht : Try.prog.underlying t = some (.slice 27)) {w : World} {B : Nat} {v : Value} {l k : List Dot} {A : Option Addr} {n c : Nat} (h : Row w B v l) (hk : Dots w A n c k) (hs : l.length + k.length ≤ 1000000000) (hB : B ≤ w.heap.size) :
    ∃ v' w', (Builtin.append_ #[t, t] ty #[v, .slice A n c]).run Try.prog w = .ok v' w' ∧ Row w' B v' (l ++ k) ∧ w.grownBy w' v.ownBlock := by
  obtain ⟨i, hi, hz, hsz, hby⟩ := info_dot
  cases A with
  | none =>
    have hc := hk.nil rfl
    have hn : n = 0 := by have := hk.cap; omega
    subst hc; subst hn
    have hk0 : k = [] := List.eq_nil_of_length_eq_zero hk.len.symm
    subst hk0
    refine ⟨v, w, run_append_owned_none (P := Try.prog) (w := w) B t ty 27 i 2 ht hi v l.length (dcells l) h, by rw [List.append_nil]; exact h, ⟨rfl, rfl, rfl, Nat.le_refl _, fun _ _ _ => rfl⟩⟩
  | some a =>
    obtain ⟨v', w', h1, h2, h3, _⟩ := run_append_own (P := Try.prog) w B t ty 27 i _ 2 16 ht hi hz hsz hby rfl (by omega) v l.length (dcells l) h a n c (dcells k) (by rw [dcells_length, hk.len]) (fun j u hu => hk.cells rfl j u hu) (dcells_one k)
      (by rw [hk.len]; unfold maxLen; omega) (by rw [hk.len]; omega) hB
    refine ⟨v', w', h1, ?_, h3⟩
    unfold Row
    rw [List.length_append, dcells_append]
    rw [hk.len] at h2
    exact h2
/-- Where the row lies that an append gives: where it lay, or in a new block. -/
theorem run_app_block {t ty : TypeId} (ht : Try.prog.underlying t = some (.slice 27)) {w w' : World} {B : Nat} {v v' : Value} {l k : List Dot} {A : Option Addr} {n c : Nat} (h : Row w B v l) (hk : Dots w A n c k) (hs : l.length + k.length ≤ 1000000000)
    (hr : (Builtin.append_ #[t, t] ty #[v, .slice A n c]).run Try.prog w = .ok v' w') : ∀ g, v'.ownBlock = some g → v.ownBlock = some g ∨ w.heap.size ≤ g := by
  obtain ⟨i, hi, hz, hsz, hby⟩ := info_dot
  cases A with
  | none =>
    have hc := hk.nil rfl
    have hn : n = 0 := by have := hk.cap; omega
    subst hc; subst hn
    rw [run_append_owned_none (P := Try.prog) (w := w) B t ty 27 i 2 ht hi v l.length (dcells l) h] at hr
    cases hr
    exact fun g hg => .inl hg
  | some a =>
    have hnews : ∀ j u, (dcells k)[j]? = some u → w.cell? (a.add j) = some u := fun j u hu => hk.cells rfl j u hu
    have hlen : (dcells k).length = n * i.size := by rw [dcells_length, hk.len, hsz]
    have hkl := hk.len
    rcases h.2 with ⟨rfl, h0⟩ | ⟨g, cap, cur, rfl, hbg, hg, hnc, hcm, hcs, htake⟩
    · by_cases hm : n = 0
      · subst hm
        have hk0 : k = [] := List.eq_nil_of_length_eq_zero hkl.symm
        subst hk0
        have e : (Builtin.append_ #[t, t] ty #[.slice none 0 0, .slice (some a) 0 c]).run Try.prog w = .ok (.slice none 0 0) w := by
          simp [Builtin.append_, run_underlying ht, sizeOf, typeInfo, hi, Builtin.lenOf, Builtin.firstCells, loadCells, loadCellsFrom]
        rw [e] at hr; cases hr
        exact fun g hg => .inl hg
      · rw [run_append_nil (P := Try.prog) w t ty 27 i _ ht hi hz a n c (dcells k) hlen hnews (by omega) (by omega) (by rw [hby]; omega)] at hr
        cases hr
        intro g hg; simp [Value.ownBlock] at hg; exact .inr (by omega)
    · by_cases hroom : l.length + n ≤ cap
      · rw [run_append_room (P := Try.prog) w t ty 27 i ht hi g l.length cap cur hg a n c (dcells k) hlen hnews (dcells_one k) hroom (by rw [hlen, hsz, hcs, ← Nat.add_mul]; exact Nat.mul_le_mul_right _ hroom)] at hr
        cases hr
        exact fun g hg => .inl hg
      · have holds : ∀ j u, (dcells l)[j]? = some u → w.cell? ((⟨g, 0, none⟩ : Addr).add j) = some u := World.ownsRow.cells (v := .slice (some ⟨g, 0, none⟩) l.length cap) h rfl
        rw [run_append_grow (P := Try.prog) w t ty 27 i _ ht hi hz ⟨g, 0, none⟩ l.length cap (dcells l) (by rw [dcells_length, hsz]) holds a n c (dcells k) hlen hnews (by omega) (by omega) (by rw [hby]; exact growslice_fits (by omega) (by omega))] at hr
        cases hr
        intro g hg; simp [Value.ownBlock] at hg; exact .inr (by omega)
theorem Row.empty {w : World} {B g : Nat} (hB : B ≤ g) (h : w.heap[g]? = some (.cells #[] 27 (0, 0))) : Row w B (.slice (some ⟨g, 0, none⟩) 0 0) [] :=
  ⟨rfl, .inr ⟨g, 0, #[], rfl, hB, h, Nat.le_refl _, Nat.zero_le _, rfl, rfl⟩⟩
theorem Row.grown {w w1 : World} {B : Nat} {v : Value} {l : List Dot} {row : Option Nat} (h : Row w B v l) (hg : w.grownBy w1 row) (hne : v.ownBlock = none ∨ v.ownBlock ≠ row) : Row w1 B v l := World.ownsRow.kept h hg hne
/-- Dots in a row that an append elsewhere leaves. -/
theorem Dots.grown {w w1 : World} {A : Option Addr} {n c : Nat} {l : List Dot} {row : Option Nat} (h : Dots w A n c l) (hg : w.grownBy w1 row) (hne : ∀ a, A = some a → some a.block ≠ row) : Dots w1 A n c l :=
  ⟨h.len, h.cap, h.max, h.nil, fun i d hi => by
    obtain ⟨b, o, rfl, hlt, h1, h2⟩ := h.cell i d hi
    exact ⟨b, o, rfl, Nat.lt_of_lt_of_le hlt hg.size, hg.cell h1 (hne ⟨b, o, none⟩ rfl), hg.cell h2 (hne ⟨b, o, none⟩ rfl)⟩⟩
/-- A store elsewhere. -/
theorem Dots.set_ {w : World} {A : Option Addr} {n c : Nat} {l : List Dot} (h : Dots w A n c l) {p : Addr} (hne : ∀ a, A = some a → a.block ≠ p.block) (u : Value) : Dots (w.setCell p u) A n c l :=
  ⟨h.len, h.cap, h.max, h.nil, fun i d hi => by
    obtain ⟨b, o, rfl, hlt, h1, h2⟩ := h.cell i d hi
    have hb : b ≠ p.block := hne ⟨b, o, none⟩ rfl
    refine ⟨b, o, rfl, by simpa [World.setCell] using hlt, ?_, ?_⟩
    · rw [World.cell?_setCell_other w p _ u (fun e => hb (by rw [e]))]; exact h1
    · rw [World.cell?_setCell_other w p _ u (fun e => hb (by rw [e]))]; exact h2⟩
theorem Row.set_ {w : World} {B : Nat} {v : Value} {l : List Dot} (h : Row w B v l) {p : Addr} (hne : ∀ k, v.ownBlock = some k → k ≠ p.block) (u : Value) : Row (w.setCell p u) B v l := by
  refine ⟨h.1, ?_⟩
  rcases h.2 with h2 | ⟨g, cap, cur, hv, hg, hh, r⟩
  · exact .inl h2
  · exact .inr ⟨g, cap, cur, hv, hg, by rw [Below.heap_setCell w p u g (hne g (by rw [hv]; rfl))]; exact hh, r⟩
theorem own_ne {A : Option Addr} {n c N : Nat} (h : ∀ a, A = some a → a.block ≠ N) : ∀ k, (Value.slice A n c).ownBlock = some k → k ≠ N := by
  intro k hk
  cases A with
  | none => simp [Value.ownBlock] at hk
  | some a => simp [Value.ownBlock] at hk; subst hk; exact h a rfl
theorem Row.from_ {w : World} {B : Nat} {A : Option Addr} {n c : Nat} {l : List Dot} (h : Row w B (.slice A n c) l) : ∀ a, A = some a → B ≤ a.block := fun a e => (World.ownsRow.lt h a.block (by rw [e]; rfl)).1
theorem cutA_block {A : Option Addr} {c k : Nat} {p : Nat → Prop} (h : ∀ a, A = some a → p a.block) : ∀ a, cutA A c k = some a → p a.block := by
  intro a e
  unfold cutA at e
  split at e
  · exact h a e
  · cases A with
    | none => cases e
    | some a' => simp at e; subst e; rw [show (a'.add (k * 2)).block = a'.block by unfold Addr.add; split <;> rfl]; exact h a' rfl
theorem Row.own (w : World) {B : Nat} {v : Value} {l : List Dot} (h : Row w B v l) : ∀ k, v.ownBlock = some k → B ≤ k := fun k hk => (World.ownsRow.lt h k hk).1
/-- The same as an operation. -/
theorem wpList_app {ops : Array Oper} {rest : List Oper} {o : Oper} {a : Act} {Q : Exit → Act → World → Prop} {s x : Operand} {t : TypeId} {w : World} {B : Nat} {v : Value} {l k : List Dot} {A : Option Addr} {n c : Nat}
    (hgd : o.guard = none) (ho : o.op = .call { callee := .builtin .append, args := #[s, x], argTypes := #[t, t] }) (ht : Try.prog.underlying t = some (.slice 27)) (hsv : a.eval s = v) (hxv : a.eval x = .slice A n c)
    (h : Row w B v l) (hk : Dots w A n c k) (hs : l.length + k.length ≤ 1000000000) (hB : B ≤ w.heap.size)
    (K : ∀ v' w', Row w' B v' (l ++ k) → w.grownBy w' v.ownBlock → wpList Try.prog ops Q rest (a.put o.dst v') w') : wpList Try.prog ops Q (o :: rest) a w := by
  refine wpList_plain hgd fun K' hK => ?_
  obtain ⟨v', w', hr, h2, h3⟩ := run_app (ty := o.type) ht h hk hs hB
  unfold Oper.wp
  simp [execOp, ho, resolve, invoke, builtin, hsv, hxv, hr, Result.andThen]
  exact hK _ _ (K v' w' h2 h3)

theorem wpList_appO {ops : Array Oper} {rest : List Oper} {o : Oper} {a : Act} {Q : Exit → Act → World → Prop} {s x : Operand} {t : TypeId} {w : World} {B : Nat} {v : Value} {l k : List Dot} {A : Option Addr} {n c : Nat}
    (hgd : o.guard = none) (ho : o.op = .call { callee := .builtin .append, args := #[s, x], argTypes := #[t, t] }) (ht : Try.prog.underlying t = some (.slice 27)) (hsv : a.eval s = v) (hxv : a.eval x = .slice A n c)
    (h : Row w B v l) (hk : Dots w A n c k) (hs : l.length + k.length ≤ 1000000000) (hB : B ≤ w.heap.size)
    (K : ∀ v' w', Row w' B v' (l ++ k) → w.grownBy w' v.ownBlock → (∀ g, v'.ownBlock = some g → v.ownBlock = some g ∨ w.heap.size ≤ g) → wpList Try.prog ops Q rest (a.put o.dst v') w') : wpList Try.prog ops Q (o :: rest) a w := by
  refine wpList_plain hgd fun K' hK => ?_
  obtain ⟨v', w', hr, h2, h3⟩ := run_app (ty := o.type) ht h hk hs hB
  have h4 := run_app_block ht h hk hs hr
  unfold Oper.wp
  simp [execOp, ho, resolve, invoke, builtin, hsv, hxv, hr, Result.andThen]
  exact hK _ _ (K v' w' h2 h3 h4)

theorem wp_app {o : Oper} {a : Act} {Q : Exit → Act → World → Prop} {s x : Operand} {t : TypeId} {w : World} {B : Nat} {v : Value} {l k : List Dot} {A : Option Addr} {n c : Nat} {K : Act → World → Prop}
    (ho : o.op = .call { callee := .builtin .append, args := #[s, x], argTypes := #[t, t] }) (ht : Try.prog.underlying t = some (.slice 27)) (hsv : a.eval s = v) (hxv : a.eval x = .slice A n c)
    (h : Row w B v l) (hk : Dots w A n c k) (hs : l.length + k.length ≤ 1000000000) (hB : B ≤ w.heap.size)
    (hK : ∀ v' w', Row w' B v' (l ++ k) → w.grownBy w' v.ownBlock → K (a.put o.dst v') w') : o.wp Try.prog a w K Q := by
  obtain ⟨v', w', hr, h2, h3⟩ := run_app (ty := o.type) ht h hk hs hB
  unfold Oper.wp
  simp [execOp, ho, resolve, invoke, builtin, hsv, hxv, hr, Result.andThen]
  exact hK v' w' h2 h3
section
variable {P : Program} {ops : List Oper} {Fs : List VT} {w0 : World} {a0 : Act} {i : Nat} {d : Option Tmp} {ty : TypeId} {pos : String} {after : Array Edge} {g : Option (Nat × Bool)}
/-- In a region: an append onto nil: a new row. -/
theorem Ob.appNil {x : Operand} {t : TypeId} {l : List Dot} (hw : Wanted ops Fs w0 a0 i ⟨d, .call ⟨.builtin .append, #[.const (.slice none 0 0), x], #[t, t]⟩, ty, pos, after, g⟩) (ht : Try.prog.underlying t = some (.slice 27))
    (hx : Has ops Fs w0 a0 i ⟨d, .call ⟨.builtin .append, #[.const (.slice none 0 0), x], #[t, t]⟩, ty, pos, after, g⟩ x (IsDots l)) (hs : l.length ≤ 1000000000) :
    Ob Try.prog ops Fs w0 a0 i ⟨d, .call ⟨.builtin .append, #[.const (.slice none 0 0), x], #[t, t]⟩, ty, pos, after, g⟩ (IsRow w0.heap.size l) :=
  Ob.any hw fun a w cx => by
    obtain ⟨A, n, c, e, hd⟩ := hx a w cx
    obtain ⟨v', w', hr, h2, h3⟩ := run_app (ty := ty) ht (Row.nil_ w w.heap.size) hd (by simpa using hs) (Nat.le_refl _)
    refine ⟨v', w', ?_, (Below.refl _ w).grown h3 (Nat.le_refl _) (fun k hk => by simp [Value.ownBlock] at hk), Row.low h2 cx.le.size⟩
    have hc : a.eval (.const (.slice none 0 0)) = .slice none 0 0 := rfl
    generalize a.eval = ρ at e hc
    simp [execOp, resolve, invoke, builtin, e, hc, hr]
theorem Ob.appNilV {x : Operand} {t : TypeId} {l : List Dot} {A : Option Addr} {n c : Nat} (hw : Wanted ops Fs w0 a0 i ⟨d, .call ⟨.builtin .append, #[.const (.slice none 0 0), x], #[t, t]⟩, ty, pos, after, g⟩) (ht : Try.prog.underlying t = some (.slice 27))
    (hx : Has ops Fs w0 a0 i ⟨d, .call ⟨.builtin .append, #[.const (.slice none 0 0), x], #[t, t]⟩, ty, pos, after, g⟩ x (Is (.slice A n c))) (hd : ∀ w, Below w0.heap.size w0 w → Dots w A n c l) (hs : l.length ≤ 1000000000) :
    Ob Try.prog ops Fs w0 a0 i ⟨d, .call ⟨.builtin .append, #[.const (.slice none 0 0), x], #[t, t]⟩, ty, pos, after, g⟩ (IsRow w0.heap.size l) :=
  Ob.any hw fun a w cx => by
    have e : a.eval x = .slice A n c := hx a w cx
    have hd := hd w cx.le
    obtain ⟨v', w', hr, h2, h3⟩ := run_app (ty := ty) ht (Row.nil_ w w.heap.size) hd (by simpa using hs) (Nat.le_refl _)
    refine ⟨v', w', ?_, (Below.refl _ w).grown h3 (Nat.le_refl _) (fun k hk => by simp [Value.ownBlock] at hk), Row.low h2 cx.le.size⟩
    have hc : a.eval (.const (.slice none 0 0)) = .slice none 0 0 := rfl
    generalize a.eval = ρ at e hc
    simp [execOp, resolve, invoke, builtin, e, hc, hr]
theorem Ob.sliceTo_dots {x y : Operand} {A : Option Addr} {n c k : Nat} (hw : Wanted ops Fs w0 a0 i ⟨d, .slice 28 x none (some y) none, ty, pos, after, g⟩) (hx : Has ops Fs w0 a0 i ⟨d, .slice 28 x none (some y) none, ty, pos, after, g⟩ x (Is (.slice A n c))) (hy : Has ops Fs w0 a0 i ⟨d, .slice 28 x none (some y) none, ty, pos, after, g⟩ y (IsI (k : Int))) (h : k ≤ c) :
    Ob Try.prog ops Fs w0 a0 i ⟨d, .slice 28 x none (some y) none, ty, pos, after, g⟩ (Is (.slice A k c)) :=
  Ob.stay hw fun a w cx => ⟨_, by
    have h1 : a.eval x = .slice A n c := hx a w cx
    have h2 : a.eval y = .int .i64 (k : Int) := hy a w cx
    have h3 := slice_to_dots (w := w) (A := A) (n := n) h
    generalize a.eval = ρ at h1 h2
    simp only [execOp, Option.map, h1, h2]
    simp [h3], rfl⟩
theorem Ob.sliceFrom_dots {x y : Operand} {A : Option Addr} {n c k : Nat} (hw : Wanted ops Fs w0 a0 i ⟨d, .slice 28 x (some y) none none, ty, pos, after, g⟩) (hx : Has ops Fs w0 a0 i ⟨d, .slice 28 x (some y) none none, ty, pos, after, g⟩ x (Is (.slice A n c))) (hy : Has ops Fs w0 a0 i ⟨d, .slice 28 x (some y) none none, ty, pos, after, g⟩ y (IsI (k : Int))) (h : k ≤ n) (hc : n ≤ c) :
    Ob Try.prog ops Fs w0 a0 i ⟨d, .slice 28 x (some y) none none, ty, pos, after, g⟩ (Is (.slice (cutA A c k) (n - k) (c - k))) :=
  Ob.stay hw fun a w cx => ⟨_, by
    have h1 : a.eval x = .slice A n c := hx a w cx
    have h2 : a.eval y = .int .i64 (k : Int) := hy a w cx
    have h3 := slice_from_dots (w := w) (A := A) h hc
    generalize a.eval = ρ at h1 h2
    simp only [execOp, Option.map, h1, h2]
    simp [h3], rfl⟩
theorem Ob.sliceTo_vec {x y : Operand} {A : Option Addr} {n c k : Nat} (hw : Wanted ops Fs w0 a0 i ⟨d, .slice 29 x none (some y) none, ty, pos, after, g⟩) (hx : Has ops Fs w0 a0 i ⟨d, .slice 29 x none (some y) none, ty, pos, after, g⟩ x (Is (.slice A n c))) (hy : Has ops Fs w0 a0 i ⟨d, .slice 29 x none (some y) none, ty, pos, after, g⟩ y (IsI (k : Int))) (h : k ≤ c) :
    Ob Try.prog ops Fs w0 a0 i ⟨d, .slice 29 x none (some y) none, ty, pos, after, g⟩ (Is (.slice A k c)) :=
  Ob.stay hw fun a w cx => ⟨_, by
    have h1 : a.eval x = .slice A n c := hx a w cx
    have h2 : a.eval y = .int .i64 (k : Int) := hy a w cx
    have h3 := slice_to_vec (w := w) (A := A) (n := n) h
    generalize a.eval = ρ at h1 h2
    simp only [execOp, Option.map, h1, h2]
    simp [h3], rfl⟩
theorem Ob.sliceFrom_vec {x y : Operand} {A : Option Addr} {n c k : Nat} (hw : Wanted ops Fs w0 a0 i ⟨d, .slice 29 x (some y) none none, ty, pos, after, g⟩) (hx : Has ops Fs w0 a0 i ⟨d, .slice 29 x (some y) none none, ty, pos, after, g⟩ x (Is (.slice A n c))) (hy : Has ops Fs w0 a0 i ⟨d, .slice 29 x (some y) none none, ty, pos, after, g⟩ y (IsI (k : Int))) (h : k ≤ n) (hc : n ≤ c) :
    Ob Try.prog ops Fs w0 a0 i ⟨d, .slice 29 x (some y) none none, ty, pos, after, g⟩ (Is (.slice (cutA A c k) (n - k) (c - k))) :=
  Ob.stay hw fun a w cx => ⟨_, by
    have h1 : a.eval x = .slice A n c := hx a w cx
    have h2 : a.eval y = .int .i64 (k : Int) := hy a w cx
    have h3 := slice_from_vec (w := w) (A := A) h hc
    generalize a.eval = ρ at h1 h2
    simp only [execOp, Option.map, h1, h2]
    simp [h3], rfl⟩
theorem Ob.mkCon {x y : Operand} {A B : Option Addr} {n ca m cb : Nat} (hw : Wanted ops Fs w0 a0 i ⟨d, .build 31 #[(0, x), (1, y)], ty, pos, after, g⟩) (hx : Has ops Fs w0 a0 i ⟨d, .build 31 #[(0, x), (1, y)], ty, pos, after, g⟩ x (Is (.slice A n ca))) (hy : Has ops Fs w0 a0 i ⟨d, .build 31 #[(0, x), (1, y)], ty, pos, after, g⟩ y (Is (.slice B m cb))) :
    Ob Try.prog ops Fs w0 a0 i ⟨d, .build 31 #[(0, x), (1, y)], ty, pos, after, g⟩ (Is (.agg #[.slice A n ca, .slice B m cb])) :=
  Ob.stay hw fun a w cx => ⟨_, by
    have h1 : a.eval x = .slice A n ca := hx a w cx
    have h2 : a.eval y = .slice B m cb := hy a w cx
    generalize a.eval = ρ at h1 h2
    simp [execOp, h1, h2, go_sem], rfl⟩
theorem Ob.mkDot {x y : Operand} {m n : Int} (hw : Wanted ops Fs w0 a0 i ⟨d, .build 27 #[(0, x), (1, y)], ty, pos, after, g⟩) (hx : Has ops Fs w0 a0 i ⟨d, .build 27 #[(0, x), (1, y)], ty, pos, after, g⟩ x (IsI m)) (hy : Has ops Fs w0 a0 i ⟨d, .build 27 #[(0, x), (1, y)], ty, pos, after, g⟩ y (IsI n)) :
    Ob Try.prog ops Fs w0 a0 i ⟨d, .build 27 #[(0, x), (1, y)], ty, pos, after, g⟩ (Is (.agg #[.int .i64 m, .int .i64 n])) :=
  Ob.stay hw fun a w cx => ⟨.agg #[.int .i64 m, .int .i64 n], by
    have h1 : a.eval x = .int .i64 m := hx a w cx
    have h2 : a.eval y = .int .i64 n := hy a w cx
    generalize a.eval = ρ at h1 h2
    simp [execOp, h1, h2, go_sem], rfl⟩
theorem Ob.mkDots128 {x : Operand} {m n : Int} (hw : Wanted ops Fs w0 a0 i ⟨d, .buildSlice 28 1 #[(0, x)], ty, pos, after, g⟩) (hx : Has ops Fs w0 a0 i ⟨d, .buildSlice 28 1 #[(0, x)], ty, pos, after, g⟩ x (Is (.agg #[.int .i64 m, .int .i64 n]))) :
    Ob Try.prog ops Fs w0 a0 i ⟨d, .buildSlice 28 1 #[(0, x)], ty, pos, after, g⟩ (IsDots [(m, n)]) :=
  Ob.any hw fun a w cx => by
    have h1 : a.eval x = .agg #[.int .i64 m, .int .i64 n] := hx a w cx
    refine ⟨.slice (some ⟨w.heap.size, 0, none⟩) 1 1, w.alloc (.cells #[.int .i64 m, .int .i64 n] 27), ?_, by go_grown, some ⟨w.heap.size, 0, none⟩, 1, 1, rfl, rfl, Nat.le_refl _, by unfold maxLen; omega, (fun e => nomatch e), fun j e hj => ?_⟩
    · generalize a.eval = ρ at h1
      simp [execOp, h1, go_sem]
    · have : j = 0 := by have := (List.getElem?_eq_some_iff.1 hj).1; simpa using this
      subst this
      simp at hj; subst hj
      exact ⟨w.heap.size, 0, rfl, by simp, by simp [go_sem], by simp [go_sem]⟩
theorem Ob.mkDots129 {x : Operand} {m n : Int} (hw : Wanted ops Fs w0 a0 i ⟨d, .buildSlice 29 1 #[(0, x)], ty, pos, after, g⟩) (hx : Has ops Fs w0 a0 i ⟨d, .buildSlice 29 1 #[(0, x)], ty, pos, after, g⟩ x (Is (.agg #[.int .i64 m, .int .i64 n]))) :
    Ob Try.prog ops Fs w0 a0 i ⟨d, .buildSlice 29 1 #[(0, x)], ty, pos, after, g⟩ (IsDots [(m, n)]) :=
  Ob.any hw fun a w cx => by
    have h1 : a.eval x = .agg #[.int .i64 m, .int .i64 n] := hx a w cx
    refine ⟨.slice (some ⟨w.heap.size, 0, none⟩) 1 1, w.alloc (.cells #[.int .i64 m, .int .i64 n] 27), ?_, by go_grown, some ⟨w.heap.size, 0, none⟩, 1, 1, rfl, rfl, Nat.le_refl _, by unfold maxLen; omega, (fun e => nomatch e), fun j e hj => ?_⟩
    · generalize a.eval = ρ at h1
      simp [execOp, h1, go_sem]
    · have : j = 0 := by have := (List.getElem?_eq_some_iff.1 hj).1; simpa using this
      subst this
      simp at hj; subst hj
      exact ⟨w.heap.size, 0, rfl, by simp, by simp [go_sem], by simp [go_sem]⟩
end
end Go.Proofs.Ytjbakmmmgejhlaa

/-
  The statements' makers of dots and contexts; slices.Clone; the reference's Raise.
-/
namespace Go.Proofs.Ytjbakmmmgejhlaa
open Go.RowKit

/-- A slice that reads as integers. -/
structure Ints (w : World) (A : Option Addr) (n c : Nat) (l : List Int) : Prop where
  len : n = l.length
  cell : ∀ i x, l[i]? = some x → ∃ b o, A = some ⟨b, o, none⟩ ∧ b < w.heap.size ∧ w.cell? ⟨b, o + i, none⟩ = some (.int .i64 x)
theorem Ints.mono {w w' : World} {A : Option Addr} {n c : Nat} {l : List Int} (h : Ints w A n c l) (hb : Below w.heap.size w w') : Ints w' A n c l :=
  ⟨h.len, fun i x hi => by
    obtain ⟨b, o, rfl, hlt, h1⟩ := h.cell i x hi
    exact ⟨b, o, rfl, Nat.lt_of_lt_of_le hlt hb.size, (hb.cell (p := ⟨b, _, none⟩) hlt).trans h1⟩⟩
def pairs : List Int → List Dot
  | a :: b :: t => (a, b) :: pairs t
  | _ => []
theorem pairs_short {l : List Int} (h : l.length ≤ 1) : pairs l = [] := by
  match l, h with
  | [], _ => rfl
  | [a], _ => rfl

def OfRel (w : World) (n : Nat) (l : List Int) (v i : Value) (wr : World) : Prop :=
  ∃ (k : Nat) (acc : List Dot), i = .int .i64 k ∧ k ≤ n + 1 ∧ Below w.heap.size w wr ∧ Row wr w.heap.size v acc ∧ acc.length ≤ k ∧ pairs l = acc ++ pairs (l.drop k)

theorem index_ints {w : World} {b o n c k : Nat} (hk : k < n) : (Instr.indexAt 106 (.slice (some ⟨b, o, none⟩) n c) (.int .i64 (k : Int))).run Try.prog w = .ok (.pointer (some ⟨b, o + k, none⟩)) w := by
  have h1 : (0 : Int) ≤ (k : Int) := by omega
  have h2 : (k : Int) < (n : Int) := by omega
  simp [go_sem, h1, h2]

/-! ### slices.Clone -/
set_option maxHeartbeats 1000000 in
theorem cclone29 (A : Option Addr) (n c : Nat) (l : List Dot) (w : World) (h : Dots w A n c l) (hs : Small n) : Calls Try.prog 55 #[.slice A n c] w (Ret w (IsRow w.heap.size l)) := by
  have hq := fun w a n c => Lib.run_eql_slice_nil (P := Try.prog) w 29 27 a n c 0 0 Try.underlying29
  cases A with
  | none =>
    have hc := h.nil rfl
    have hn : n = 0 := by have := h.cap; omega
    subst hc; subst hn
    have hl : l = [] := List.eq_nil_of_length_eq_zero h.len.symm
    subst hl
    clear h
    go_enter Try.func55, Try.ntmps55
    go_wp2
    go_ret
    exact ⟨_, rfl, Below.refl _ _, Row.nil_ _ _⟩
  | some a =>
    have H := Lib.hid h; clear h
    go_enter Try.func55, Try.ntmps55
    go_wp2_with (at_builtin; refine wpList_app (B := w.heap.size) (v := .slice (some ⟨w.heap.size, 0, none⟩) 0 0) (l := []) rfl rfl Try.underlying29 rfl rfl (Row.empty (Nat.le_refl _) (heap_alloc_new w _)) (H.out.mono (by go_grown)) (by have := hs.out; have := H.out.len; simp; omega) (by simp) ?_; intro v' w' hr' hg'; simp only [Act.put, List.setIfInBounds_toArray, List.set_cons_zero, List.set_cons_succ])
    go_ret
    exact ⟨_, rfl, (Below.alloc (Below.refl _ _) (Nat.le_refl _) _).grown hg' (by simp) (fun k hk => by simp [Value.ownBlock] at hk; omega), hr'⟩
set_option maxHeartbeats 1000000 in
theorem cclone28 (A : Option Addr) (n c : Nat) (l : List Dot) (w : World) (h : Dots w A n c l) (hs : Small n) : Calls Try.prog 62 #[.slice A n c] w (Ret w (IsRow w.heap.size l)) := by
  have hq := fun w a n c => Lib.run_eql_slice_nil (P := Try.prog) w 28 27 a n c 0 0 Try.underlying28
  cases A with
  | none =>
    have hc := h.nil rfl
    have hn : n = 0 := by have := h.cap; omega
    subst hc; subst hn
    have hl : l = [] := List.eq_nil_of_length_eq_zero h.len.symm
    subst hl
    clear h
    go_enter Try.func62, Try.ntmps62
    go_wp2
    go_ret
    exact ⟨_, rfl, Below.refl _ _, Row.nil_ _ _⟩
  | some a =>
    have H := Lib.hid h; clear h
    go_enter Try.func62, Try.ntmps62
    go_wp2_with (at_builtin; refine wpList_app (B := w.heap.size) (v := .slice (some ⟨w.heap.size, 0, none⟩) 0 0) (l := []) rfl rfl Try.underlying28 rfl rfl (Row.empty (Nat.le_refl _) (heap_alloc_new w _)) (H.out.mono (by go_grown)) (by have := hs.out; have := H.out.len; simp; omega) (by simp) ?_; intro v' w' hr' hg'; simp only [Act.put, List.setIfInBounds_toArray, List.set_cons_zero, List.set_cons_succ])
    go_ret
    exact ⟨_, rfl, (Below.alloc (Below.refl _ _) (Nat.le_refl _) _).grown hg' (by simp) (fun k hk => by simp [Value.ownBlock] at hk; omega), hr'⟩
end Go.Proofs.Ytjbakmmmgejhlaa

/-
  The statements' makers of contexts; the reference's Raise, With, Union.
-/
namespace Go.Proofs.Ytjbakmmmgejhlaa
open Go.RowKit

/-- A row of dots is handed back. -/
def RetRow (w : World) (l : List Dot) (e : Ending) (w' : World) : Prop := ∃ A c, e = .returned (.slice A l.length c) ∧ Below w.heap.size w w' ∧ Dots w' A l.length c l ∧ Row w' w.heap.size (.slice A l.length c) l
theorem RetRow.of {w : World} {l : List Dot} {e : Ending} {w' : World} (h : Ret w (IsRow w.heap.size l) e w') : RetRow w l e w' := by
  obtain ⟨v, rfl, hb, hr⟩ := h
  obtain ⟨A, c, rfl, hd⟩ := Row.dots hr
  exact ⟨A, c, rfl, hb, hd, hr⟩
theorem RetRow.to {w : World} {l : List Dot} {e : Ending} {w' : World} (h : RetRow w l e w') : Ret w (IsRow w.heap.size l) e w' := by
  obtain ⟨A, c, rfl, hb, _, hr⟩ := h
  exact ⟨_, rfl, hb, hr⟩

theorem cell_set {w : World} {a : Addr} {v u : Value} (h : w.cell? a = some u) : (w.setCell a v).cell? a = some v := World.cell?_setCell_same w a v h
theorem cell_far {w : World} {a b : Addr} {v u : Value} (hne : b ≠ a) (h : w.cell? a = some u) : (w.setCell b v).cell? a = some u := by rw [World.cell?_setCell_other w b a v hne]; exact h
def IsCon (c : Ctx) (w : World) (v : Value) : Prop := ∃ A n ca B m cb, v = .agg #[.slice A n ca, .slice B m cb] ∧ Con w A n ca B m cb c
instance (c : Ctx) : Grows (IsCon c) := ⟨fun hb ⟨A, n, ca, B, m, cb, e, h⟩ => ⟨A, n, ca, B, m, cb, e, h.mono hb⟩⟩
/-- Both of its slices are rows of the call's own. -/
def IsConO (b : Nat) (c : Ctx) (w : World) (v : Value) : Prop := ∃ A n ca B m cb, v = .agg #[.slice A n ca, .slice B m cb] ∧ Con w A n ca B m cb c ∧ Row w b (.slice A n ca) c.1 ∧ Row w b (.slice B m cb) c.2
instance (b : Nat) (c : Ctx) : Grows (IsConO b c) := ⟨fun hb ⟨A, n, ca, B, m, cb, e, h, h1, h2⟩ => ⟨A, n, ca, B, m, cb, e, h.mono hb, h1.mono hb, h2.mono hb⟩⟩
theorem IsConO.con {b : Nat} {c : Ctx} {w : World} {v : Value} (h : IsConO b c w v) : IsCon c w v := let ⟨A, n, ca, B, m, cb, e, h, _⟩ := h; ⟨A, n, ca, B, m, cb, e, h⟩

section
variable {ops : List Oper} {Fs : List VT} {w0 : World} {a0 : Act} {i : Nat} {d : Option Tmp} {ty : TypeId} {pos : String} {after : Array Edge} {g : Option (Nat × Bool)}
theorem Ob.mkConO {x y : Operand} {b : Nat} {l k : List Dot} (hw : Wanted ops Fs w0 a0 i ⟨d, .build 31 #[(0, x), (1, y)], ty, pos, after, g⟩) (hx : Has ops Fs w0 a0 i ⟨d, .build 31 #[(0, x), (1, y)], ty, pos, after, g⟩ x (IsRow b l)) (hy : Has ops Fs w0 a0 i ⟨d, .build 31 #[(0, x), (1, y)], ty, pos, after, g⟩ y (IsRow b k)) :
    Ob Try.prog ops Fs w0 a0 i ⟨d, .build 31 #[(0, x), (1, y)], ty, pos, after, g⟩ (IsConO b (l, k)) :=
  Ob.stay hw fun a w cx => by
    have r1 := hx a w cx
    have r2 := hy a w cx
    obtain ⟨A, c, e1, d1⟩ := Row.dots r1
    obtain ⟨B, c', e2, d2⟩ := Row.dots r2
    refine ⟨.agg #[.slice A l.length c, .slice B k.length c'], ?_, A, _, c, B, _, c', rfl, ⟨d1, d2⟩, by rw [← e1]; exact r1, by rw [← e2]; exact r2⟩
    generalize a.eval = ρ at e1 e2
    simp [execOp, e1, e2, go_sem]
end
/-- What a function leaves in its result's box, a context. -/
theorem box_store {w : World} {N : Nat} {A B : Option Addr} {n ca m cb : Nat} {c : Ctx} {o0 o1 : Value} (y0 : w.cell? ⟨N, 0, none⟩ = some o0) (y1 : w.cell? ⟨N, 1, none⟩ = some o1) (h : Con w A n ca B m cb c) (h1 : ∀ a, A = some a → a.block ≠ N) (h2 : ∀ a, B = some a → a.block ≠ N) :
    (w.setCell ⟨N, 0, none⟩ (.slice A n ca)).cell? ⟨N, 0, none⟩ = some (.slice A n ca) ∧ ((w.setCell ⟨N, 0, none⟩ (.slice A n ca)).setCell ⟨N, 1, none⟩ (.slice B m cb)).cell? ⟨N, 1, none⟩ = some (.slice B m cb) ∧
    Con ((w.setCell ⟨N, 0, none⟩ (.slice A n ca)).setCell ⟨N, 1, none⟩ (.slice B m cb)) A n ca B m cb c :=
  ⟨cell_set y0, cell_set (cell_far (by simp) y1), (h.v.set_ (p := ⟨N, 0, none⟩) h1 _).set_ (p := ⟨N, 1, none⟩) h1 _, (h.k.set_ (p := ⟨N, 0, none⟩) h2 _).set_ (p := ⟨N, 1, none⟩) h2 _⟩

end Go.Proofs.Ytjbakmmmgejhlaa

/-
  The reference's With.
-/
namespace Go.Proofs.Ytjbakmmmgejhlaa
open Go.RowKit

/-- How many dots in front come before d. -/
def cutD (d : Dot) : List Dot → Nat
  | [] => 0
  | a :: t => if lessD a d then cutD d t + 1 else 0
def withD (s : List Dot) (d : Dot) : List Dot := if memD d s then s else s.take (cutD d s) ++ d :: s.drop (cutD d s)
theorem cutD_le (d : Dot) : ∀ s : List Dot, cutD d s ≤ s.length
  | [] => Nat.le_refl _
  | a :: t => by
    have := cutD_le d t
    simp only [cutD, List.length_cons]; split <;> omega

def WithRel (w : World) (n : Nat) (s : List Dot) (d : Dot) (i : Value) (wr : World) : Prop :=
  ∃ k : Nat, i = .int .i64 k ∧ k ≤ n ∧ Below w.heap.size w wr ∧ cutD d s = k + cutD d (s.drop k)
theorem WithRel.next {w w1 : World} {n k : Nat} {s : List Dot} {a d : Dot} (hb : Below w.heap.size w w1) (hk : k < n) (h1 : s.drop k = a :: s.drop (k + 1)) (hs : cutD d s = k + cutD d (s.drop k)) (hl : lessD a d = true) : WithRel w n s d (.int .i64 ((k : Int) + 1)) w1 :=
  ⟨k + 1, by simp, hk, hb, by rw [hs, h1, cutD, if_pos hl]; omega⟩

end Go.Proofs.Ytjbakmmmgejhlaa
