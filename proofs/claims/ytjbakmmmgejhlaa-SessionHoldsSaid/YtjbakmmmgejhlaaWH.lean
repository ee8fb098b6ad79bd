/-
  PLAIN: vectors; contexts: the pass over the cloud gives the one compact context with the same dots.
-/
import Derived.Test.YtjbakmmmgejhlaaWG
import Derived.Test.YtjbakmmmgejhlaaWE
namespace Go.Proofs.Ytjbakmmmgejhlaa
open Go.RowKit

/-! ### Vectors -/
def Inc (l : List Dot) : Prop := l.Pairwise (fun a b => a.1 < b.1)
theorem incV_inc : ∀ l : List Dot, incV l = true ↔ Inc l
  | [] => by simp [incV, Inc]
  | [a] => by simp [incV, Inc]
  | a :: b :: t => by
    have ih := incV_inc (b :: t)
    simp only [incV, Bool.and_eq_true, ih, decide_eq_true_eq]
    unfold Inc
    rw [List.pairwise_cons (a := a)]
    constructor
    · rintro ⟨h1, h2⟩
      refine ⟨fun x hx => ?_, h2⟩
      rcases List.mem_cons.1 hx with rfl | hx
      · exact h1
      · exact Int.lt_trans h1 ((List.pairwise_cons.1 h2).1 x hx)
    · rintro ⟨h1, h2⟩
      exact ⟨h1 b List.mem_cons_self, h2⟩
theorem validL_mem {l : List Dot} (h : validL l = true) {d : Dot} (hd : d ∈ l) : validD d = true := by unfold validL at h; rw [List.all_eq_true] at h; exact h d hd
theorem validL_of {l : List Dot} (h : ∀ d ∈ l, validD d = true) : validL l = true := by unfold validL; rw [List.all_eq_true]; exact h
theorem validL_cons {a : Dot} {t : List Dot} (h : validL (a :: t) = true) : validD a = true ∧ validL t = true := ⟨validL_mem h List.mem_cons_self, validL_of fun _ hd => validL_mem h (List.mem_cons_of_mem _ hd)⟩
theorem getV_zero : ∀ {l : List Dot} {r : Int}, (∀ a ∈ l, a.1 ≠ r) → getV l r = 0
  | [], _, _ => rfl
  | a :: t, r, h => by rw [getV, if_neg (h a List.mem_cons_self)]; exact getV_zero fun b hb => h b (List.mem_cons_of_mem _ hb)
theorem getV_mem : ∀ {l : List Dot} {d : Dot}, Inc l → d ∈ l → getV l d.1 = d.2
  | a :: t, d, hi, hd => by
    obtain ⟨h1, h2⟩ := List.pairwise_cons.1 hi
    rw [getV]
    rcases List.mem_cons.1 hd with rfl | hd
    · rw [if_pos rfl]
    · rw [if_neg (by have := h1 d hd; omega)]; exact getV_mem h2 hd
theorem getV_some : ∀ {l : List Dot} {r : Int}, getV l r ≠ 0 → (r, getV l r) ∈ l
  | [], r, h => absurd rfl h
  | a :: t, r, h => by
    rw [getV] at h ⊢
    split
    · rename_i e
      subst e
      exact List.mem_cons_self
    · rename_i e
      rw [if_neg e] at h
      exact List.mem_cons_of_mem _ (getV_some h)
theorem inc_mem {l : List Dot} (hi : Inc l) (hv : validL l = true) (d : Dot) : d ∈ l ↔ getV l d.1 = d.2 ∧ d.2 ≠ 0 := by
  constructor
  · intro hd
    have := validD_iff.1 (validL_mem hv hd)
    exact ⟨getV_mem hi hd, by omega⟩
  · rintro ⟨h1, h2⟩
    have := getV_some (l := l) (r := d.1) (by omega)
    rw [h1] at this
    exact this
theorem inc_ext : ∀ {a b : List Dot}, Inc a → Inc b → (∀ d, d ∈ a ↔ d ∈ b) → a = b
  | [], [], _, _, _ => rfl
  | [], b :: t, _, _, h => by have := (h b).2 List.mem_cons_self; cases this
  | a :: s, [], _, _, h => by have := (h a).1 List.mem_cons_self; cases this
  | a :: s, b :: t, ha, hb, h => by
    obtain ⟨ha1, ha2⟩ := List.pairwise_cons.1 ha
    obtain ⟨hb1, hb2⟩ := List.pairwise_cons.1 hb
    have e : a = b := by
      rcases List.mem_cons.1 ((h a).1 List.mem_cons_self) with e | hm
      · exact e
      · rcases List.mem_cons.1 ((h b).2 List.mem_cons_self) with e | hm2
        · exact e.symm
        · have h1 := hb1 a hm; have h2 := ha1 b hm2
          omega
    subst e
    rw [inc_ext ha2 hb2 fun d => ⟨fun hd => ?_, fun hd => ?_⟩]
    · rcases List.mem_cons.1 ((h d).1 (List.mem_cons_of_mem _ hd)) with rfl | hm
      · have := ha1 d hd; omega
      · exact hm
    · rcases List.mem_cons.1 ((h d).2 (List.mem_cons_of_mem _ hd)) with rfl | hm
      · have := hb1 d hd; omega
      · exact hm
theorem vec_ext {a b : List Dot} (ha : Inc a) (hb : Inc b) (va : validL a = true) (vb : validL b = true) (h : ∀ r, getV a r = getV b r) : a = b :=
  inc_ext ha hb fun d => by rw [inc_mem ha va, inc_mem hb vb, h]
theorem getV_filter : ∀ (l : List Dot) (d : Dot) (r : Int), r ≠ d.1 → getV (l.filter (fun a => a.1 != d.1)) r = getV l r
  | [], _, _, _ => rfl
  | a :: t, d, r, h => by
    rw [List.filter_cons]
    have ih := getV_filter t d r h
    split
    · rw [getV, getV, ih]
    · rename_i hn
      have : a.1 = d.1 := by simpa using hn
      rw [getV, if_neg (by omega), ih]
theorem getV_raiseGo (d : Dot) : ∀ (l : List Dot) (r : Int), Inc l → getV (raiseGo d false l) r = if r = d.1 then d.2 else getV l r
  | [], r, _ => by simp only [raiseGo, getV]; simp [getV, eq_comm]
  | a :: t, r, hi => by
    obtain ⟨h1, h2⟩ := List.pairwise_cons.1 hi
    rw [raiseGo_false]
    split
    · by_cases e : r = d.1
      · rw [getV, if_pos e.symm, if_pos e]
      · rw [getV, if_neg (fun h => e h.symm), if_neg e, getV_filter _ _ _ e]
    · rename_i hn
      rw [getV, getV_raiseGo d t r h2]
      by_cases e : r = d.1
      · rw [if_neg (by omega), if_pos e, if_pos e]
      · rw [if_neg e, if_neg e, getV]
theorem mem_raiseGo (d : Dot) : ∀ (l : List Dot) (x : Dot), x ∈ raiseGo d false l → x = d ∨ (x ∈ l)
  | [], x, h => by simp [raiseGo] at h; exact .inl h
  | a :: t, x, h => by
    rw [raiseGo_false] at h
    split at h
    · rcases List.mem_cons.1 h with h | h
      · exact .inl h
      · exact .inr (List.mem_filter.1 h).1
    · rcases List.mem_cons.1 h with h | h
      · exact .inr (h ▸ List.mem_cons_self)
      · rcases mem_raiseGo d t x h with h | h
        · exact .inl h
        · exact .inr (List.mem_cons_of_mem _ h)
theorem inc_raiseGo (d : Dot) : ∀ (l : List Dot), Inc l → Inc (raiseGo d false l)
  | [], _ => by simp [raiseGo, Inc]
  | a :: t, hi => by
    obtain ⟨h1, h2⟩ := List.pairwise_cons.1 hi
    rw [raiseGo_false]
    split
    · rename_i hle
      refine List.pairwise_cons.2 ⟨fun x hx => ?_, List.Pairwise.filter _ hi⟩
      obtain ⟨hx1, hx2⟩ := List.mem_filter.1 hx
      have hne : x.1 ≠ d.1 := by simpa using hx2
      rcases List.mem_cons.1 hx1 with rfl | hx1
      · omega
      · have := h1 x hx1; omega
    · rename_i hle
      refine List.pairwise_cons.2 ⟨fun x hx => ?_, inc_raiseGo d t h2⟩
      rcases mem_raiseGo d t x hx with rfl | hx
      · omega
      · exact h1 x hx
theorem inc_raise {v : List Dot} (d : Dot) (h : Inc v) : Inc (raiseV v d) := by unfold raiseV; split; exact h; exact inc_raiseGo d v h
theorem getV_raise {v : List Dot} {d : Dot} (h : Inc v) (hd : validD d = true) (r : Int) : getV (raiseV v d) r = if r = d.1 then max (getV v r) d.2 else getV v r := by
  unfold raiseV hasV
  rw [hd, Bool.true_and]
  by_cases e : r = d.1
  · subst e
    rw [if_pos rfl]
    split
    · rename_i h1; have := of_decide_eq_true h1; omega
    · rename_i h1
      rw [getV_raiseGo d v _ h, if_pos rfl]
      have : ¬ d.2 ≤ getV v d.1 := fun h => h1 (decide_eq_true h)
      omega
  · rw [if_neg e]
    split
    · rfl
    · rw [getV_raiseGo d v _ h, if_neg e]

/-- What a list of dots makes: the greatest counter of each replica. -/
def madeV (l : List Dot) : List Dot := l.foldl raiseV []
def mostI (l : List Dot) (r : Int) (m : Int) : Int := l.foldl (fun m d => if r = d.1 then max m d.2 else m) m
theorem fold_raise : ∀ (l v : List Dot), validL l = true → Inc v → validL v = true → Inc (l.foldl raiseV v) ∧ validL (l.foldl raiseV v) = true ∧ ∀ r, getV (l.foldl raiseV v) r = mostI l r (getV v r)
  | [], v, _, h, h' => ⟨h, h', fun _ => rfl⟩
  | d :: t, v, hl, h, h' => by
    obtain ⟨hd, ht⟩ := validL_cons hl
    obtain ⟨i1, i2, i3⟩ := fold_raise t (raiseV v d) ht (inc_raise d h) (raiseV_validL d hd v h')
    refine ⟨i1, i2, fun r => ?_⟩
    rw [List.foldl_cons, i3, getV_raise h hd]
    rfl
theorem made_spec {l : List Dot} (hl : validL l = true) : Inc (madeV l) ∧ validL (madeV l) = true ∧ ∀ r, getV (madeV l) r = mostI l r 0 := fold_raise l [] hl List.Pairwise.nil rfl
theorem mostI_cons (a : Dot) (t : List Dot) (r m : Int) : mostI (a :: t) r m = mostI t r (if r = a.1 then max m a.2 else m) := rfl
theorem mostI_none : ∀ {l : List Dot} {r : Int}, (∀ a ∈ l, a.1 ≠ r) → ∀ m, mostI l r m = m
  | [], _, _, _ => rfl
  | a :: t, r, h, m => by
    rw [mostI_cons, if_neg (fun e => h a List.mem_cons_self e.symm)]
    exact mostI_none (fun b hb => h b (List.mem_cons_of_mem _ hb)) m
theorem mostI_inc : ∀ {l : List Dot} {r m : Int}, Inc l → validL l = true → 0 ≤ m → mostI l r m = max m (getV l r)
  | [], _, m, _, _, hm => by show m = max m 0; omega
  | a :: t, r, m, hi, hv, hm => by
    obtain ⟨h1, h2⟩ := List.pairwise_cons.1 hi
    obtain ⟨v1, v2⟩ := validL_cons hv
    rw [mostI_cons, getV]
    by_cases e : r = a.1
    · subst e
      rw [if_pos rfl, if_pos rfl]
      exact mostI_none (fun b hb => by have := h1 b hb; omega) _
    · rw [if_neg e, if_neg (fun h => e h.symm)]
      exact mostI_inc h2 v2 hm
theorem made_self {v : List Dot} (h : Inc v) (hv : validL v = true) : madeV v = v := by
  obtain ⟨h1, h2, h3⟩ := made_spec hv
  refine vec_ext h1 h h2 hv fun r => ?_
  rw [h3, mostI_inc h hv (Int.le_refl _)]
  have := getV_bd v r hv
  omega
/-- The merge of two. -/
def mergeV (a b : List Dot) : List Dot := b.foldl raiseV a
theorem made_append {a b : List Dot} (h : Inc a) (hv : validL a = true) : madeV (a ++ b) = mergeV a b := by
  unfold mergeV
  conv => rhs; rw [← made_self h hv]
  unfold madeV
  rw [List.foldl_append]
theorem merge_spec {a b : List Dot} (ha : Inc a) (va : validL a = true) (hb : Inc b) (vb : validL b = true) : Inc (mergeV a b) ∧ validL (mergeV a b) = true ∧ ∀ r, getV (mergeV a b) r = max (getV a r) (getV b r) := by
  obtain ⟨h1, h2, h3⟩ := fold_raise b a vb ha va
  refine ⟨h1, h2, fun r => ?_⟩
  show getV (b.foldl raiseV a) r = _
  rw [h3, mostI_inc hb vb (getV_bd a r va).1]
theorem merge_one {v : List Dot} (d : Dot) : mergeV v [d] = raiseV v d := rfl

/-! ### Contexts -/
structure Ok (c : Ctx) : Prop where
  inc : Inc c.1
  vec : validL c.1 = true
  ord : Ord c.2
  dots : validL c.2 = true
theorem ok_iff {c : Ctx} : validC c = true ↔ Ok c := by
  unfold validC validV
  rw [Bool.and_eq_true, Bool.and_eq_true, Bool.and_eq_true, incV_inc, isSet_ord]
  exact ⟨fun ⟨⟨a, b⟩, c, d⟩ => ⟨a, b, c, d⟩, fun ⟨a, b, c, d⟩ => ⟨⟨a, b⟩, c, d⟩⟩
/-- A dot is in a context. -/
def In (c : Ctx) (d : Dot) : Prop := validD d = true ∧ (d.2 ≤ getV c.1 d.1 ∨ d ∈ c.2)
theorem in_iff {c : Ctx} {d : Dot} : hasC c d = true ↔ In c d := by
  unfold hasC hasV In
  cases h : validD d <;> simp [memD_iff]
theorem in_not {c : Ctx} {d : Dot} : hasC c d = false ↔ ¬ In c d := by rw [← in_iff]; simp
structure Tight (c : Ctx) : Prop where
  ok : Ok c
  far : ∀ d ∈ c.2, getV c.1 d.1 + 1 < d.2
theorem tight_iff {c : Ctx} : compC c = true ↔ Tight c := by
  unfold compC
  rw [Bool.and_eq_true, ok_iff, Bool.not_eq_true', List.any_eq_false]
  constructor
  · rintro ⟨a, b⟩
    refine ⟨a, fun d hd => ?_⟩
    have := b d hd
    unfold nearD at this
    have h : ¬ d.2 ≤ getV c.1 d.1 + 1 := fun h => this (decide_eq_true h)
    omega
  · rintro ⟨a, b⟩
    refine ⟨a, fun d hd h => ?_⟩
    have := b d hd
    unfold nearD at h
    have := of_decide_eq_true h
    omega
/-- What holds in the midst of a pass: s has been made, l is still to come. -/
structure Mid (c s : Ctx) (l : List Dot) : Prop where
  inc : Inc s.1
  vec : validL s.1 = true
  ord : Ord (s.2 ++ l)
  dots : validL (s.2 ++ l) = true
  far : ∀ d ∈ s.2, getV s.1 d.1 + 1 < d.2
  same : ∀ d, In (s.1, s.2 ++ l) d ↔ In c d
  old : ∀ d ∈ l, hasV s.1 d = hasV c.1 d
theorem hasV_valid {v : List Dot} {d : Dot} (h : validD d = true) : hasV v d = true ↔ d.2 ≤ getV v d.1 := by unfold hasV; rw [h]; simp
theorem Mid.next {c s : Ctx} {d : Dot} {t : List Dot} (h : Mid c s (d :: t)) : Mid c (stepC s d) t := by
  have hd : validD d = true := validL_mem h.dots (List.mem_append_right _ List.mem_cons_self)
  have hord := h.ord
  unfold Ord at hord
  rw [List.pairwise_append, List.pairwise_cons] at hord
  obtain ⟨o1, ⟨o2, o3⟩, o4⟩ := hord
  have hsub : (s.2 ++ t).Sublist (s.2 ++ d :: t) := List.Sublist.append_left (List.sublist_cons_self d t) _
  unfold stepC
  by_cases h1 : hasV s.1 d = true
  · rw [if_pos h1]
    refine ⟨h.inc, h.vec, List.Pairwise.sublist hsub h.ord, validL_of fun x hx => validL_mem h.dots (hsub.subset hx), h.far, fun x => ?_, fun x hx => h.old x (List.mem_cons_of_mem _ hx)⟩
    rw [← h.same]
    unfold In
    refine and_congr_right fun hx => ?_
    simp only [List.mem_append, List.mem_cons]
    constructor
    · rintro (h | h | h)
      · exact .inl h
      · exact .inr (.inl h)
      · exact .inr (.inr (.inr h))
    · rintro (h' | h' | rfl | h')
      · exact .inl h'
      · exact .inr (.inl h')
      · exact .inl ((hasV_valid hd).1 h1)
      · exact .inr (.inr h')
  · rw [if_neg h1]
    have hgt : ¬ d.2 ≤ getV s.1 d.1 := fun h => h1 ((hasV_valid hd).2 h)
    by_cases h2 : d.2 = getV s.1 d.1 + 1
    · rw [if_pos (by simpa using h2)]
      have hg := getV_raise (d := d) h.inc hd
      have hgd : getV (raiseV s.1 d) d.1 = d.2 := by rw [hg, if_pos rfl]; omega
      refine ⟨inc_raise d h.inc, raiseV_validL d hd _ h.vec, List.Pairwise.sublist hsub h.ord, validL_of fun x hx => validL_mem h.dots (hsub.subset hx), fun x hx => ?_, fun x => ?_, fun x hx => ?_⟩
      · show getV (raiseV s.1 d) x.1 + 1 < x.2
        rw [hg]
        have hf := h.far x hx
        by_cases e : x.1 = d.1
        · exfalso
          have hl := lessD_iff.1 (o4 x hx d List.mem_cons_self)
          rw [e] at hf
          omega
        · rw [if_neg e]; exact hf
      · rw [← h.same]
        unfold In
        refine and_congr_right fun hx => ?_
        show x.2 ≤ getV (raiseV s.1 d) x.1 ∨ x ∈ s.2 ++ t ↔ x.2 ≤ getV s.1 x.1 ∨ x ∈ s.2 ++ d :: t
        rw [hg]
        simp only [List.mem_append, List.mem_cons]
        by_cases e : x.1 = d.1
        · rw [if_pos e]
          constructor
          · rintro (h' | h' | h')
            · by_cases e2 : x.2 = d.2
              · exact .inr (.inr (.inl (Prod.ext e e2)))
              · rw [e] at h' ⊢; exact .inl (by omega)
            · exact .inr (.inl h')
            · exact .inr (.inr (.inr h'))
          · rintro (h' | h' | rfl | h')
            · exact .inl (by omega)
            · exact .inr (.inl h')
            · exact .inl (by omega)
            · exact .inr (.inr h')
        · rw [if_neg e]
          have hne : x ≠ d := fun h => e (by rw [h])
          simp [hne]
      · show hasV (raiseV s.1 d) x = _
        rw [← h.old x (List.mem_cons_of_mem _ hx)]
        have hl := lessD_iff.1 (o2 x hx)
        have hxv : validD x = true := validL_mem h.dots (List.mem_append_right _ (List.mem_cons_of_mem _ hx))
        unfold hasV
        rw [hg]
        by_cases e : x.1 = d.1
        · rw [if_pos e, e]
          have a1 : ¬ x.2 ≤ max (getV s.1 d.1) d.2 := by omega
          have a2 : ¬ x.2 ≤ getV s.1 d.1 := by omega
          rw [decide_eq_false a1, decide_eq_false a2]
        · rw [if_neg e]
    · rw [if_neg (by simpa using h2)]
      have e : s.2 ++ [d] ++ t = s.2 ++ d :: t := by simp
      refine ⟨h.inc, h.vec, by show Ord (s.2 ++ [d] ++ t); rw [e]; exact h.ord, by show validL (s.2 ++ [d] ++ t) = true; rw [e]; exact h.dots, fun x hx => ?_, fun x => by show In (s.1, s.2 ++ [d] ++ t) x ↔ _; rw [e]; exact h.same x, fun x hx => h.old x (List.mem_cons_of_mem _ hx)⟩
      rcases List.mem_append.1 hx with hx | hx
      · exact h.far x hx
      · obtain rfl : x = d := by simpa using hx
        show getV s.1 x.1 + 1 < x.2
        omega
theorem Mid.start {c : Ctx} (h : Ok c) : Mid c (c.1, []) c.2 := ⟨h.inc, h.vec, by simpa using h.ord, by simpa using h.dots, (fun d hd => nomatch hd), (fun d => by simp), fun _ _ => rfl⟩
theorem Mid.fold {c : Ctx} : ∀ {l : List Dot} {s : Ctx}, Mid c s l → Mid c (l.foldl stepC s) []
  | [], _, h => h
  | d :: t, s, h => Mid.fold (l := t) (s := stepC s d) h.next
theorem Mid.tight {c s : Ctx} (h : Mid c s []) : Tight s ∧ ∀ d, In s d ↔ In c d := by
  have ho := h.ord; have hd := h.dots; have hs := h.same
  rw [List.append_nil] at ho hd hs
  exact ⟨⟨⟨h.inc, h.vec, ho, hd⟩, h.far⟩, hs⟩
theorem pass_spec {c : Ctx} (h : Ok c) : Tight (passC c) ∧ ∀ d, In (passC c) d ↔ In c d := (Mid.start h).fold.tight
theorem pass_comp {c : Ctx} (h : validC c = true) : compC (passC c) = true := tight_iff.2 (pass_spec (ok_iff.1 h)).1
theorem fold_far : ∀ (l : List Dot) (v k : List Dot), (∀ d ∈ l, getV v d.1 + 1 < d.2) → l.foldl stepC (v, k) = (v, k ++ l)
  | [], v, k, _ => by simp
  | d :: t, v, k, h => by
    have hd := h d List.mem_cons_self
    have e : stepC (v, k) d = (v, k ++ [d]) := by
      unfold stepC
      have h1 : ¬ hasV v d = true := by
        unfold hasV; rw [Bool.and_eq_true]; rintro ⟨_, h⟩; have := of_decide_eq_true h; omega
      rw [if_neg h1, if_neg (by simp; omega)]
    rw [List.foldl_cons, e, fold_far t v _ fun x hx => h x (List.mem_cons_of_mem _ hx), List.append_assoc]
    rfl
theorem pass_tight {c : Ctx} (h : Tight c) : passC c = c := by
  unfold passC
  rw [fold_far _ _ _ h.far]
  rfl
theorem compact_pass {c : Ctx} : compactC c = passC c := by
  unfold compactC
  split
  · rename_i h; rw [pass_tight (tight_iff.1 h)]
  · rfl
/-- Two compact contexts with the same dots are one. -/
theorem tight_vec {a b : Ctx} (ha : Tight a) (hb : Tight b) (h : ∀ d, In a d → In b d) (r : Int) : getV a.1 r ≤ getV b.1 r := by
  have ga := getV_bd a.1 r ha.ok.vec
  have gb := getV_bd b.1 r hb.ok.vec
  refine Int.not_lt.1 fun hlt => ?_
  have hm := validD_iff.1 (validL_mem ha.ok.vec (getV_some (l := a.1) (r := r) (by omega)))
  have hin : In a (r, getV b.1 r + 1) := ⟨validD_iff.2 ⟨hm.1, hm.2.1, by show 1 ≤ getV b.1 r + 1; omega, by show getV b.1 r + 1 ≤ _; omega⟩, .inl (by show getV b.1 r + 1 ≤ getV a.1 r; omega)⟩
  rcases (h _ hin).2 with h' | h'
  · have : getV b.1 r + 1 ≤ getV b.1 r := h'
    omega
  · have : getV b.1 r + 1 < getV b.1 r + 1 := hb.far _ h'
    omega
theorem tight_ext {a b : Ctx} (ha : Tight a) (hb : Tight b) (h : ∀ d, In a d ↔ In b d) : a = b := by
  have hv : a.1 = b.1 := vec_ext ha.ok.inc hb.ok.inc ha.ok.vec hb.ok.vec fun r => Int.le_antisymm (tight_vec ha hb (fun d => (h d).1) r) (tight_vec hb ha (fun d => (h d).2) r)
  refine Prod.ext hv (ord_ext ha.ok.ord hb.ok.ord fun d => ⟨fun hd => ?_, fun hd => ?_⟩)
  · have hf := ha.far d hd
    rcases ((h d).1 ⟨validL_mem ha.ok.dots hd, .inr hd⟩).2 with h' | h'
    · rw [← hv] at h'; omega
    · exact h'
  · have hf := hb.far d hd
    rcases ((h d).2 ⟨validL_mem hb.ok.dots hd, .inr hd⟩).2 with h' | h'
    · rw [hv] at h'; omega
    · exact h'
theorem pass_ext {a b : Ctx} (ha : Ok a) (hb : Ok b) : passC a = passC b ↔ ∀ d, In a d ↔ In b d := by
  obtain ⟨h1, h2⟩ := pass_spec ha
  obtain ⟨h3, h4⟩ := pass_spec hb
  constructor
  · intro e d; rw [← h2, ← h4, e]
  · intro h
    exact tight_ext h1 h3 fun d => by rw [h2, h4, h]
end Go.Proofs.Ytjbakmmmgejhlaa

/-
  PLAIN: how many dots; what is missing; more dots; both of two; dots in any order.
-/
namespace Go.Proofs.Ytjbakmmmgejhlaa
open Go.RowKit

/-! ### How many dots -/
theorem wrapU (a b : Int) : IntKind.u64.wrap (IntKind.u64.wrap a + b) = IntKind.u64.wrap (a + b) := by simp only [IntKind.wrap_u64]; omega
theorem wrapU2 (a b : Int) : IntKind.u64.wrap (IntKind.u64.wrap a + IntKind.u64.wrap b) = IntKind.u64.wrap (a + b) := by simp only [IntKind.wrap_u64]; omega
theorem wrapU0 : IntKind.u64.wrap 0 = 0 := by simp only [IntKind.wrap_u64]; rfl
def sumV : List Dot → Int
  | [] => 0
  | a :: t => a.2 + sumV t
def cntV (v : List Dot) : List Dot → Int
  | [] => 0
  | a :: t => (if hasV v a then 0 else 1) + cntV v t
theorem fold_addU : ∀ (l : List Dot) (s : Int), l.foldl addU (IntKind.u64.wrap s) = IntKind.u64.wrap (s + sumV l)
  | [], s => by simp [sumV]
  | a :: t, s => by
    rw [List.foldl_cons, addU, wrapU2, fold_addU t, sumV, Int.add_assoc]
theorem fold_oneU (v : List Dot) : ∀ (l : List Dot) (s : Int), l.foldl (oneU v) (IntKind.u64.wrap s) = IntKind.u64.wrap (s + cntV v l)
  | [], s => by simp [cntV]
  | a :: t, s => by
    rw [List.foldl_cons, oneU, cntV]
    split
    · rw [fold_oneU v t, Int.zero_add]
    · rw [wrapU, fold_oneU v t, Int.add_assoc]
theorem sizeR_sum (c : Ctx) : sizeR c = IntKind.u64.wrap (sumV c.1 + cntV c.1 c.2) := by
  unfold sizeR
  have h := fold_addU c.1 0
  rw [wrapU0] at h
  rw [h, fold_oneU, Int.zero_add]
/-- The program's own way: of the compact context. -/
def sizeI (c : Ctx) : Int := c.1.foldl addU (IntKind.u64.wrap c.2.length)
theorem filter_self : ∀ {t : List Dot} {r : Int}, (∀ a ∈ t, a.1 ≠ r) → t.filter (fun a => a.1 != r) = t := fun h => List.filter_eq_self.2 fun a ha => by simpa using h a ha
theorem sum_raise (d : Dot) : ∀ {v : List Dot}, Inc v → sumV (raiseGo d false v) = sumV v - getV v d.1 + d.2
  | [], _ => by simp [raiseGo, sumV, getV]
  | a :: t, hi => by
    obtain ⟨h1, h2⟩ := List.pairwise_cons.1 hi
    rw [raiseGo_false]
    split
    · rename_i hle
      rw [sumV, List.filter_cons]
      by_cases e : a.1 = d.1
      · rw [if_neg (by simpa using e), filter_self (fun b hb => by have := h1 b hb; omega), sumV, getV, if_pos e]; omega
      · rw [if_pos (by simpa using e), filter_self (fun b hb => by have := h1 b hb; omega), getV, if_neg e, getV_zero (fun b hb => by have := h1 b hb; omega)]; omega
    · rename_i hle
      rw [sumV, sum_raise d h2, sumV, getV, if_neg (by omega)]; omega
theorem Mid.count {c s : Ctx} {d : Dot} {t : List Dot} (h : Mid c s (d :: t)) : sumV (stepC s d).1 + (stepC s d).2.length + cntV c.1 t = sumV s.1 + s.2.length + cntV c.1 (d :: t) := by
  have ho := h.old d List.mem_cons_self
  rw [cntV, ← ho]
  unfold stepC
  by_cases h1 : hasV s.1 d = true
  · rw [if_pos h1, if_pos h1]; omega
  · rw [if_neg h1, if_neg h1]
    by_cases h2 : d.2 = getV s.1 d.1 + 1
    · rw [if_pos (by simpa using h2)]
      unfold raiseV
      rw [if_neg h1]
      show sumV (raiseGo d false s.1) + (s.2.length : Int) + _ = _
      rw [sum_raise d h.inc]; omega
    · rw [if_neg (by simpa using h2)]
      show sumV s.1 + ((s.2 ++ [d]).length : Int) + _ = _
      rw [List.length_append, List.length_singleton]; omega
theorem Mid.total {c : Ctx} : ∀ {l : List Dot} {s : Ctx}, Mid c s l → sumV (l.foldl stepC s).1 + (l.foldl stepC s).2.length = sumV s.1 + s.2.length + cntV c.1 l
  | [], s, _ => by simp [cntV]
  | d :: t, s, h => by
    have h1 := Mid.total (l := t) (s := stepC s d) h.next
    have h2 := h.count
    rw [List.foldl_cons]; omega
theorem size_pass {c : Ctx} (h : Ok c) : sizeI (passC c) = sizeR c := by
  have ht := (Mid.start h).total
  rw [sizeR_sum]
  unfold sizeI
  rw [fold_addU]
  have e : ((passC c).2.length : Int) + sumV (passC c).1 = sumV c.1 + cntV c.1 c.2 := by
    unfold passC; simp at ht; omega
  rw [e]

/-! ### What is missing; more dots; both of two -/
theorem fold_miss (c : Ctx) : ∀ (l s : List Dot), Ord s → Ord (l.foldl (fun acc d => if hasC c d then acc else withD acc d) s) ∧ ∀ x, x ∈ l.foldl (fun acc d => if hasC c d then acc else withD acc d) s ↔ x ∈ s ∨ (x ∈ l ∧ hasC c x = false)
  | [], s, h => ⟨h, fun x => by simp⟩
  | a :: t, s, h => by
    rw [List.foldl_cons]
    cases hh : hasC c a with
    | true =>
      obtain ⟨h1, h2⟩ := fold_miss c t s h
      refine ⟨h1, fun x => ?_⟩
      rw [if_pos rfl, h2, List.mem_cons]
      constructor
      · rintro (h | ⟨h, h'⟩)
        · exact .inl h
        · exact .inr ⟨.inr h, h'⟩
      · rintro (h | ⟨rfl | h, h'⟩)
        · exact .inl h
        · rw [hh] at h'; cases h'
        · exact .inr ⟨h, h'⟩
    | false =>
      obtain ⟨h1, h2⟩ := fold_miss c t (withD s a) (ord_with a h)
      rw [if_neg (by simp)]
      refine ⟨h1, fun x => ?_⟩
      rw [h2, mem_with, List.mem_cons]
      constructor
      · rintro ((h | rfl) | ⟨h, h'⟩)
        · exact .inl h
        · exact .inr ⟨.inl rfl, hh⟩
        · exact .inr ⟨.inr h, h'⟩
      · rintro (h | ⟨rfl | h, h'⟩)
        · exact .inl (.inl h)
        · exact .inl (.inr rfl)
        · exact .inr ⟨h, h'⟩
theorem miss_filter (c : Ctx) (l : List Dot) : (unionD l []).filter (fun d => !hasC c d) = missC c l := by
  obtain ⟨h1, h2⟩ := fold_miss c l [] List.Pairwise.nil
  refine ord_ext (List.Pairwise.filter _ (ord_union _ _)) h1 fun d => ?_
  show _ ↔ d ∈ l.foldl _ []
  rw [h2, List.mem_filter, mem_union]
  simp
theorem miss_none {c : Ctx} {l : List Dot} (h : ∀ d ∈ l, In c d) : missC c l = [] := by
  rw [← miss_filter, List.filter_eq_nil_iff]
  intro d hd
  have := mem_union.1 hd
  simp only [List.not_mem_nil, or_false] at this
  simp [in_iff.2 (h d this)]
theorem ok_nil : Ok ([], []) := ⟨List.Pairwise.nil, rfl, List.Pairwise.nil, rfl⟩
theorem in_nil {d : Dot} : ¬ In ([], []) d := by
  rintro ⟨h1, h | h⟩
  · have := validD_iff.1 h1; have : d.2 ≤ 0 := h; omega
  · cases h
theorem valid_union {a b : List Dot} (ha : validL a = true) (hb : validL b = true) : validL (unionD a b) = true := validL_of fun d hd => by
  rcases mem_union.1 hd with h | h
  · exact validL_mem ha h
  · exact validL_mem hb h
theorem ok_add {c : Ctx} {l : List Dot} (h : Ok c) (hl : validL l = true) : Ok (c.1, unionD c.2 l) := ⟨h.inc, h.vec, ord_union _ _, valid_union h.dots hl⟩
theorem in_add {c : Ctx} {l : List Dot} (hl : validL l = true) (d : Dot) : In (c.1, unionD c.2 l) d ↔ In c d ∨ d ∈ l := by
  unfold In
  show validD d = true ∧ (d.2 ≤ getV c.1 d.1 ∨ d ∈ unionD c.2 l) ↔ _
  rw [mem_union]
  constructor
  · rintro ⟨h, h' | h' | h'⟩
    · exact .inl ⟨h, .inl h'⟩
    · exact .inl ⟨h, .inr h'⟩
    · exact .inr h'
  · rintro (⟨h, h' | h'⟩ | h')
    · exact ⟨h, .inl h'⟩
    · exact ⟨h, .inr (.inl h')⟩
    · exact ⟨validL_mem hl h', .inr (.inr h')⟩
theorem add_spec {c : Ctx} {l : List Dot} (h : Ok c) (hl : validL l = true) : Tight (addC c l) ∧ ∀ d, In (addC c l) d ↔ In c d ∨ d ∈ l := by
  unfold addC
  rw [compact_pass]
  obtain ⟨h1, h2⟩ := pass_spec (ok_add h hl)
  exact ⟨h1, fun d => by rw [h2, in_add hl]⟩
/-- The compact context with the dots of two. -/
def unionC (a b : Ctx) : Ctx := compactC (mergeV a.1 b.1, unionD a.2 b.2)
theorem ok_union {a b : Ctx} (ha : Ok a) (hb : Ok b) : Ok (mergeV a.1 b.1, unionD a.2 b.2) := by
  obtain ⟨h1, h2, _⟩ := merge_spec ha.inc ha.vec hb.inc hb.vec
  exact ⟨h1, h2, ord_union _ _, valid_union ha.dots hb.dots⟩
theorem in_union {a b : Ctx} (ha : Ok a) (hb : Ok b) (d : Dot) : In (mergeV a.1 b.1, unionD a.2 b.2) d ↔ In a d ∨ In b d := by
  obtain ⟨_, _, h3⟩ := merge_spec ha.inc ha.vec hb.inc hb.vec
  unfold In
  show validD d = true ∧ (d.2 ≤ getV (mergeV a.1 b.1) d.1 ∨ d ∈ unionD a.2 b.2) ↔ _
  rw [h3, mem_union]
  constructor
  · rintro ⟨h, h' | h' | h'⟩
    · by_cases h4 : d.2 ≤ getV a.1 d.1
      · exact .inl ⟨h, .inl h4⟩
      · exact .inr ⟨h, .inl (by omega)⟩
    · exact .inl ⟨h, .inr h'⟩
    · exact .inr ⟨h, .inr h'⟩
  · rintro (⟨h, h' | h'⟩ | ⟨h, h' | h'⟩)
    · exact ⟨h, .inl (by omega)⟩
    · exact ⟨h, .inr (.inl h')⟩
    · exact ⟨h, .inl (by omega)⟩
    · exact ⟨h, .inr (.inr h')⟩
theorem union_spec {a b : Ctx} (ha : Ok a) (hb : Ok b) : Tight (unionC a b) ∧ ∀ d, In (unionC a b) d ↔ In a d ∨ In b d := by
  unfold unionC
  rw [compact_pass]
  obtain ⟨h1, h2⟩ := pass_spec (ok_union ha hb)
  exact ⟨h1, fun d => by rw [h2, in_union ha hb]⟩
theorem union_comm {a b : Ctx} (ha : Ok a) (hb : Ok b) : unionC a b = unionC b a :=
  tight_ext (union_spec ha hb).1 (union_spec hb ha).1 fun d => by rw [(union_spec ha hb).2, (union_spec hb ha).2, or_comm]
theorem union_assoc {a b c : Ctx} (ha : Ok a) (hb : Ok b) (hc : Ok c) : unionC a (unionC b c) = unionC (unionC a b) c := by
  have h1 := union_spec ha hb; have h2 := union_spec hb hc
  exact tight_ext (union_spec ha h2.1.ok).1 (union_spec h1.1.ok hc).1 fun d => by rw [(union_spec ha h2.1.ok).2, (union_spec h1.1.ok hc).2, h1.2, h2.2, or_assoc]
theorem eqC_iff {a b : Ctx} : eqC a b = true ↔ a = b := by
  unfold eqC
  rw [Bool.and_eq_true, eqL_iff, eqL_iff]
  exact ⟨fun ⟨h, h'⟩ => Prod.ext h h', fun h => by rw [h]; exact ⟨rfl, rfl⟩⟩
theorem eqC_self (a : Ctx) : eqC a a = true := eqC_iff.2 rfl
/-- Are all dots of one in the other one: the program's way. -/
def inC (a b : Ctx) : Bool := eqC (unionC a b) (compactC b)
theorem inC_iff {a b : Ctx} (ha : Ok a) (hb : Ok b) : inC a b = true ↔ ∀ d, In a d → In b d := by
  unfold inC
  rw [eqC_iff]
  obtain ⟨h1, h2⟩ := union_spec ha hb
  rw [compact_pass]
  obtain ⟨h3, h4⟩ := pass_spec hb
  constructor
  · intro e d hd; rw [← h4, ← e, h2]; exact .inl hd
  · intro h
    refine tight_ext h1 h3 fun d => ?_
    rw [h2, h4]
    exact ⟨fun h' => h'.elim (h d) id, .inr⟩
/-- The reference's way. -/
def inRef (a b : Ctx) : Bool := a.2.all (hasC (compactC b)) && a.1.all (hasV (compactC b).1)
theorem inRef_iff {a b : Ctx} (ha : Ok a) (hb : Ok b) : inRef a b = true ↔ ∀ d, In a d → In b d := by
  unfold inRef
  rw [compact_pass, Bool.and_eq_true, List.all_eq_true, List.all_eq_true]
  obtain ⟨h3, h4⟩ := pass_spec hb
  constructor
  · rintro ⟨h1, h2⟩ d ⟨hd, h | h⟩
    · rw [← h4]
      have hv := validD_iff.1 hd
      have hm := getV_some (l := a.1) (r := d.1) (by omega)
      have h5 := (hasV_valid (validL_mem ha.vec hm)).1 (h2 _ hm)
      have h6 : getV a.1 d.1 ≤ getV (passC b).1 d.1 := h5
      exact ⟨hd, .inl (by omega)⟩
    · rw [← h4]; exact in_iff.1 (h1 d h)
  · intro h
    refine ⟨fun d hd => in_iff.2 ((h4 d).2 (h d ⟨validL_mem ha.dots hd, .inr hd⟩)), fun d hd => ?_⟩
    have hv := validL_mem ha.vec hd
    have hv' := validD_iff.1 hv
    have gb := getV_bd (passC b).1 d.1 h3.ok.vec
    rw [hasV_valid hv]
    refine Int.not_lt.1 fun hlt => ?_
    have hin : In a (d.1, getV (passC b).1 d.1 + 1) := ⟨validD_iff.2 ⟨hv'.1, hv'.2.1, by show 1 ≤ getV (passC b).1 d.1 + 1; omega, by show getV (passC b).1 d.1 + 1 ≤ _; omega⟩, .inl (by show getV (passC b).1 d.1 + 1 ≤ getV a.1 d.1; rw [getV_mem ha.inc hd]; omega)⟩
    rcases ((h4 _).2 (h _ hin)).2 with h' | h'
    · have : getV (passC b).1 d.1 + 1 ≤ getV (passC b).1 d.1 := h'
      omega
    · have : getV (passC b).1 d.1 + 1 < getV (passC b).1 d.1 + 1 := h3.far _ h'
      omega
theorem inC_ref {a b : Ctx} (ha : Ok a) (hb : Ok b) : inC a b = inRef a b := by
  rw [Bool.eq_iff_iff, inC_iff ha hb, inRef_iff ha hb]
/-- The theorem of the stage, its first half. -/
theorem same_iff {a b : Ctx} (ha : Ok a) (hb : Ok b) : eqC (compactC a) (compactC b) = (inC a b && inC b a) := by
  rw [Bool.eq_iff_iff, eqC_iff, Bool.and_eq_true, inC_iff ha hb, inC_iff hb ha, compact_pass, compact_pass, pass_ext ha hb]
  exact ⟨fun h => ⟨fun d => (h d).1, fun d => (h d).2⟩, fun h d => ⟨h.1 d, h.2 d⟩⟩
theorem in_self {a b : Ctx} (ha : Ok a) (hb : Ok b) : inC a (unionC a b) = true := (inC_iff ha (union_spec ha hb).1.ok).2 fun d hd => ((union_spec ha hb).2 d).2 (.inl hd)
theorem has_union {a b : Ctx} (ha : Ok a) (hb : Ok b) (d : Dot) : hasC (unionC a b) d = (hasC a d || hasC b d) := by
  rw [Bool.eq_iff_iff, in_iff, Bool.or_eq_true, in_iff, in_iff, (union_spec ha hb).2]

/-! ### Dots that come in any order -/
def addAll (c : Ctx) (ks : List Dot) : Ctx := ks.foldl (fun x d => addC x [d]) c
theorem addAll_spec : ∀ (ks : List Dot) (c : Ctx), Ok c → validL ks = true → Ok (addAll c ks) ∧ (ks ≠ [] → Tight (addAll c ks)) ∧ ∀ d, In (addAll c ks) d ↔ In c d ∨ d ∈ ks
  | [], c, h, _ => ⟨h, fun h => absurd rfl h, fun d => by simp [addAll]⟩
  | k :: t, c, h, hv => by
    obtain ⟨v1, v2⟩ := validL_cons hv
    have hk : validL [k] = true := validL_of fun d hd => by rw [List.mem_singleton.1 hd]; exact v1
    obtain ⟨s1, s2⟩ := add_spec h hk
    obtain ⟨i1, i2, i3⟩ := addAll_spec t (addC c [k]) s1.ok v2
    have e : addAll c (k :: t) = addAll (addC c [k]) t := rfl
    rw [e]
    refine ⟨i1, fun _ => ?_, fun d => ?_⟩
    · cases t with
      | nil => exact s1
      | cons b s => exact i2 (by simp)
    · rw [i3, s2, List.mem_singleton, List.mem_cons, or_assoc]
theorem addAll_snoc (c : Ctx) (ks : List Dot) (d : Dot) : addAll c (ks ++ [d]) = addC (addAll c ks) [d] := by unfold addAll; rw [List.foldl_append]; rfl
/-- A list that begins at another place. -/
def turnL (t : Nat) (l : List Dot) : List Dot := (List.range l.length).map fun i => l.getD ((i + t) % l.length) (0, 0)
theorem turn_mem {t : Nat} {l : List Dot} {d : Dot} : d ∈ turnL t l ↔ d ∈ l := by
  unfold turnL
  rw [List.mem_map]
  constructor
  · rintro ⟨i, hi, rfl⟩
    have hn : 0 < l.length := by have := List.mem_range.1 hi; omega
    have hj := Nat.mod_lt (i + t) hn
    rw [List.getD_eq_getElem?_getD, List.getElem?_eq_getElem hj]
    exact List.getElem_mem hj
  · intro hd
    obtain ⟨j, hj, rfl⟩ := List.getElem_of_mem hd
    refine ⟨(j + (l.length - t % l.length)) % l.length, List.mem_range.2 (Nat.mod_lt _ (by omega)), ?_⟩
    have ht := Nat.mod_lt t (show 0 < l.length by omega)
    have e : ((j + (l.length - t % l.length)) % l.length + t) % l.length = j := by
      have hq := Nat.div_add_mod t l.length
      have e2 : j + (l.length - t % l.length) + t = j + l.length * (1 + t / l.length) := by rw [Nat.mul_add]; omega
      rw [Nat.mod_add_mod, e2, Nat.add_mul_mod_self_left, Nat.mod_eq_of_lt hj]
    rw [e, List.getD_eq_getElem?_getD, List.getElem?_eq_getElem hj]
    rfl
theorem turn_valid {t : Nat} {l : List Dot} (h : validL l = true) : validL (turnL t l) = true := validL_of fun _ hd => validL_mem h (turn_mem.1 hd)
theorem orders_same {c : Ctx} {l : List Dot} (t : Nat) (h : Ok c) (hl : validL l = true) (hn : l ≠ []) : addAll c (turnL t l) = addC c l := by
  obtain ⟨_, i2, i3⟩ := addAll_spec (turnL t l) c h (turn_valid hl)
  obtain ⟨s1, s2⟩ := add_spec h hl
  have hne : turnL t l ≠ [] := fun e => by
    cases l with
    | nil => exact hn rfl
    | cons a s => have : a ∈ turnL t (a :: s) := turn_mem.2 List.mem_cons_self; rw [e] at this; cases this
  exact tight_ext (i2 hne) s1 fun d => by rw [i3, s2, turn_mem]
theorem orders_nil {c : Ctx} (h : Ok c) : compactC c = addC c [] := by
  obtain ⟨s1, s2⟩ := add_spec (l := []) h rfl
  rw [compact_pass]
  obtain ⟨h1, h2⟩ := pass_spec h
  exact tight_ext h1 s1 fun d => by rw [h2, s2]; simp
theorem orders_miss {c : Ctx} {l : List Dot} (h : Ok c) (hl : validL l = true) : missC (addC c l) l = [] := miss_none fun d hd => ((add_spec h hl).2 d).2 (.inr hd)
end Go.Proofs.Ytjbakmmmgejhlaa
