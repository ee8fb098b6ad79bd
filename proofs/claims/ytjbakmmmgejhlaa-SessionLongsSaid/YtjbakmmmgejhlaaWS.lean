/-
  A row of visits of the call's own: an append.
-/
import Derived.Test.YtjbakmmmgejhlaaWR
import Derived.Maps.AppendAt
import Derived.Test.YtjbakmmmgejhlaaWM
namespace Go.Proofs.Ytjbakmmmgejhlaa
open Go.RowKit

/-- A visit and where its context's dots lie. -/
structure VS where
  v : Vis
  A : Option Addr
  n : Nat
  ca : Nat
  B : Option Addr
  m : Nat
  cb : Nat
def vcell (s : VS) : List Value := [.int .i64 s.v.c, .bool s.v.w, .int .i64 s.v.d.1, .int .i64 s.v.d.2, .slice s.A s.n s.ca, .slice s.B s.m s.cb]
def vcells (l : List VS) : List Value := l.flatMap vcell
theorem vcells_append (a b : List VS) : vcells (a ++ b) = vcells a ++ vcells b := by unfold vcells; rw [List.flatMap_append]
theorem vcells_length : ∀ l : List VS, (vcells l).length = l.length * 6
  | [] => rfl
  | s :: l => by
    have : vcells (s :: l) = vcell s ++ vcells l := rfl
    rw [this, List.length_append, vcells_length l]; simp [vcell]; omega
theorem vcells_get : ∀ (l : List VS) (i : Nat) (s : VS), l[i]? = some s → ∀ j u, (vcell s)[j]? = some u → (vcells l)[i * 6 + j]? = some u
  | [], i, s, h, _, _, _ => by simp at h
  | a :: l, 0, s, h, j, u, hj => by
    simp at h; subst h
    have : vcells (a :: l) = vcell a ++ vcells l := rfl
    rw [this, List.getElem?_append_left (by have := (List.getElem?_eq_some_iff.1 hj).1; omega)]
    simpa using hj
  | a :: l, i + 1, s, h, j, u, hj => by
    have := vcells_get l i s (by simpa using h) j u hj
    have e : vcells (a :: l) = vcell a ++ vcells l := rfl
    rw [e, List.getElem?_append_right (by simp [vcell]; omega)]
    have e2 : (i + 1) * 6 + j - (vcell a).length = i * 6 + j := by simp [vcell]; omega
    rw [e2]; exact this
theorem vcells_at (l : List VS) (j : Nat) (u : Value) (h : (vcells l)[j]? = some u) : ∃ s ∈ l, u ∈ vcell s := by
  have := List.mem_of_getElem? h
  unfold vcells at this
  exact List.mem_flatMap.1 this
theorem vcells_one (l : List VS) : ∀ u ∈ vcells l, u.oneCell' = true := by
  intro u hu
  obtain ⟨j, hj⟩ := List.getElem?_of_mem hu
  obtain ⟨s, _, h⟩ := vcells_at l j u hj
  simp only [vcell, List.mem_cons, List.not_mem_nil, or_false] at h
  rcases h with rfl | rfl | rfl | rfl | rfl | rfl <;> rfl
/-- The dots lie outside a block. -/
def OffB (r : Option Nat) (A : Option Addr) (l : List Dot) : Prop := l ≠ [] → ∀ a, A = some a → some a.block ≠ r
/-- A row of visits of the call's own, from block B on; the visits' dots lie outside it. -/
def VRow (w : World) (B : Nat) (u : Value) (l : List Vis) : Prop :=
  ∃ ss : List VS, ss.map (·.v) = l ∧ w.ownsRow B 33 6 u ss.length (vcells ss) ∧ ∀ s ∈ ss, Con w s.A s.n s.ca s.B s.m s.cb s.v.x ∧ OffB u.ownBlock s.A s.v.x.1 ∧ OffB u.ownBlock s.B s.v.x.2
section
variable {w w' : World} {B : Nat} {u : Value} {l : List Vis}
theorem Dots.grownOff {A : Option Addr} {n c : Nat} {l : List Dot} {r : Option Nat} (h : Dots w A n c l) (hg : w.grownBy w' r) (ho : OffB r A l) : Dots w' A n c l :=
  ⟨h.len, h.cap, h.max, h.nil, fun i d hi => by
    obtain ⟨b, o, e, hb, h1, h2⟩ := h.cell i d hi
    have hn := ho (fun e => by subst e; simp at hi) _ e
    exact ⟨b, o, e, Nat.lt_of_lt_of_le hb hg.size, hg.cell h1 hn, hg.cell h2 hn⟩⟩
theorem Dots.offNew {A : Option Addr} {n c : Nat} {l : List Dot} (h : Dots w A n c l) {k : Nat} (hk : w.heap.size ≤ k) : OffB (some k) A l := fun hne a ha e => by
  obtain ⟨d, t, rfl⟩ := List.exists_cons_of_ne_nil hne
  obtain ⟨b, o, e2, hb, _⟩ := h.cell 0 d rfl
  rw [ha] at e2; cases e2
  simp only [Option.some.injEq] at e
  have e : b = k := e
  omega
theorem VRow.nil_ (w : World) (B : Nat) : VRow w B (.slice none 0 0) [] := ⟨[], rfl, World.ownsRow_nil w B _ 6, fun _ h => nomatch h⟩
theorem ownsRow_below {e : TypeId} {z n : Nat} {xs : List Value} (h : w.ownsRow B e z u n xs) (hb : Below w.heap.size w w') : w'.ownsRow B e z u n xs := by
  refine ⟨h.1, ?_⟩
  rcases h.2 with h2 | ⟨g, cap, cur, hv, hg, hh, r⟩
  · exact .inl h2
  · exact .inr ⟨g, cap, cur, hv, hg, (hb.block g (Array.getElem?_eq_some_iff.1 hh).1).trans hh, r⟩
theorem VRow.mono (h : VRow w B u l) (hb : Below w.heap.size w w') : VRow w' B u l := by
  obtain ⟨ss, e, ho, hs⟩ := h
  exact ⟨ss, e, ownsRow_below ho hb, fun s hm => let ⟨a, b, c⟩ := hs s hm; ⟨a.mono hb, b, c⟩⟩
theorem VRow.own (h : VRow w B u l) : ∀ k, u.ownBlock = some k → B ≤ k ∧ k < w.heap.size := by
  obtain ⟨ss, e, ho, hs⟩ := h
  exact ho.lt
theorem VRow.visits (h : VRow w B u l) : ∃ A c, u = .slice A l.length c ∧ Visits w A l.length c l := by
  obtain ⟨ss, rfl, ho, hs⟩ := h
  rw [List.length_map]
  rcases ho.2 with ⟨rfl, h0⟩ | ⟨g, cap, cur, rfl, hg, hh, hn, hm, hsz, ht⟩
  · have : ss = [] := List.eq_nil_of_length_eq_zero h0
    subst this
    exact ⟨none, 0, rfl, Visits.nil_⟩
  · refine ⟨some ⟨g, 0, none⟩, cap, rfl, by simp, hn, hm, (fun e => nomatch e), fun i v hi => ?_⟩
    rw [List.getElem?_map] at hi
    cases hsi : ss[i]? with
    | none => rw [hsi] at hi; cases hi
    | some s =>
      rw [hsi] at hi; cases hi
      have cell : ∀ j u, (vcell s)[j]? = some u → w.cell? ⟨g, 0 + i * 6 + j, none⟩ = some u := fun j u hj => by
        have := ho.cells (g := g) rfl (i * 6 + j) u (vcells_get ss i s hsi j u hj)
        rw [add_lit] at this
        rw [Nat.add_assoc]; exact this
      exact ⟨g, 0, s.A, s.n, s.ca, s.B, s.m, s.cb, rfl, cell 0 _ rfl, cell 1 _ rfl, cell 2 _ rfl, cell 3 _ rfl, cell 4 _ rfl, cell 5 _ rfl, (hs s (List.mem_of_getElem? hsi)).1⟩
end
theorem info_vis : ∃ i : TypeInfo, Try.prog.info? 33 = some i ∧ i.zero = some (.agg #[.int .i64 0, .bool false, .int .i64 0, .int .i64 0, .slice none 0 0, .slice none 0 0]) ∧ i.size = 6 ∧ i.bytes = 80 := by
  obtain ⟨i, h1, h2, h3, h4⟩ := info_parts (P := Try.prog) (show (Try.prog.info? 33).map (fun i => (i.zero, i.size, i.bytes)) = some (some (.agg #[.int .i64 0, .bool false, .int .i64 0, .int .i64 0, .slice none 0 0, .slice none 0 0]), 6, 80) by kernel_rfl)
  exact ⟨i, h1, h2, h3, h4⟩
theorem wpList_appV {ops : Array Oper} {rest : List Oper} {o : Oper} {a : Act} {Q : Exit → Act → World → Prop} {s x : Operand} {t : TypeId} {w : World} {B b : Nat} {u : Value} {l : List Vis} {v : Vis} {A C : Option Addr} {n ca m cb : Nat}
    (hgd : o.guard = none) (ho : o.op = .call { callee := .builtin .append, args := #[s, x], argTypes := #[t, t] }) (ht : Try.prog.underlying t = some (.slice 33)) (hsv : a.eval s = u) (hxv : a.eval x = .slice (some ⟨b, 0, none⟩) 1 1)
    (h : VRow w B u l) (hv : VisAt b 0 A n ca C m cb v w) (o1 : OffB u.ownBlock A v.x.1) (o2 : OffB u.ownBlock C v.x.2) (hs : l.length + 1 ≤ 1000000) (hB : B ≤ w.heap.size)
    (K : ∀ u' w', VRow w' B u' (l ++ [v]) → w.grownBy w' u.ownBlock → (u'.ownBlock = u.ownBlock ∨ u'.ownBlock = some w.heap.size) → wpList Try.prog ops Q rest (a.put o.dst u') w') : wpList Try.prog ops Q (o :: rest) a w := by
  obtain ⟨i, hi, hz, hsz, hby⟩ := info_vis
  obtain ⟨ss, rfl, hown, hcon⟩ := h
  rw [List.length_map] at hs
  refine wpList_append_own_at w hgd s x t ho B 33 i _ 6 80 ht hi hz hsz hby rfl (by omega) u ss.length (vcells ss) hsv hown ⟨b, 0, none⟩ 1 1 (vcells [⟨v, A, n, ca, C, m, cb⟩]) hxv (by rw [vcells_length]; rfl) (fun j x hj => ?_) (vcells_one _) (by unfold maxLen; omega) (by omega) hB ?_
  · rw [add_lit]
    match j, hj with
    | 0, hj => cases hj; exact hv.c0
    | 1, hj => cases hj; exact hv.c1
    | 2, hj => cases hj; exact hv.c2
    | 3, hj => cases hj; exact hv.c3
    | 4, hj => cases hj; exact hv.c4
    | 5, hj => cases hj; exact hv.c5
    | j + 6, hj => exact absurd (List.getElem?_eq_some_iff.1 hj).1 (by rw [vcells_length]; simp)
  · intro u' w' h2 hg _ hat
    refine K u' w' ⟨ss ++ [⟨v, A, n, ca, C, m, cb⟩], by simp, by rw [vcells_append]; simpa using h2, fun s hm => ?_⟩ hg hat
    have key : ∀ s : VS, Con w s.A s.n s.ca s.B s.m s.cb s.v.x ∧ OffB u.ownBlock s.A s.v.x.1 ∧ OffB u.ownBlock s.B s.v.x.2 → Con w' s.A s.n s.ca s.B s.m s.cb s.v.x ∧ OffB u'.ownBlock s.A s.v.x.1 ∧ OffB u'.ownBlock s.B s.v.x.2 := by
      rintro s ⟨k1, k2, k3⟩
      refine ⟨⟨k1.v.grownOff hg k2, k1.k.grownOff hg k3⟩, ?_⟩
      rcases hat with e | e
      · rw [e]; exact ⟨k2, k3⟩
      · rw [e]; exact ⟨k1.v.offNew (Nat.le_refl _), k1.k.offNew (Nat.le_refl _)⟩
    rcases List.mem_append.1 hm with hm | hm
    · exact key s (hcon s hm)
    · rw [List.mem_singleton.1 hm]; exact key _ ⟨hv.con, o1, o2⟩
set_option maxRecDepth 100000 in
set_option maxHeartbeats 1000000 in
/-- one, and where its dot lies. -/
theorem sOneX (r : Int) (w : World) : Calls Try.prog 13 #[.int .i64 r] w (Ret w (fun w' v => v = .agg #[.slice (some ⟨w.heap.size + 1, 0, none⟩) 1 1, .slice none 0 0] ∧ Con w' (some ⟨w.heap.size + 1, 0, none⟩) 1 1 none 0 0 ([(r, 1)], []))) := by
  go_enter Try.func13, Try.ntmps13
  go_wp2
  refine bodyPost_ret (v := .agg #[.slice (some ⟨w.heap.size + 1, 0, none⟩) 1 1, .slice none 0 0]) (by simp [results, Try.results13, go_sem]) rfl ?_
  have hd := Dots.one (w.alloc (conBox (some ⟨w.heap.size + 1, 0, none⟩) 1 1 none 0 0)) r 1
  have hz : (w.alloc (conBox (some ⟨w.heap.size + 1, 0, none⟩) 1 1 none 0 0)).heap.size = w.heap.size + 1 := by simp
  rw [hz] at hd
  exact ⟨_, rfl, by go_grown, rfl, ⟨hd, Dots.nil_⟩⟩
end Go.Proofs.Ytjbakmmmgejhlaa

/-
  SessionLongs, in plain terms: clients that read the same context all the time.
-/
namespace Go.Proofs.Ytjbakmmmgejhlaa
open Go.RowKit

def cA : Ctx := ([(1, 1)], [])
def cO : Ctx := ([], [])
def sA : St := (cA, cO)
def allRead (l : List Vis) : Prop := ∀ v ∈ l, v.w = false ∧ (v.x = cA ∨ v.x = cO)
theorem uni1 : unionC cO cA = cA := by kernel_rfl
theorem uni2 : unionC cA cA = cA := by kernel_rfl
theorem uni3 : unionC cA cO = cA := by kernel_rfl
theorem uni4 : unionC cO cO = cO := by kernel_rfl
theorem step_two {s : St} {v : Vis} (hs : s = st0 ∨ s = sA) (hv : v.w = false ∧ (v.x = cA ∨ v.x = cO)) : stepS s v = st0 ∨ stepS s v = sA := by
  obtain ⟨hw, hx⟩ := hv
  have e : stepS s v = (unionC s.1 v.x, s.2) := by unfold stepS; rw [hw]; rfl
  rw [e]
  rcases hs with rfl | rfl <;> rcases hx with h | h <;> rw [h]
  · exact .inr (by show (unionC cO cA, cO) = sA; rw [uni1]; rfl)
  · exact .inl (by show (unionC cO cO, cO) = st0; rw [uni4]; rfl)
  · exact .inr (by show (unionC cA cA, cO) = sA; rw [uni2]; rfl)
  · exact .inr (by show (unionC cA cO, cO) = sA; rw [uni3]; rfl)
theorem step_A {v : Vis} (hv : v.w = false ∧ (v.x = cA ∨ v.x = cO)) : stepS sA v = sA := by
  obtain ⟨hw, hx⟩ := hv
  have e : stepS sA v = (unionC cA v.x, cO) := by unfold stepS; rw [hw]; rfl
  rw [e]
  rcases hx with h | h <;> rw [h]
  · rw [uni2]; rfl
  · rw [uni3]; rfl
theorem fold_two {c : Int} : ∀ (l : List Vis) (s : St), (s = st0 ∨ s = sA) → allRead l → ((l.filter fun v => v.c == c).foldl stepS s = st0 ∨ (l.filter fun v => v.c == c).foldl stepS s = sA)
  | [], s, hs, _ => hs
  | v :: t, s, hs, hl => by
    have ht : allRead t := fun u hu => hl u (List.mem_cons_of_mem _ hu)
    by_cases h : (v.c == c) = true
    · rw [List.filter_cons_of_pos (p := fun v : Vis => v.c == c) h]; exact fold_two t _ (step_two hs (hl v (List.mem_cons_self ..))) ht
    · rw [List.filter_cons_of_neg (p := fun v : Vis => v.c == c) h]; exact fold_two t s hs ht
theorem fold_A {c : Int} : ∀ (l : List Vis), allRead l → (l.filter fun v => v.c == c).foldl stepS sA = sA
  | [], _ => rfl
  | v :: t, hl => by
    have ht : allRead t := fun u hu => hl u (List.mem_cons_of_mem _ hu)
    by_cases h : (v.c == c) = true
    · rw [List.filter_cons_of_pos (p := fun v : Vis => v.c == c) h, List.foldl_cons, step_A (hl v (List.mem_cons_self ..))]; exact fold_A t ht
    · rw [List.filter_cons_of_neg (p := fun v : Vis => v.c == c) h]; exact fold_A t ht
theorem st_two {l : List Vis} (h : allRead l) (c : Int) : stOf l c = st0 ∨ stOf l c = sA := fold_two l st0 (.inl rfl) h
theorem ok_two {s : St} (h : s = st0 ∨ s = sA) : OkS s := by
  rcases h with rfl | rfl
  · exact ok0
  · exact ⟨by kernel_rfl, by kernel_rfl, by simp [sA, cA, cO], by simp [sA, cA, cO]⟩
theorem allRead_take {l : List Vis} (h : allRead l) (k : Nat) : allRead (l.take k) := fun v hv => h v (List.mem_of_mem_take hv)
theorem fits_two {l : List Vis} (h : allRead l) : Fits l := fun k c => ok_two (st_two (allRead_take h k) c)
theorem bad_two {l : List Vis} (h : allRead l) : l.any badS = false := by
  rw [List.any_eq_false]
  intro v hv
  obtain ⟨hw, hx⟩ := h v hv
  have h1 : validC cA = true := by kernel_rfl
  have h2 : validC cO = true := by kernel_rfl
  unfold badS
  rw [hw]
  rcases hx with e | e <;> rw [e] <;> simp [h1, h2]
theorem len_two {l : List Vis} (h : allRead l) : ∀ v ∈ l, v.x.1.length + v.x.2.length ≤ 1000 := fun v hv => by
  rcases (h v hv).2 with e | e <;> rw [e] <;> simp [cA, cO]
theorem brok_A {s : St} {v : Vis} (hs : s = st0 ∨ s = sA) (hw : v.w = false) (hx : v.x = cA) : brokS s v = 0 := by
  have e : brokS s v = winS s.2 v.x 1 + winS s.1 v.x 2 := by unfold brokS; rw [hw]; rfl
  rw [e, hx]
  rcases hs with rfl | rfl
  · exact (by kernel_rfl : winS cO cA 1 + winS cO cA 2 = 0)
  · exact (by kernel_rfl : winS cO cA 1 + winS cA cA 2 = 0)
theorem brok_O {v : Vis} (hw : v.w = false) (hx : v.x = cO) : brokS sA v = 2 := by
  have e : brokS sA v = winS sA.2 v.x 1 + winS sA.1 v.x 2 := by unfold brokS; rw [hw]; rfl
  rw [e, hx]
  exact (by kernel_rfl : winS cO cO 1 + winS cA cO 2 = 2)
/-- Where all is well. -/
theorem judge_all {asked : Int} : ∀ (t pre : List Vis), (∀ k v, t[k]? = some v → andI (brokS (stOf (pre ++ t.take k) v.c) v) asked = 0) → judgeS asked pre t = (-1, 0)
  | [], _, _ => rfl
  | v :: t, pre, h => by
    rw [judgeS, if_pos (by simpa using h 0 v rfl)]
    refine judge_all t (pre ++ [v]) fun k u hk => ?_
    have := h (k + 1) u (by simpa using hk)
    rwa [List.take_succ_cons, show pre ++ v :: t.take k = (pre ++ [v]) ++ t.take k by simp] at this
theorem judge_first {asked : Int} {x : Vis} : ∀ (t pre : List Vis), (∀ k v, t[k]? = some v → andI (brokS (stOf (pre ++ t.take k) v.c) v) asked = 0) → ¬ andI (brokS (stOf (pre ++ t) x.c) x) asked = 0 → judgeS asked pre (t ++ [x]) = (((pre ++ t).length : Int), andI (brokS (stOf (pre ++ t) x.c) x) asked)
  | [], pre, _, hx => by
    rw [List.nil_append, judgeS, if_neg (by simpa using hx)]; simp
  | v :: t, pre, h, hx => by
    rw [List.cons_append, judgeS, if_pos (by simpa using h 0 v rfl)]
    have e : pre ++ v :: t = (pre ++ [v]) ++ t := by simp
    rw [e] at hx ⊢
    refine judge_first t (pre ++ [v]) (fun k u hk => ?_) hx
    have := h (k + 1) u (by simpa using hk)
    rwa [List.take_succ_cons, show pre ++ v :: t.take k = (pre ++ [v]) ++ t.take k by simp] at this
theorem and0 : andI 0 15 = 0 := by kernel_rfl
theorem and2 : andI 2 15 = 2 := by kernel_rfl

/-- The statement's visits. -/
def longV (k : Nat) : Vis := ⟨((k % 2 : Nat) : Int), false, (0, 0), cA⟩
def longL (k : Nat) : List Vis := (List.range k).map longV
theorem longL_snoc (k : Nat) : longL (k + 1) = longL k ++ [longV k] := by unfold longL; rw [List.range_succ, List.map_append]; rfl
theorem longL_len (k : Nat) : (longL k).length = k := by unfold longL; simp
theorem long_read (k : Nat) : allRead (longL k) := fun v hv => by
  obtain ⟨i, _, rfl⟩ := List.mem_map.1 hv
  exact ⟨rfl, .inl rfl⟩
theorem long_zero (n : Nat) : ∀ k v, (longL n)[k]? = some v → andI (brokS (stOf ([] ++ (longL n).take k) v.c) v) 15 = 0 := fun k v hk => by
  have hm := List.mem_of_getElem? hk
  obtain ⟨i, _, rfl⟩ := List.mem_map.1 hm
  rw [brok_A (st_two (by rw [List.nil_append]; exact allRead_take (long_read n) k) _) rfl rfl, and0]
theorem long_none (n : Nat) : judgeS 15 [] (longL n) = (-1, 0) := judge_all (longL n) [] (long_zero n)
theorem st_long (k : Nat) : stOf (longL (k + 2)) ((k % 2 : Nat) : Int) = sA := by
  have e1 : (longV (k + 1)).c ≠ ((k % 2 : Nat) : Int) := by show (((k + 1) % 2 : Nat) : Int) ≠ ((k % 2 : Nat) : Int); omega
  rw [longL_snoc, stOf_snoc, if_neg e1, longL_snoc, stOf_snoc, if_pos (show (longV k).c = ((k % 2 : Nat) : Int) from rfl)]
  have e : stepS (stOf (longL k) ((k % 2 : Nat) : Int)) (longV k) = (unionC (stOf (longL k) ((k % 2 : Nat) : Int)).1 cA, (stOf (longL k) ((k % 2 : Nat) : Int)).2) := rfl
  rw [e]
  rcases st_two (long_read k) ((k % 2 : Nat) : Int) with h | h <;> rw [h]
  · show (unionC cO cA, cO) = sA; rw [uni1]; rfl
  · show (unionC cA cA, cO) = sA; rw [uni2]; rfl
/-- .. and the last one, which meets nothing. -/
def lastV (k : Nat) : Vis := ⟨((k % 2 : Nat) : Int), false, (0, 0), cO⟩
theorem last_read (k : Nat) : allRead (longL k ++ [lastV k]) := fun v hv => by
  rcases List.mem_append.1 hv with h | h
  · exact long_read k v h
  · rw [List.mem_singleton.1 h]; exact ⟨rfl, .inr rfl⟩
theorem long_last (k : Nat) : judgeS 15 [] (longL (k + 2) ++ [lastV (k + 2)]) = (((k + 2 : Nat) : Int), 2) := by
  have hs : stOf ([] ++ longL (k + 2)) (lastV (k + 2)).c = sA := by
    have : (lastV (k + 2)).c = ((k % 2 : Nat) : Int) := by show (((k + 2) % 2 : Nat) : Int) = _; omega
    rw [this]; exact st_long k
  have hb : brokS (stOf ([] ++ longL (k + 2)) (lastV (k + 2)).c) (lastV (k + 2)) = 2 := by rw [hs]; exact brok_O rfl rfl
  rw [judge_first (longL (k + 2)) [] (long_zero _) (by rw [hb, and2]; decide), hb, and2, List.nil_append, longL_len]
theorem long_wf (k : Nat) : ∀ v ∈ longL k, (Lit.int .i64 v.c).wf = true := fun v hv => by
  obtain ⟨i, _, rfl⟩ := List.mem_map.1 hv
  exact WalkArith.wf_i64 (by show -9223372036854775808 ≤ ((i % 2 : Nat) : Int) ∧ ((i % 2 : Nat) : Int) ≤ 9223372036854775807; omega)
theorem last_wf (k : Nat) : ∀ v ∈ longL k ++ [lastV k], (Lit.int .i64 v.c).wf = true := fun v hv => by
  rcases List.mem_append.1 hv with h | h
  · exact long_wf k v h
  · rw [List.mem_singleton.1 h]
    exact WalkArith.wf_i64 (by show -9223372036854775808 ≤ ((k % 2 : Nat) : Int) ∧ ((k % 2 : Nat) : Int) ≤ 9223372036854775807; omega)
end Go.Proofs.Ytjbakmmmgejhlaa

/-
  SessionLongs: for any number and either answer, with no further condition, the law returns true.
-/
namespace Go.Proofs.Ytjbakmmmgejhlaa
open Go.RowKit

theorem Dots.setOff {A : Option Addr} {n c g o : Nat} {l : List Dot} {w : World} {u : Value} (h : Dots w A n c l) (ho : OffB (some g) A l) : Dots (w.setCell ⟨g, o, none⟩ u) A n c l :=
  ⟨h.len, h.cap, h.max, h.nil, fun i d hi => by
    obtain ⟨b, o', e, hb, h1, h2⟩ := h.cell i d hi
    have hn := ho (fun e => by subst e; simp at hi) _ e
    have hbg : b ≠ g := fun e => hn (by rw [e])
    exact ⟨b, o', e, by simpa [World.setCell] using hb, by rw [World.cell?_setCell_other w _ _ _ (fun e => hbg (congrArg Addr.block e).symm)]; exact h1, by rw [World.cell?_setCell_other w _ _ _ (fun e => hbg (congrArg Addr.block e).symm)]; exact h2⟩⟩
theorem Con.setOff {A B : Option Addr} {n ca m cb g o : Nat} {c : Ctx} {w : World} {u : Value} (h : Con w A n ca B m cb c) (h1 : OffB (some g) A c.1) (h2 : OffB (some g) B c.2) : Con (w.setCell ⟨g, o, none⟩ u) A n ca B m cb c := ⟨h.v.setOff h1, h.k.setOff h2⟩
/-- A row of visits, the last of which is given the context of nothing. -/
theorem VRow.last {w : World} {B : Nat} {u : Value} {l : List Vis} {v : Vis} {i : Nat} (h : VRow w B u (l ++ [v])) (hi : i = l.length) : ∃ g c, u = .slice (some ⟨g, 0, none⟩) (i + 1) c ∧ B ≤ g ∧ g < w.heap.size ∧ (∀ o, w.frozen? ⟨g, o, none⟩ = false) ∧ (∃ x, w.cell? ⟨g, i * 6 + 4, none⟩ = some x) ∧ (∃ x, w.cell? ⟨g, i * 6 + 4 + 1, none⟩ = some x) ∧
    Visits ((w.setCell ⟨g, i * 6 + 4, none⟩ (.slice none 0 0)).setCell ⟨g, i * 6 + 4 + 1, none⟩ (.slice none 0 0)) (some ⟨g, 0, none⟩) (i + 1) c (l ++ [⟨v.c, v.w, v.d, ([], [])⟩]) := by
  subst hi
  obtain ⟨ss, hl, ho, hs⟩ := h
  have hlen : ss.length = l.length + 1 := by have := congrArg List.length hl; simpa using this
  have hcells : ∀ (j : Nat) (s : VS), ss[j]? = some s → ∀ {g : Nat}, u.ownBlock = some g → ∀ r x, (vcell s)[r]? = some x → w.cell? ⟨g, j * 6 + r, none⟩ = some x := fun j s hj g hg r x hr => by
    have := ho.cells hg (j * 6 + r) x (vcells_get ss j s hj r x hr)
    rw [add_lit, Nat.zero_add] at this
    exact this
  rcases ho.2 with ⟨_, h0⟩ | ⟨g, cap, cur, rfl, hg, hh, hn, hm, hsz, ht⟩
  · omega
  have hob : (Value.slice (some ⟨g, 0, none⟩) ss.length cap).ownBlock = some g := rfl
  have hlast : ss[l.length]? = some ss[l.length] := List.getElem?_eq_getElem (by omega)
  have hlv : ss[l.length].v = v := by
    have : (ss.map (·.v))[l.length]? = some v := by rw [hl]; simp
    rw [List.getElem?_map, hlast] at this
    simpa using this
  have q4 := hcells _ _ hlast hob 4 _ rfl
  have q5 := hcells _ _ hlast hob 5 _ rfl
  refine ⟨g, cap, by rw [hlen], hg, (Array.getElem?_eq_some_iff.1 hh).1, fun o => by simp [World.frozen?, hh], ⟨_, q4⟩, ⟨_, q5⟩, ?_⟩
  have far : ∀ {p x}, (∀ r, p ≠ (⟨g, l.length * 6 + r, none⟩ : Addr)) → w.cell? p = some x → ((w.setCell ⟨g, l.length * 6 + 4, none⟩ (.slice none 0 0)).setCell ⟨g, l.length * 6 + 5, none⟩ (.slice none 0 0)).cell? p = some x := fun {p x} hp hc => by
    rw [World.cell?_setCell_other _ _ _ _ (fun e => hp 5 e.symm), World.cell?_setCell_other _ _ _ _ (fun e => hp 4 e.symm)]; exact hc
  have low : ∀ {r x}, r < 4 → w.cell? ⟨g, l.length * 6 + r, none⟩ = some x → ((w.setCell ⟨g, l.length * 6 + 4, none⟩ (.slice none 0 0)).setCell ⟨g, l.length * 6 + 5, none⟩ (.slice none 0 0)).cell? ⟨g, l.length * 6 + r, none⟩ = some x := fun {r x} hr hc => by
    rw [World.cell?_setCell_other _ _ _ _ (fun e => by simp only [Addr.mk.injEq] at e; omega), World.cell?_setCell_other _ _ _ _ (fun e => by simp only [Addr.mk.injEq] at e; omega)]; exact hc
  refine ⟨by simp, by omega, hm, (fun e => nomatch e), fun j x hj => ?_⟩
  rcases Nat.lt_or_ge j l.length with hlt | hge
  · rw [List.getElem?_append_left hlt] at hj
    have hsj : ss[j]? = some ss[j] := List.getElem?_eq_getElem (by omega)
    have hx : ss[j].v = x := by
      have : (ss.map (·.v))[j]? = some x := by rw [hl, List.getElem?_append_left hlt]; exact hj
      rw [List.getElem?_map, hsj] at this
      simpa using this
    obtain ⟨k1, k2, k3⟩ := hs _ (List.mem_of_getElem? hsj)
    have ne : ∀ r, r < 6 → ∀ r', (⟨g, 0 + j * 6 + r, none⟩ : Addr) ≠ ⟨g, l.length * 6 + r', none⟩ := fun r hr r' e => by
      simp only [Addr.mk.injEq] at e; omega
    have e0 : 0 + j * 6 = j * 6 := by omega
    rw [← hx]
    refine ⟨g, 0, ss[j].A, ss[j].n, ss[j].ca, ss[j].B, ss[j].m, ss[j].cb, rfl, far (ne 0 (by omega)) ?_, far (ne 1 (by omega)) ?_, far (ne 2 (by omega)) ?_, far (ne 3 (by omega)) ?_, far (ne 4 (by omega)) ?_, far (ne 5 (by omega)) ?_, (k1.setOff k2 k3).setOff k2 k3⟩ <;> rw [e0]
    · exact hcells _ _ hsj hob 0 _ rfl
    · exact hcells _ _ hsj hob 1 _ rfl
    · exact hcells _ _ hsj hob 2 _ rfl
    · exact hcells _ _ hsj hob 3 _ rfl
    · exact hcells _ _ hsj hob 4 _ rfl
    · exact hcells _ _ hsj hob 5 _ rfl
  · have hjl : j = l.length := by
      have := (List.getElem?_eq_some_iff.1 hj).1
      simp at this; omega
    subst hjl
    rw [List.getElem?_append_right (Nat.le_refl _)] at hj
    simp at hj
    subst hj
    rw [← hlv]
    have e0 : 0 + l.length * 6 = l.length * 6 := by omega
    refine ⟨g, 0, none, 0, 0, none, 0, 0, rfl, ?_, ?_, ?_, ?_, ?_, ?_, Dots.nil_, Dots.nil_⟩ <;> rw [e0]
    · exact low (r := 0) (by omega) (hcells _ _ hlast hob 0 _ rfl)
    · exact low (by omega) (hcells _ _ hlast hob 1 _ rfl)
    · exact low (by omega) (hcells _ _ hlast hob 2 _ rfl)
    · exact low (by omega) (hcells _ _ hlast hob 3 _ rfl)
    · rw [World.cell?_setCell_other _ _ _ _ (by simp)]; exact cell_set q4
    · exact cell_set (by rw [World.cell?_setCell_other _ _ _ _ (by simp)]; exact q5)
def LongRel (w : World) (many : Nat) (u i : Value) (wr : World) : Prop := ∃ k : Nat, i = .int .i64 k ∧ k ≤ many ∧ Below w.heap.size w wr ∧ VRow wr w.heap.size u (longL k)
set_option maxRecDepth 100000 in
set_option maxHeartbeats 4000000 in
theorem lawLongs (x : Int) (last : Bool) (w : World) : Calls Try.prog 4 #[.int .i64 x, .bool last] w (Ret w (IsB true)) := by
  by_cases h1 : x < 998
  · have d1 : decide (x < 998) = true := decide_eq_true h1
    have HBK := Lib.hid (Below.refl w.heap.size w)
    go_enter Try.func4, Try.ntmps4
    go_wp2_with fail
    refine (known43 _).mono ?_
    rintro _ w9 ⟨_, rfl, hb9, rfl⟩
    have HB9 := Lib.hid (HBK.out.le hb9)
    clear hb9
    go_wp2
    go_ret
    exact retB rfl HB9.out
  by_cases h2 : 1002 < x
  · have d1 : decide (x < 998) = false := decide_eq_false h1
    have d2 : decide (1002 < x) = true := decide_eq_true h2
    have HBK := Lib.hid (Below.refl w.heap.size w)
    go_enter Try.func4, Try.ntmps4
    go_wp2_with fail
    refine (known43 _).mono ?_
    rintro _ w9 ⟨_, rfl, hb9, rfl⟩
    have HB9 := Lib.hid (HBK.out.le hb9)
    clear hb9
    go_wp2
    go_ret
    exact retB rfl HB9.out
  obtain ⟨many, rfl⟩ : ∃ many : Nat, x = many := ⟨x.toNat, by omega⟩
  have d1 : decide ((many : Int) < 998) = false := decide_eq_false h1
  have d2 : decide ((1002 : Int) < many) = false := decide_eq_false h2
  have hm1 : 998 ≤ many := by omega
  have hm2 : many ≤ 1002 := by omega
  have M1 := Lib.hid hm1; have M2 := Lib.hid hm2
  go_enter Try.func4, Try.ntmps4
  go_wp2
  go_loopw [5, 6] (fun u i wr => LongRel w many u i wr) (fun _ i _ => many - (intOf i).toNat)
  case atStart => exact ⟨0, rfl, Nat.zero_le _, Below.refl _ _, VRow.nil_ _ _⟩
  case round =>
    obtain ⟨k, rfl, hk, hb, hr⟩ := hrel
    have HB := Lib.hid hb; have ROW := Lib.hid hr
    clear hb hr
    by_cases hlt : k < many
    · have hc2 : (k : Int) % 2 = ((k % 2 : Nat) : Int) := by omega
      have C2 := Lib.hid hc2
      clear hc2
      go_wp2_with fail
      refine (sOneX 1 wr).mono ?_
      rintro _ w1 ⟨_, rfl, hb1, rfl, hc1⟩
      rw [C2.out]
      have VA := Lib.hid (VisAt.new (v := longV k) hc1)
      have ROW1 := Lib.hid ((ROW.out.mono hb1).mono ((Below.refl w1.heap.size w1).alloc (Nat.le_refl _) (visBox (longV k) (some ⟨wr.heap.size + 1, 0, none⟩) 1 1 none 0 0)))
      have hof : OffB u5.ownBlock (some ⟨wr.heap.size + 1, 0, none⟩) (longV k).x.1 := fun _ a ha e => by
        cases ha
        have := ROW.out.own _ e.symm
        simp at this; omega
      have OFF := Lib.hid hof
      have HB1 := Lib.hid ((HB.out.le hb1).alloc (HB.out.le hb1).size (visBox (longV k) (some ⟨wr.heap.size + 1, 0, none⟩) 1 1 none 0 0))
      have LL := Lib.hid (longL_len k)
      clear hb1 hc1 hof ROW
      go_wp2_with (at_builtin; refine wpList_appV (B := w.heap.size) (v := longV k) (A := some ⟨wr.heap.size + 1, 0, none⟩) (C := none) rfl rfl Try.underlying22 rfl rfl ROW1.out VA.out OFF.out (fun h => absurd rfl h) (by rw [LL.out]; have := M2.out; omega) HB1.out.size ?_; intro u' w' hr' hg' hat'; have ROW2 := Lib.hid hr'; have HG2 := Lib.hid hg'; clear hr' hg' hat'; simp only [Act.put, List.setIfInBounds_toArray, List.set_cons_zero, List.set_cons_succ])
      go_roundw
      case rel => exact ⟨k + 1, by simp, hlt, HB1.out.grown HG2.out HB1.out.size (fun q hq => (ROW1.out.own q hq).1), by rw [longL_snoc]; exact ROW2.out⟩
      case measure => simp [intOf]; omega
    · have hkm : k = many := by omega
      subst hkm
      cases last with
      | false =>
        obtain ⟨A, c, rfl, hv⟩ := ROW.out.visits
        rw [longL_len] at *
        have VV := Lib.hid hv
        clear hv
        by_cases hgt : 1000 < k
        · have dg : decide ((1000 : Int) < (k : Int)) = true := decide_eq_true (by omega)
          go_wp2_with fail
          refine (judgesLong A k c 15 wr hgt (by omega)).mono ?_
          rintro _ w1 ⟨_, rfl, hb1, rfl⟩
          have HBK := Lib.hid (HB.out.le hb1)
          clear hb1
          go_wp2_with fail
          refine (known43 _).mono ?_
          rintro _ w9 ⟨_, rfl, hb9, rfl⟩
          have HB9 := Lib.hid (HBK.out.le hb9)
          clear hb9
          go_wp2
          go_ret
          exact retB rfl HB9.out
        · have dg : decide ((1000 : Int) < (k : Int)) = false := decide_eq_false (by omega)
          have hk1000 : k ≤ 1000 := by omega
          go_wp2_with fail
          refine (judgesI A k c (longL k) 15 wr VV.out hk1000 (by omega) (bad_two (long_read k)) (fits_two (long_read k)) (len_two (long_read k)) (long_wf k) (-1) 0 (long_none k)).mono ?_
          rintro _ w1 ⟨_, rfl, hb1, rfl⟩
          have HBK := Lib.hid (HB.out.le hb1)
          clear hb1
          go_wp2_with fail
          refine (known43 _).mono ?_
          rintro _ w9 ⟨_, rfl, hb9, rfl⟩
          have HB9 := Lib.hid (HBK.out.le hb9)
          clear hb9
          go_wp2
          go_ret
          exact retB rfl HB9.out
      | true =>
        obtain ⟨p, hp⟩ : ∃ p, p + 1 = k := ⟨k - 1, by omega⟩
        have hrow := ROW.out
        rw [← hp, longL_snoc] at hrow
        obtain ⟨g, c, rfl, hg1, hg2, hfz, ⟨y4, q4⟩, ⟨y5, q5⟩, hv⟩ := hrow.last (i := p) (longL_len p).symm
        have hp4 : k - 1 = p := by omega
        have hp5 : 1 ≤ k := by omega
        have HP4 := Lib.hid hp4; have HP5 := Lib.hid hp5
        clear hp4 hp5
        rw [hp] at *
        have fz4 := hfz (p * 6 + 4); have fz5 := hfz (p * 6 + 4 + 1)
        have i1 : (k : Int) - 1 = (p : Int) := by have := HP4.out; have := HP5.out; omega
        have i2 : p < k := by have := HP4.out; have := HP5.out; omega
        have VV := Lib.hid hv
        have HBS := Lib.hid ((HB.out.setCell (p := ⟨g, p * 6 + 4, none⟩) hg1 (.slice none 0 0)).setCell (p := ⟨g, p * 6 + 4 + 1, none⟩) hg1 (.slice none 0 0))
        clear hrow hfz hv ROW hp
        by_cases hgt : 1000 < k
        · have dg : decide ((1000 : Int) < (k : Int)) = true := decide_eq_true (by omega)
          go_wp2_with fail
          refine (judgesLong _ k c 15 _ hgt (by omega)).mono ?_
          rintro _ w1 ⟨_, rfl, hb1, rfl⟩
          have HBK := Lib.hid (HBS.out.le hb1)
          clear hb1
          go_wp2_with fail
          refine (known43 _).mono ?_
          rintro _ w9 ⟨_, rfl, hb9, rfl⟩
          have HB9 := Lib.hid (HBK.out.le hb9)
          clear hb9
          go_wp2
          go_ret
          exact retB rfl HB9.out
        · have dg : decide ((1000 : Int) < (k : Int)) = false := decide_eq_false (by omega)
          have hk1000 : k ≤ 1000 := by omega
          obtain ⟨j, hj⟩ : ∃ j, j + 2 = p := ⟨p - 2, by have := M1.out; have := HP4.out; omega⟩
          have JL := Lib.hid (show judgeS 15 [] (longL p ++ [lastV p]) = ((p : Int), 2) by rw [← hj]; exact long_last j)
          clear hj
          go_wp2_with fail
          refine (judgesI (some ⟨g, 0, none⟩) k c (longL p ++ [lastV p]) 15 _ VV.out hk1000 (by omega) (bad_two (last_read p)) (fits_two (last_read p)) (len_two (last_read p)) (last_wf p) p 2 JL.out).mono ?_
          rintro _ w1 ⟨_, rfl, hb1, rfl⟩
          have HBK := Lib.hid (HBS.out.le hb1)
          clear hb1
          go_wp2_with fail
          refine (known43 _).mono ?_
          rintro _ w9 ⟨_, rfl, hb9, rfl⟩
          have HB9 := Lib.hid (HBK.out.le hb9)
          clear hb9
          go_wp2
          go_ret
          exact retB rfl HB9.out
end Go.Proofs.Ytjbakmmmgejhlaa

/-
  SessionLongs: of any number and either answer, with no condition, the law returns true.
-/
namespace Go.Proofs.Ytjbakmmmgejhlaa
open Go.ChangeShapes Go.WideShapes Go.ChangeAt Go.RowKit Go.Deep Go.Joins

set_option maxRecDepth 100000 in
theorem sessionLongs_lifted (os : Os) (started : os.Started) (H : Type) (enc : TypeId × Value → H) :
    ReturnsInHanded {} Try.checked os 4 .any (Rows.sessionLongsSpec.pre6 enc Try.prog Try.f4 Rows.sessionLongsRow.domain false) (Rows.sessionLongsSpec.post enc Try.prog Try.f4 false true false false) := by
  refine returnsInHanded_of_change (C := Try.checked) own_none started (by kernel_rfl) Try.func4
    (ChangeSpec.witness6 (enc := enc) (C := Try.checked) false ⟨#[], #[.int .i64 0, .bool false], []⟩ 8 (by kernel_rfl) (by kernel_rfl) (by kernel_rfl) (by kernel_rfl)) ?_
  intro W base args ds gs before hval0 hW hcnd _
  have hval : ∀ (j : Nat) t v, Try.f4.params[j]? = some t → args[j]? = some v → Value.okWide Try.prog W .any base t v := hval0
  have hW' := hW
  obtain ⟨p, q, hA0, hV, rfl, hfz, hnd⟩ := hW
  have hA : DataW.TrodAll enc Try.prog W 0 (fun _ => true) true Try.f4.params.toList args.toList ds p := hA0
  rw [Try.params4] at hA hval
  obtain ⟨v0, v1, d0, d1, p0, p1, rfl, rfl, rfl, h0, h1⟩ := trodAll_two hA
  obtain ⟨rfl, rfl⟩ := trodVars_none hV
  obtain ⟨x, rfl⟩ := okWide_int Try.underlying3 (hval 0 3 v0 rfl rfl)
  obtain ⟨y, rfl⟩ := okWide_bool Try.underlying4 (hval 1 4 v1 rfl rfl)
  clear hA0 hval0
  refine (lawLongs x y W).mono fun e W' ⟨_, he, hb, rfl⟩ => ?_
  subst he
  exact ⟨_, rfl, law_post laid_out (by kernel_rfl) (by kernel_rfl) Try.underlying4 rfl rfl hW' hb⟩

theorem sessionLongs_holds : Rows.SessionLongsSaid :=
  OpenClaim.holds_of_wide 4 Try.f4 rfl rfl rfl rfl rfl rfl rfl ⟨rfl, rfl, rfl, rfl, rfl⟩ rfl rfl rfl rfl rfl (by kernel_rfl) Try.func4 (by kernel_rfl)
    (of_decide_eq_true (by kernel_rfl)) (by unfold Func.isWrapper; first | (rw [if_pos (by decide +kernel)]; kernel_rfl) | (rw [if_neg (by decide +kernel)]; exact ⟨rfl, rfl⟩))
    (fun os started H enc _ => sessionLongs_lifted os started H enc)
end Go.Proofs.Ytjbakmmmgejhlaa
