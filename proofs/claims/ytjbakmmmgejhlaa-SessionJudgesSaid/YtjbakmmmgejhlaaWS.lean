/-
  A row of visits of the call's own: an append.
-/
import Derived.Test.YtjbakmmmgejhlaaWR
import Derived.Maps.AppendAt
import Derived.Test.YtjbakmmmgejhlaaWM
namespace Go.Proofs.Ytjbakmmmgejhlaa
open Go.RowKit

/-- A visit and where its context's dots lie. -/
structure VS where
  v : Vis
  A : Option Addr
  n : Nat
  ca : Nat
  B : Option Addr
  m : Nat
  cb : Nat
def vcell (s : VS) : List Value := [.int .i64 s.v.c, .bool s.v.w, .int .i64 s.v.d.1, .int .i64 s.v.d.2, .slice s.A s.n s.ca, .slice s.B s.m s.cb]
def vcells (l : List VS) : List Value := l.flatMap vcell
theorem vcells_append (a b : List VS) : vcells (a ++ b) = vcells a ++ vcells b := by unfold vcells; rw [List.flatMap_append]
theorem vcells_length : ∀ l : List VS, (vcells l).length = l.length * 6
  | [] => rfl
  | s :: l => by
    have : vcells (s :: l) = vcell s ++ vcells l := rfl
    rw [this, List.length_append, vcells_length l]; simp [vcell]; omega
theorem vcells_get : ∀ (l : List VS) (i : Nat) (s : VS), l[i]? = some s → ∀ j u, (vcell s)[j]? = some u → (vcells l)[i * 6 + j]? = some u
  | [], i, s, h, _, _, _ => by simp at h
  | a :: l, 0, s, h, j, u, hj => by
    simp at h; subst h
    have : vcells (a :: l) = vcell a ++ vcells l := rfl
    rw [this, List.getElem?_append_left (by have := (List.getElem?_eq_some_iff.1 hj).1; omega)]
    simpa using hj
  | a :: l, i + 1, s, h, j, u, hj => by
    have := vcells_get l i s (by simpa using h) j u hj
    have e : vcells (a :: l) = vcell a ++ vcells l := rfl
    rw [e, List.getElem?_append_right (by simp [vcell]; omega)]
    have e2 : (i + 1) * 6 + j - (vcell a).length = i * 6 + j := by simp [vcell]; omega
    rw [e2]; exact this
theorem vcells_at (l : List VS) (j : Nat) (u : Value) (h : (vcells l)[j]? = some u) : ∃ s ∈ l, u ∈ vcell s := by
  have := List.mem_of_getElem? h
  unfold vcells at this
  exact List.mem_flatMap.1 this
theorem vcells_one (l : List VS) : ∀ u ∈ vcells l, u.oneCell' = true := by
  intro u hu
  obtain ⟨j, hj⟩ := List.getElem?_of_mem hu
  obtain ⟨s, _, h⟩ := vcells_at l j u hj
  simp only [vcell, List.mem_cons, List.not_mem_nil, or_false] at h
  rcases h with rfl | rfl | rfl | rfl | rfl | rfl <;> rfl
/-- The dots lie outside a block. -/
def OffB (r : Option Nat) (A : Option Addr) (l : List Dot) : Prop := l ≠ [] → ∀ a, A = some a → some a.block ≠ r
/-- A row of visits of the call's own, from block B on; the visits' dots lie outside it. -/
def VRow (w : World) (B : Nat) (u : Value) (l : List Vis) : Prop :=
  ∃ ss : List VS, ss.map (·.v) = l ∧ w.ownsRow B 33 6 u ss.length (vcells ss) ∧ ∀ s ∈ ss, Con w s.A s.n s.ca s.B s.m s.cb s.v.x ∧ OffB u.ownBlock s.A s.v.x.1 ∧ OffB u.ownBlock s.B s.v.x.2
section
variable {w w' : World} {B : Nat} {u : Value} {l : List Vis}
theorem Dots.grownOff {A : Option Addr} {n c : Nat} {l : List Dot} {r : Option Nat} (h : Dots w A n c l) (hg : w.grownBy w' r) (ho : OffB r A l) : Dots w' A n c l :=
  ⟨h.len, h.cap, h.max, h.nil, fun i d hi => by
    obtain ⟨b, o, e, hb, h1, h2⟩ := h.cell i d hi
    have hn := ho (fun e => by subst e; simp at hi) _ e
    exact ⟨b, o, e, Nat.lt_of_lt_of_le hb hg.size, hg.cell h1 hn, hg.cell h2 hn⟩⟩
theorem Dots.offNew {A : Option Addr} {n c : Nat} {l : List Dot} (h : Dots w A n c l) {k : Nat} (hk : w.heap.size ≤ k) : OffB (some k) A l := fun hne a ha e => by
  obtain ⟨d, t, rfl⟩ := List.exists_cons_of_ne_nil hne
  obtain ⟨b, o, e2, hb, _⟩ := h.cell 0 d rfl
  rw [ha] at e2; cases e2
  simp only [Option.some.injEq] at e
  have e : b = k := e
  omega
theorem VRow.nil_ (w : World) (B : Nat) : VRow w B (.slice none 0 0) [] := ⟨[], rfl, World.ownsRow_nil w B _ 6, fun _ h => nomatch h⟩
theorem ownsRow_below {e : TypeId} {z n : Nat} {xs : List Value} (h : w.ownsRow B e z u n xs) (hb : Below w.heap.size w w') : w'.ownsRow B e z u n xs := by
  refine ⟨h.1, ?_⟩
  rcases h.2 with h2 | ⟨g, cap, cur, hv, hg, hh, r⟩
  · exact .inl h2
  · exact .inr ⟨g, cap, cur, hv, hg, (hb.block g (Array.getElem?_eq_some_iff.1 hh).1).trans hh, r⟩
theorem VRow.mono (h : VRow w B u l) (hb : Below w.heap.size w w') : VRow w' B u l := by
  obtain ⟨ss, e, ho, hs⟩ := h
  exact ⟨ss, e, ownsRow_below ho hb, fun s hm => let ⟨a, b, c⟩ := hs s hm; ⟨a.mono hb, b, c⟩⟩
theorem VRow.own (h : VRow w B u l) : ∀ k, u.ownBlock = some k → B ≤ k ∧ k < w.heap.size := by
  obtain ⟨ss, e, ho, hs⟩ := h
  exact ho.lt
theorem VRow.visits (h : VRow w B u l) : ∃ A c, u = .slice A l.length c ∧ Visits w A l.length c l := by
  obtain ⟨ss, rfl, ho, hs⟩ := h
  rw [List.length_map]
  rcases ho.2 with ⟨rfl, h0⟩ | ⟨g, cap, cur, rfl, hg, hh, hn, hm, hsz, ht⟩
  · have : ss = [] := List.eq_nil_of_length_eq_zero h0
    subst this
    exact ⟨none, 0, rfl, Visits.nil_⟩
  · refine ⟨some ⟨g, 0, none⟩, cap, rfl, by simp, hn, hm, (fun e => nomatch e), fun i v hi => ?_⟩
    rw [List.getElem?_map] at hi
    cases hsi : ss[i]? with
    | none => rw [hsi] at hi; cases hi
    | some s =>
      rw [hsi] at hi; cases hi
      have cell : ∀ j u, (vcell s)[j]? = some u → w.cell? ⟨g, 0 + i * 6 + j, none⟩ = some u := fun j u hj => by
        have := ho.cells (g := g) rfl (i * 6 + j) u (vcells_get ss i s hsi j u hj)
        rw [add_lit] at this
        rw [Nat.add_assoc]; exact this
      exact ⟨g, 0, s.A, s.n, s.ca, s.B, s.m, s.cb, rfl, cell 0 _ rfl, cell 1 _ rfl, cell 2 _ rfl, cell 3 _ rfl, cell 4 _ rfl, cell 5 _ rfl, (hs s (List.mem_of_getElem? hsi)).1⟩
end
theorem info_vis : ∃ i : TypeInfo, Try.prog.info? 33 = some i ∧ i.zero = some (.agg #[.int .i64 0, .bool false, .int .i64 0, .int .i64 0, .slice none 0 0, .slice none 0 0]) ∧ i.size = 6 ∧ i.bytes = 80 := by
  obtain ⟨i, h1, h2, h3, h4⟩ := info_parts (P := Try.prog) (show (Try.prog.info? 33).map (fun i => (i.zero, i.size, i.bytes)) = some (some (.agg #[.int .i64 0, .bool false, .int .i64 0, .int .i64 0, .slice none 0 0, .slice none 0 0]), 6, 80) by kernel_rfl)
  exact ⟨i, h1, h2, h3, h4⟩
theorem wpList_appV {ops : Array Oper} {rest : List Oper} {o : Oper} {a : Act} {Q : Exit → Act → World → Prop} {s x : Operand} {t : TypeId} {w : World} {B b : Nat} {u : Value} {l : List Vis} {v : Vis} {A C : Option Addr} {n ca m cb : Nat}
    (hgd : o.guard = none) (ho : o.op = .call { callee := .builtin .append, args := #[s, x], argTypes := #[t, t] }) (ht : Try.prog.underlying t = some (.slice 33)) (hsv : a.eval s = u) (hxv : a.eval x = .slice (some ⟨b, 0, none⟩) 1 1)
    (h : VRow w B u l) (hv : VisAt b 0 A n ca C m cb v w) (o1 : OffB u.ownBlock A v.x.1) (o2 : OffB u.ownBlock C v.x.2) (hs : l.length + 1 ≤ 1000000) (hB : B ≤ w.heap.size)
    (K : ∀ u' w', VRow w' B u' (l ++ [v]) → w.grownBy w' u.ownBlock → (u'.ownBlock = u.ownBlock ∨ u'.ownBlock = some w.heap.size) → wpList Try.prog ops Q rest (a.put o.dst u') w') : wpList Try.prog ops Q (o :: rest) a w := by
  obtain ⟨i, hi, hz, hsz, hby⟩ := info_vis
  obtain ⟨ss, rfl, hown, hcon⟩ := h
  rw [List.length_map] at hs
  refine wpList_append_own_at w hgd s x t ho B 33 i _ 6 80 ht hi hz hsz hby rfl (by omega) u ss.length (vcells ss) hsv hown ⟨b, 0, none⟩ 1 1 (vcells [⟨v, A, n, ca, C, m, cb⟩]) hxv (by rw [vcells_length]; rfl) (fun j x hj => ?_) (vcells_one _) (by unfold maxLen; omega) (by omega) hB ?_
  · rw [add_lit]
    match j, hj with
    | 0, hj => cases hj; exact hv.c0
    | 1, hj => cases hj; exact hv.c1
    | 2, hj => cases hj; exact hv.c2
    | 3, hj => cases hj; exact hv.c3
    | 4, hj => cases hj; exact hv.c4
    | 5, hj => cases hj; exact hv.c5
    | j + 6, hj => exact absurd (List.getElem?_eq_some_iff.1 hj).1 (by rw [vcells_length]; simp)
  · intro u' w' h2 hg _ hat
    refine K u' w' ⟨ss ++ [⟨v, A, n, ca, C, m, cb⟩], by simp, by rw [vcells_append]; simpa using h2, fun s hm => ?_⟩ hg hat
    have key : ∀ s : VS, Con w s.A s.n s.ca s.B s.m s.cb s.v.x ∧ OffB u.ownBlock s.A s.v.x.1 ∧ OffB u.ownBlock s.B s.v.x.2 → Con w' s.A s.n s.ca s.B s.m s.cb s.v.x ∧ OffB u'.ownBlock s.A s.v.x.1 ∧ OffB u'.ownBlock s.B s.v.x.2 := by
      rintro s ⟨k1, k2, k3⟩
      refine ⟨⟨k1.v.grownOff hg k2, k1.k.grownOff hg k3⟩, ?_⟩
      rcases hat with e | e
      · rw [e]; exact ⟨k2, k3⟩
      · rw [e]; exact ⟨k1.v.offNew (Nat.le_refl _), k1.k.offNew (Nat.le_refl _)⟩
    rcases List.mem_append.1 hm with hm | hm
    · exact key s (hcon s hm)
    · rw [List.mem_singleton.1 hm]; exact key _ ⟨hv.con, o1, o2⟩
set_option maxRecDepth 100000 in
set_option maxHeartbeats 1000000 in
/-- one, and where its dot lies. -/
theorem sOneX (r : Int) (w : World) : Calls Try.prog 13 #[.int .i64 r] w (Ret w (fun w' v => v = .agg #[.slice (some ⟨w.heap.size + 1, 0, none⟩) 1 1, .slice none 0 0] ∧ Con w' (some ⟨w.heap.size + 1, 0, none⟩) 1 1 none 0 0 ([(r, 1)], []))) := by
  go_enter Try.func13, Try.ntmps13
  go_wp2
  refine bodyPost_ret (v := .agg #[.slice (some ⟨w.heap.size + 1, 0, none⟩) 1 1, .slice none 0 0]) (by simp [results, Try.results13, go_sem]) rfl ?_
  have hd := Dots.one (w.alloc (conBox (some ⟨w.heap.size + 1, 0, none⟩) 1 1 none 0 0)) r 1
  have hz : (w.alloc (conBox (some ⟨w.heap.size + 1, 0, none⟩) 1 1 none 0 0)).heap.size = w.heap.size + 1 := by simp
  rw [hz] at hd
  exact ⟨_, rfl, by go_grown, rfl, ⟨hd, Dots.nil_⟩⟩
end Go.Proofs.Ytjbakmmmgejhlaa

/-
  The statements' helper: dots.
-/
namespace Go.Proofs.Ytjbakmmmgejhlaa
open Go.RowKit

def runD (d : Dot) (j : Nat) : List Dot := (List.range j).map fun i : Nat => (d.1, (i : Int) + 1)
def dotsV (l : List Dot) : List Dot := l.flatMap fun d => runD d d.2.toNat
def dotsS (c : Ctx) : List Dot := dotsV c.1 ++ c.2
theorem runD_len (d : Dot) (j : Nat) : (runD d j).length = j := by unfold runD; simp
theorem runD_succ (d : Dot) (j : Nat) : runD d (j + 1) = runD d j ++ [(d.1, (j : Int) + 1)] := by unfold runD; rw [List.range_succ, List.map_append]; rfl
theorem dotsV_snoc (l : List Dot) (d : Dot) : dotsV (l ++ [d]) = dotsV l ++ runD d d.2.toNat := by unfold dotsV; rw [List.flatMap_append]; simp
theorem dotsV_len : ∀ (l : List Dot), (∀ d ∈ l, d.2 ≤ 60) → (dotsV l).length ≤ 60 * l.length
  | [], _ => by simp [dotsV]
  | d :: l, h => by
    have e : dotsV (d :: l) = runD d d.2.toNat ++ dotsV l := rfl
    have h1 := dotsV_len l (fun x hx => h x (List.mem_cons_of_mem _ hx))
    have h2 := h d (List.mem_cons_self ..)
    rw [e, List.length_append, runD_len, List.length_cons]
    omega
theorem small_iff {c : Ctx} (h : smallB c = true) : c.1.length ≤ 12 ∧ c.2.length ≤ 12 ∧ (∀ d ∈ c.1, d.2 ≤ 60) ∧ ∀ d ∈ c.2, d.2 ≤ 60 := by
  unfold smallB at h
  simp only [Bool.and_eq_true, decide_eq_true_eq, List.all_eq_true] at h
  obtain ⟨⟨⟨h1, h2⟩, h3⟩, h4⟩ := h
  refine ⟨h3, h4, fun d hd => ?_, fun d hd => ?_⟩
  · rw [List.take_of_length_le (by omega)] at h1; exact of_decide_eq_true (h1 d hd)
  · rw [List.take_of_length_le (by omega)] at h2; exact of_decide_eq_true (h2 d hd)
theorem dotsS_len {c : Ctx} (h : smallB c = true) : (dotsS c).length ≤ 732 := by
  obtain ⟨h1, h2, h3, h4⟩ := small_iff h
  have := dotsV_len c.1 h3
  unfold dotsS
  rw [List.length_append]; omega
def DotsRel (w : World) (n : Nat) (l : List Dot) (u i : Value) (wr : World) : Prop := ∃ k : Nat, i = .int .i64 k ∧ k ≤ n ∧ Below w.heap.size w wr ∧ Row wr w.heap.size u (dotsV (l.take k))
def DotsRel2 (w : World) (k : Nat) (l : List Dot) (d : Dot) (u i : Value) (wr : World) : Prop := ∃ j : Nat, i = .int .i64 ((j : Int) + 1) ∧ j ≤ d.2.toNat ∧ Below w.heap.size w wr ∧ Row wr w.heap.size u (dotsV (l.take k) ++ runD d j)
set_option maxRecDepth 100000 in
set_option maxHeartbeats 4000000 in
theorem sdots (A B : Option Addr) (n ca m cb : Nat) (c : Ctx) (w : World) (hc : Con w A n ca B m cb c) (hs : smallB c = true) :
    Calls Try.prog 32 #[.agg #[.slice A n ca, .slice B m cb]] w (Ret w (IsRow w.heap.size (dotsS c))) := by
  obtain ⟨W, hWdef⟩ : ∃ W, W = w.alloc (conBox A n ca B m cb) := ⟨_, rfl⟩
  have hb0 : Below w.heap.size w W := by rw [hWdef]; go_grown
  have bc : Boxed w.heap.size A B n ca m cb c W := by rw [hWdef]; exact Boxed.new hc
  have hn := hc.v.big; have hm := hc.k.big
  have LN := Lib.hid hc.v.len; have LM := Lib.hid hc.k.len
  have DEF := Lib.hid hWdef; have HB := Lib.hid hb0; have BC := Lib.hid bc
  have SM := Lib.hid (small_iff hs)
  have HZ := Lib.hid (show W.heap.size = w.heap.size + 1 by rw [hWdef]; simp)
  clear hWdef hb0 bc hc hs
  go_enter Try.func32, Try.ntmps32
  go_wp2
  rw [← DEF.out]
  go_loopw [3, 4] (fun u i wr => DotsRel W n c.1 u i wr) (fun _ i _ => n - (intOf i).toNat)
  case atStart => exact ⟨0, rfl, Nat.zero_le _, Below.refl _ _, Row.nil_ _ _⟩
  case round =>
    obtain ⟨k, rfl, hk, hb, hrow⟩ := hrel
    have BCr := Lib.hid (BC.out.mono hb); have HBW := Lib.hid hb; have ROW := Lib.hid hrow
    have x0 := BCr.out.c0; have x1 := BCr.out.c1
    clear hb hrow
    by_cases hlt : k < n
    · obtain ⟨b', o, p, q, rfl, hbk, e0, d1, k1, k3⟩ := BCr.out.con.v.at_ (k := k) hlt
      have hq60 : q ≤ 60 := SM.out.2.2.1 (p, q) (List.mem_of_getElem? e0)
      have E0 := Lib.hid e0; have K1 := Lib.hid k1; have K3 := Lib.hid k3
      clear e0 d1
      go_wp2
      clear x0 x1 k1 k3
      have SL := Lib.hid (show (dotsV (c.1.take k)).length ≤ 60 * 12 by
        have h1 := dotsV_len (c.1.take k) (fun d hd => SM.out.2.2.1 d (List.mem_of_mem_take hd))
        have h2 := SM.out.1
        rw [List.length_take] at h1; omega)
      go_loopw [3, 5] (fun u i w2 => DotsRel2 W k c.1 (p, q) u i w2) (fun _ i _ => 62 - (intOf i).toNat)
      case atStart => exact ⟨0, rfl, Nat.zero_le _, HBW.out, by unfold runD; simpa using ROW.out⟩
      case round =>
        obtain ⟨j, rfl, hj, hb2, hrow2⟩ := hrel
        have hj : j ≤ q.toNat := hj
        have BC2 := Lib.hid (BC.out.mono hb2); have HB2 := Lib.hid hb2; have ROW2 := Lib.hid hrow2
        have x0 := BC2.out.c0; have x1 := BC2.out.c1
        obtain ⟨b2, o2, p2, q2, e2, hbk2, e02, d2, k1, k3⟩ := BC2.out.con.v.at_ (k := k) hlt
        cases e2
        rw [E0.out] at e02; cases e02
        clear hb2 hrow2 d2
        by_cases hle : (j : Int) + 1 ≤ q
        · have hd : decide ((j : Int) + 1 ≤ q) = true := decide_eq_true hle
          have D1 := Lib.hid (Dots.one wr p ((j : Int) + 1))
          obtain ⟨L, hL⟩ : ∃ L, L = dotsV (c.1.take k) ++ runD (p, q) j := ⟨_, rfl⟩
          have ROW3 := Lib.hid (show Row wr W.heap.size u3 L by rw [hL]; exact ROW2.out)
          have LL := Lib.hid (show L.length ≤ 1000 by rw [hL, List.length_append, runD_len]; have := SL.out; omega)
          have HL := Lib.hid hL
          clear hL
          go_wp2_with (at_builtin; refine wpList_app (B := W.heap.size) (l := L) (k := [(p, (j : Int) + 1)]) rfl rfl Try.underlying28 rfl rfl (Row.mono ROW3.out (by go_grown)) D1.out (by have := LL.out; simp; omega) (by have := HB2.out.size; simp; omega) ?_; intro v' w' hr' hg'; have HR' := Lib.hid hr'; have HG' := Lib.hid hg'; clear hr' hg'; simp only [Act.put, List.setIfInBounds_toArray, List.set_cons_zero, List.set_cons_succ])
          go_roundw
          case rel => exact ⟨j + 1, by simp, by show j + 1 ≤ q.toNat; omega, (HB2.out.alloc HB2.out.size _).grown HG'.out (by have := HB2.out.size; simp; omega) (fun r hr => Row.own _ ROW3.out r hr), by rw [runD_succ, ← List.append_assoc, ← HL.out]; exact HR'.out⟩
          case measure => simp [intOf]; omega
        · have hd : decide ((j : Int) + 1 ≤ q) = false := decide_eq_false hle
          have hjq : j = q.toNat := by omega
          subst hjq
          go_wp2
          go_roundw
          case rel => exact ⟨k + 1, by simp, hlt, HB2.out, by rw [take_snoc E0.out, dotsV_snoc]; exact ROW2.out⟩
          case measure => simp [intOf]; omega
    · have hfull : c.1.take k = c.1 := List.take_of_length_le (by have := LN.out; omega)
      rw [hfull] at ROW
      obtain ⟨L, hL⟩ : ∃ L, L = dotsV c.1 := ⟨_, rfl⟩
      rw [← hL] at ROW
      have LL := Lib.hid (show L.length ≤ 60 * 12 by rw [hL]; have h1 := dotsV_len c.1 SM.out.2.2.1; have h2 := SM.out.1; omega)
      have HL := Lib.hid hL
      clear hL hfull
      have DK := Lib.hid BCr.out.con.k
      go_wp2_with (at_builtin; refine wpList_app (B := W.heap.size) (l := L) (k := c.2) rfl rfl Try.underlying28 rfl rfl ROW.out DK.out (by have := LL.out; have := SM.out.2.1; omega) HBW.out.size ?_; intro v' w' hr' hg'; have HR' := Lib.hid hr'; have HG' := Lib.hid hg'; clear hr' hg'; simp only [Act.put, List.setIfInBounds_toArray, List.set_cons_zero, List.set_cons_succ])
      go_ret
      exact ⟨_, rfl, HB.out.le (HBW.out.grown HG'.out HBW.out.size (fun r hr => Row.own _ ROW.out r hr)), Row.low (by unfold dotsS; rw [← HL.out]; exact HR'.out) (by rw [HZ.out]; omega)⟩
theorem entDots : Enters Try.prog 32 := enters_of Try.func32 (by kernel_rfl) rfl
/-- Its dots are those that are in it. -/
theorem mem_runD {d e : Dot} {j : Nat} : e ∈ runD d j ↔ e.1 = d.1 ∧ 1 ≤ e.2 ∧ e.2 ≤ j := by
  unfold runD
  rw [List.mem_map]
  constructor
  · rintro ⟨i, hi, rfl⟩
    have := List.mem_range.1 hi
    exact ⟨rfl, by show 1 ≤ (i : Int) + 1; omega, by show (i : Int) + 1 ≤ j; omega⟩
  · rintro ⟨h1, h2, h3⟩
    obtain ⟨a, b⟩ := e
    have h1 : a = d.1 := h1
    have h2 : 1 ≤ b := h2
    have h3 : b ≤ j := h3
    exact ⟨(b - 1).toNat, List.mem_range.2 (by omega), by rw [h1]; congr 1; omega⟩
theorem mem_dots {c : Ctx} (h : Ok c) {d : Dot} : d ∈ dotsS c ↔ In c d := by
  unfold dotsS dotsV
  rw [List.mem_append, List.mem_flatMap]
  constructor
  · rintro (⟨e, he, hd⟩ | hd)
    · obtain ⟨h1, h2, h3⟩ := mem_runD.1 hd
      have hv := validD_iff.1 (validL_mem h.vec he)
      have hg := getV_mem h.inc he
      refine ⟨validD_iff.2 ⟨by omega, by omega, h2, by omega⟩, .inl ?_⟩
      rw [h1, hg]; omega
    · exact ⟨validL_mem h.dots hd, .inr hd⟩
  · rintro ⟨hv, hd | hd⟩
    · have hv' := validD_iff.1 hv
      by_cases hr : ∃ e ∈ c.1, e.1 = d.1
      · obtain ⟨e, he, hee⟩ := hr
        rw [← hee, getV_mem h.inc he] at hd
        exact .inl ⟨e, he, mem_runD.2 ⟨hee.symm, hv'.2.2.1, by omega⟩⟩
      · rw [getV_zero (fun a ha e => hr ⟨a, ha, e⟩)] at hd
        omega
    · exact .inr hd
end Go.Proofs.Ytjbakmmmgejhlaa

/-
  The statements' model of a session: visit.
-/
namespace Go.Proofs.Ytjbakmmmgejhlaa
open Go.RowKit

abbrev Mo := List Dot × List Dot
def brokM (m : Mo) (v : Vis) : Int := (if m.2.all (hasC v.x) then 0 else if v.w then 8 else 1) + (if m.1.all (hasC v.x) then 0 else if v.w then 4 else 2)
def stepM (m : Mo) (v : Vis) : Mo := if v.w then (m.1, m.2 ++ [v.d]) else (m.1 ++ dotsS v.x, m.2)
theorem wpList_store {P : Program} {Q : Exit → Act → World → Prop} {ops : Array Oper} {rest : List Oper} {o : Oper} {a : Act} {w w' : World} {ty : TypeId} {x y : Operand} {p v : Value} (hg : o.guard = none) (ho : o.op = .store ty x y) (hd : o.dst = none) (hx : a.eval x = p) (hy : a.eval y = v) (e : (Instr.storeAt ty p v).run P w = .ok () w') (h : wpList P ops Q rest a w') : wpList P ops Q (o :: rest) a w :=
  wpList_plain hg fun _ hK => wp_store_to ho hd hx hy e (hK _ _ h)
theorem wpList_nilc {P : Program} {Q : Exit → Act → World → Prop} {ops : Array Oper} {rest : List Oper} {o : Oper} {a : Act} {w : World} {x : Operand} {d : Tmp} {p : Addr} (hg : o.guard = none) (ho : o.op = .nilCheck x) (hd : o.dst = some d) (hx : a.eval x = .pointer (some p)) (h : wpList P ops Q rest (a.put (some d) (.pointer (some p))) w) : wpList P ops Q (o :: rest) a w := by
  refine wpList_plain hg fun K hK => ?_
  unfold Oper.wp
  generalize a.eval = ρ at hx
  have : (execOp ρ o).run P w = .ok (.value (.pointer (some p))) w := by simp [execOp, ho, hx]
  rw [this]
  show K (a.put o.dst _) w
  rw [hd]; exact hK _ _ h
theorem wpList_field {P : Program} {Q : Exit → Act → World → Prop} {ops : Array Oper} {rest : List Oper} {o : Oper} {a : Act} {w : World} {x : Operand} {d : Tmp} {p r : Value} {ty : TypeId} {f : Nat} (hg : o.guard = none) (ho : o.op = .fieldAddr ty x f) (hd : o.dst = some d) (hx : a.eval x = p) (e : (Instr.fieldAt ty p f).run P w = .ok r w) (h : wpList P ops Q rest (a.put (some d) r) w) : wpList P ops Q (o :: rest) a w := by
  refine wpList_plain hg fun K hK => ?_
  unfold Oper.wp
  generalize a.eval = ρ at hx
  have : (execOp ρ o).run P w = .ok (.value r) w := by simp [execOp, ho, hx, e]
  rw [this]
  show K (a.put o.dst _) w
  rw [hd]; exact hK _ _ h
/-- A model in the heap. -/
def ModAt (M : Nat) (m : Mo) (w : World) : Prop := ∃ A n c B k d, w.cell? ⟨M, 0, none⟩ = some (.slice A n c) ∧ w.cell? ⟨M, 1, none⟩ = some (.slice B k d) ∧ Dots w A n c m.1 ∧ Dots w B k d m.2 ∧ (∀ o, w.frozen? ⟨M, o, none⟩ = false) ∧ NoInt w M
section
variable {M N : Nat} {m : Mo} {w w1 : World}
theorem ModAt.size (h : ModAt M m w) : M < w.heap.size := let ⟨_, _, _, _, _, _, c, _⟩ := h; World.block_lt_of_cell? w _ c
theorem ModAt.ni (h : ModAt M m w) : NoInt w M := let ⟨_, _, _, _, _, _, _, _, _, _, _, n⟩ := h; n
theorem ModAt.mono (h : ModAt M m w) (hb : Below w.heap.size w w1) : ModAt M m w1 := by
  have hz := h.size
  obtain ⟨A, n, c, B, k, d, c0, c1, d0, d1, f, ni⟩ := h
  exact ⟨A, n, c, B, k, d, cellKeep hb c0, cellKeep hb c1, d0.mono hb, d1.mono hb, fun o => (hb.frozen (p := ⟨M, o, none⟩) hz).trans (f o), ni.mono hb hz⟩
theorem ModAt.hole (h : ModAt M m w) (ni : NoInt w N) (hh : Hole N w w1) (hn : M ≠ N) : ModAt M m w1 := by
  have hz := h.size
  obtain ⟨A, n, c, B, k, d, c0, c1, d0, d1, f, nM⟩ := h
  exact ⟨A, n, c, B, k, d, hh.keep (p := ⟨M, 0, none⟩) hn c0, hh.keep (p := ⟨M, 1, none⟩) hn c1, d0.hole ni hh, d1.hole ni hh, fun o => (hh.frozen (p := ⟨M, o, none⟩) hz hn).trans (f o), nM.hole hh hz hn⟩
theorem ModAt.new (w : World) : ModAt w.heap.size ([], []) (w.alloc (.cells #[.slice none 0 0, .slice none 0 0] 38)) :=
  ⟨none, 0, 0, none, 0, 0, by simp [go_sem], by simp [go_sem], Dots.nil_, Dots.nil_, fun o => by simp [go_sem], fun o x e => by
    simp only [World.cell?, World.alloc] at e
    simp at e
    match o, e with
    | 0, e => simp at e
    | 1, e => simp at e
    | n + 2, e => simp at e⟩
theorem field_mod0 {b o : Nat} {w : World} : (Instr.fieldAt 38 (.pointer (some ⟨b, o, none⟩)) 0).run Try.prog w = .ok (.pointer (some ⟨b, o, none⟩)) w := by simp [go_sem]
theorem field_mod1 {b o : Nat} {w : World} : (Instr.fieldAt 38 (.pointer (some ⟨b, o, none⟩)) 1).run Try.prog w = .ok (.pointer (some ⟨b, o + 1, none⟩)) w := by simp [go_sem]
theorem field_vis2 {b o : Nat} {w : World} : (Instr.fieldAt 33 (.pointer (some ⟨b, o, none⟩)) 2).run Try.prog w = .ok (.pointer (some ⟨b, o + 2, none⟩)) w := by simp [go_sem]
theorem field_vis3 {b o : Nat} {w : World} : (Instr.fieldAt 33 (.pointer (some ⟨b, o, none⟩)) 3).run Try.prog w = .ok (.pointer (some ⟨b, o + 4, none⟩)) w := by simp [go_sem]
theorem load_sl {A : Option Addr} {n c b o : Nat} {w0 w : World} (hb : Below w0.heap.size w0 w) (h : w0.cell? ⟨b, o, none⟩ = some (.slice A n c)) : (Instr.loadAt 28 (.pointer (some ⟨b, o, none⟩))).run Try.prog w = .ok (.slice A n c) w := by
  have c1 := cellKeep hb h
  simp [go_sem, c1]
theorem VisAt.loadX {b o n ca k cb : Nat} {A B : Option Addr} {v : Vis} {w w1 : World} {u : Value} (h : VisAt b o A n ca B k cb v w) (hb : Below w.heap.size w w1) (hu : Is (.pointer (some ⟨b, o + 4, none⟩)) w1 u) : ∃ r, (Instr.loadAt 31 u).run Try.prog w1 = .ok r w1 ∧ IsCon v.x w1 r := by
  cases hu
  exact ⟨_, load_con hb h.c4 h.c5, A, n, ca, B, k, cb, rfl, h.con.mono hb⟩
theorem withinL {A : Option Addr} {n c : Nat} {l : List Dot} {x : Ctx} {w0 w : World} {u v : Value} (hu : Is (.slice A n c) w u) (hd : Dots w0 A n c l) (hb : Below w0.heap.size w0 w) (hv : IsCon x w v) (r : Bool) (hr : l.all (hasC x) = r) :
    Calls Try.prog 31 #[u, v] w (Ret w (IsB r)) := by
  cases hu; subst hr
  obtain ⟨A2, n2, ca2, B2, m2, cb2, rfl, hc⟩ := hv
  exact sWithin A A2 B2 n c n2 ca2 m2 cb2 l x w (hd.mono hb) hc
theorem entWithinL : Enters Try.prog 31 := enters_of Try.func31 (by kernel_rfl) rfl
end
def VPost (M : Nat) (m : Mo) (w : World) (g : Int) (e : Ending) (w' : World) : Prop := e = .returned (.int .i64 g) ∧ Hole M w w' ∧ ModAt M m w'
theorem dotsI {x : Ctx} {w : World} {v : Value} {B : Nat} (hB : B ≤ w.heap.size) (hv : IsCon x w v) (hs : smallB x = true) : Calls Try.prog 32 #[v] w (Ret w (IsRow B (dotsS x))) := by
  obtain ⟨A2, n2, ca2, B2, m2, cb2, rfl, hc⟩ := hv
  exact (sdots A2 B2 n2 ca2 m2 cb2 x w hc hs).mono fun _ _ ⟨u, e, hb, hr⟩ => ⟨u, e, hb, Row.low hr hB⟩
set_option maxRecDepth 100000 in
set_option maxHeartbeats 8000000 in
theorem visit_true (M : Nat) (A B : Option Addr) (n ca k cb : Nat) (m : Mo) (cl p q : Int) (x : Ctx) (w : World) (hm : ModAt M m w) (hc : Con w A n ca B k cb x) (sx : smallB x = true) (l1 : m.1.length ≤ 100000) (l2 : m.2.length ≤ 100000) :
    Calls Try.prog 12 #[.pointer (some ⟨M, 0, none⟩), visV ⟨cl, true, (p, q), x⟩ A n ca B k cb] w (VPost M (stepM m ⟨cl, true, (p, q), x⟩) w (brokM m ⟨cl, true, (p, q), x⟩)) := by
  obtain ⟨W, hWdef⟩ : ∃ W, W = w.alloc (visBox ⟨cl, true, (p, q), x⟩ A n ca B k cb) := ⟨_, rfl⟩
  have hb0 : Below w.heap.size w W := by rw [hWdef]; go_grown
  have va : VisAt w.heap.size 0 A n ca B k cb ⟨cl, true, (p, q), x⟩ W := by rw [hWdef]; exact VisAt.new hc
  have MM := Lib.hid (hm.mono hb0); have VA := Lib.hid va; have HH := Lib.hid (Hole.of (N := M) hb0); have DEF := Lib.hid hWdef; have SX := Lib.hid sx
  have L1 := Lib.hid (show m.1.length ≤ 1000000000 by omega); have L2 := Lib.hid (show m.2.length ≤ 1000000000 by omega); have L3 := Lib.hid l2; have L4 := Lib.hid l1
  obtain ⟨b1, h1⟩ : ∃ b1, m.2.all (hasC x) = b1 := ⟨_, rfl⟩
  obtain ⟨b2, h2⟩ : ∃ b2, m.1.all (hasC x) = b2 := ⟨_, rfl⟩
  have H1 := Lib.hid h1; have H2 := Lib.hid h2
  clear hb0 va hWdef hm hc sx l1 l2 h1 h2
  obtain ⟨A1, n1, ca1, B1, m1, cb1, c0, c1, k0, k1, fz, ni⟩ := MM.out
  have C0 := Lib.hid c0; have C1 := Lib.hid c1; have K0 := Lib.hid k0; have K1 := Lib.hid k1; have FZ := Lib.hid fz; have NI := Lib.hid ni
  clear c0 c1 k0 k1 fz ni
  go_enter Try.func12, Try.ntmps12
  go_wp2_with fail
  rw [← DEF.out]
  refine wp_region_M mixed (by kernel_rfl) ?_
  refine MDerR.step (Ob.move Wanted.free Has.oldIs) ?_
  refine MDerR.step (Ob.nilV Wanted.free (Has.new 0 0)) ?_
  refine MDerR.step (Ob.fieldV Wanted.free (Has.new 1 0) (fun w1 => field_mod1)) ?_
  refine MDerR.step (Ob.loadV Wanted.free (Has.new 2 0) (fun w1 hb1 => load_sl hb1 C1.out)) ?_
  refine MDerR.step (Ob.fieldV Wanted.free Has.oldIs (fun w1 => field_vis3)) ?_
  refine MDerR.step (Ob.load (F := IsCon x) Wanted.free (Has.new 4 0) (fun w1 v hb1 hv => VA.out.loadX hb1 hv)) ?_
  refine MDerR.step (Ob.call2 Wanted.free entWithinL (Has.new 3 2) (Has.new 5 0) (fun w1 u v hb1 (hu : Is (.slice B1 m1 cb1) w1 u) (hv : IsCon x w1 v) => withinL hu K1.out hb1 hv b1 H1.out)) ?_
  refine MDerR.step (Ob.not Wanted.free (Has.new 6 0)) ?_
  simp only [MDerR, dstsOf, List.map, EndM, List.reverse_cons, List.reverse_nil, List.nil_append, List.cons_append]
  intro wE hE
  iterate 5 (rintro _ rfl)
  rintro _ _h5
  iterate 2 (rintro _ rfl)
  simp only [Act.put, List.setIfInBounds_toArray, List.set_cons_zero, List.set_cons_succ]
  have MM2 := Lib.hid (MM.out.mono hE); have HH2 := Lib.hid (HH.out.le hE); have VA2 := Lib.hid (VA.out.mono hE)
  clear hE _h5 C0 C1 K0 K1 FZ NI MM HH VA DEF
  have MM := MM2; have HH := HH2; have VA := VA2
  clear MM2 HH2 VA2
  generalize wE = W1 at *
  obtain ⟨A1, n1, ca1, B1, m1, cb1, c0, c1, k0, k1, fz, ni⟩ := MM.out
  have C0 := Lib.hid c0; have C1 := Lib.hid c1; have K0 := Lib.hid k0; have K1 := Lib.hid k1; have FZ := Lib.hid fz; have NI := Lib.hid ni
  clear c0 c1 k0 k1 fz ni
  have H1' := H1.out
  cases b1 with
  | true =>
    have y1 := VA.out.c1
    go_wp2_with fail
    clear y1
    refine wp_region_M mixed (by kernel_rfl) ?_
    refine MDerR.step (Ob.move Wanted.free Has.oldIs) ?_
    refine MDerR.step (Ob.nilV Wanted.free (Has.new 0 0)) ?_
    refine MDerR.step (Ob.fieldV Wanted.free (Has.new 1 0) (fun w1 => field_mod0)) ?_
    refine MDerR.step (Ob.loadV Wanted.free (Has.new 2 0) (fun w1 hb1 => load_sl hb1 C0.out)) ?_
    refine MDerR.step (Ob.fieldV Wanted.free Has.oldIs (fun w1 => field_vis3)) ?_
    refine MDerR.step (Ob.load (F := IsCon x) Wanted.free (Has.new 4 0) (fun w1 v hb1 hv => VA.out.loadX hb1 hv)) ?_
    refine MDerR.step (Ob.call2 Wanted.free entWithinL (Has.new 3 2) (Has.new 5 0) (fun w1 u v hb1 (hu : Is (.slice A1 n1 ca1) w1 u) (hv : IsCon x w1 v) => withinL hu K0.out hb1 hv b2 H2.out)) ?_
    refine MDerR.step (Ob.not Wanted.free (Has.new 6 0)) ?_
    simp only [MDerR, dstsOf, List.map, EndM, List.reverse_cons, List.reverse_nil, List.nil_append, List.cons_append]
    intro wE hE
    iterate 5 (rintro _ rfl)
    rintro _ _h5
    iterate 2 (rintro _ rfl)
    simp only [Act.put, List.setIfInBounds_toArray, List.set_cons_zero, List.set_cons_succ]
    have MM2 := Lib.hid (MM.out.mono hE); have HH2 := Lib.hid (HH.out.le hE); have VA2 := Lib.hid (VA.out.mono hE)
    clear hE _h5 C0 C1 K0 K1 FZ NI MM HH VA
    have MM := MM2; have HH := HH2; have VA := VA2
    clear MM2 HH2 VA2
    generalize wE = W2 at *
    obtain ⟨A1, n1, ca1, B1, m1, cb1, c0, c1, k0, k1, fz, ni⟩ := MM.out
    have C0 := Lib.hid c0; have C1 := Lib.hid c1; have K0 := Lib.hid k0; have K1 := Lib.hid k1; have FZ := Lib.hid fz; have NI := Lib.hid ni
    clear c0 c1 k0 k1 fz ni
    have y1 := VA.out.c1
    have H2' := H2.out
    cases b2
    · skip
      go_wp2_with fail
      refine wp_region_any mixed ?_
      refine take_pure (i := 0) rfl rfl (by kernel_rfl) (fun _ _ _ h => h) (v := .pointer (some ⟨M, 0, none⟩)) (fun w => by simp [execOp, Act.eval]) ?_
      simp only [Act.put, List.setIfInBounds_toArray, List.set_cons_zero, List.set_cons_succ]
      refine wp_left [1, 2, 3, 4, 5, 6, 7, 8, 9, 10, 11, 12] 8 (by kernel_rfl) (by kernel_rfl) (by kernel_rfl) (by kernel_rfl) ?_
      refine MDerT.step (Ob.move Wanted.free Has.oldIs) ?_
      refine MDerT.step (Ob.nilV Wanted.free (Has.new 0 0)) ?_
      refine MDerT.step (Ob.fieldV Wanted.free (Has.new 1 0) (fun w1 => field_mod1)) ?_
      refine MDerT.step (Ob.loadV Wanted.free (Has.new 2 0) (fun w1 hb1 => load_sl (Below.ofDrew hb1) C1.out)) ?_
      refine MDerT.step (Ob.appNilV Wanted.free Try.underlying28 (Has.new 3 0) (fun w1 hb1 => K1.out.mono (Below.ofDrew hb1)) (L2.out)) ?_
      refine MDerT.step (Ob.fieldV Wanted.free Has.oldIs (fun w1 => field_vis2)) ?_
      refine MDerT.step (Ob.loadV Wanted.free (Has.new 5 0) (fun w1 hb1 => load_dot (Below.ofDrew hb1) VA.out.c2 VA.out.c3)) ?_
      refine MDerT.step (Ob.mkDots128 Wanted.free (Has.new 6 0)) ?_
      intro wE hE
      change EndM _ [some 37, some 38, some 39, some 40, some 41, some 42, some 43, some 44] _ _ _
      simp only [EndM, List.reverse_cons, List.reverse_nil, List.nil_append, List.cons_append]
      iterate 4 (rintro _ rfl)
      rintro _ r5
      iterate 2 (rintro _ rfl)
      rintro _ ⟨A8, n8, c8, rfl, d8⟩
      simp only [Act.put, List.setIfInBounds_toArray, List.set_cons_zero, List.set_cons_succ]
      replace hE := Below.ofDrew hE
      have hsz := hE.size
      refine wpList_app (B := W2.heap.size) rfl rfl Try.underlying28 rfl rfl r5 d8 (by have := L3.out; simp; omega) hsz ?_
      intro v' w' hr' hg'
      have b6 : Below W2.heap.size W2 w' := hE.grown hg' hsz (fun q hq => Row.own _ r5 q hq)
      obtain ⟨A9, n9, c9, rfl, d9⟩ := IsRow.dots hr'
      change wpList _ _ _ _ (Act.put _ (some 45) (.slice A9 n9 c9)) w'
      simp only [Act.put, List.setIfInBounds_toArray, List.set_cons_zero, List.set_cons_succ]
      have x1 := cellKeep b6 C1.out
      have fz1 : w'.frozen? ⟨M, 1, none⟩ = false := (b6.frozen (p := ⟨M, 1, none⟩) MM.out.size).trans (FZ.out 1)
      have HHW := Lib.hid (HH.out.le b6)
      have C09 := Lib.hid (cellKeep b6 C0.out); have X1 := Lib.hid x1; have K09 := Lib.hid (K0.out.mono b6); have NI9 := Lib.hid (NI.out.mono b6 MM.out.size); have D9 := Lib.hid d9
      have FZ9 := Lib.hid (show ∀ o, w'.frozen? ⟨M, o, none⟩ = false from fun o => (b6.frozen (p := ⟨M, o, none⟩) MM.out.size).trans (FZ.out o))
      clear hr' hg' r5 d8 hE hsz b6 d9
      refine wpList_nilc (d := 46) (p := ⟨M, 0, none⟩) rfl rfl rfl rfl ?_
      simp only [Act.put, List.setIfInBounds_toArray, List.set_cons_zero, List.set_cons_succ]
      refine wpList_field (d := 47) (r := .pointer (some ⟨M, 1, none⟩)) rfl rfl rfl rfl field_mod1 ?_
      simp only [Act.put, List.setIfInBounds_toArray, List.set_cons_zero, List.set_cons_succ]
      refine wpList_store (p := .pointer (some ⟨M, 1, none⟩)) (v := .slice A9 n9 c9) (w' := w'.setCell ⟨M, 1, none⟩ (.slice A9 n9 c9)) rfl rfl rfl rfl rfl (by simp [go_sem, x1, fz1]) ?_
      refine wpList_nil ?_
      generalize HHW2 : w'.setCell ⟨M, 1, none⟩ (.slice A9 n9 c9) = wS
      have HS := Lib.hid HHW2
      clear HHW2 x1 fz1
      go_wp2
      go_ret
      rw [← HS.out]
      refine ⟨by simp [brokM, *], HHW.out.set_ 1 _, ?_⟩
      exact ⟨A1, n1, ca1, A9, n9, c9, cell_far (by simp) C09.out, cell_set X1.out, K09.out.setO (K09.out.noInt NI9.out) _, D9.out.setO (D9.out.noInt NI9.out) _, fun o => (World.frozen?_setCell _ _ _ _).trans (FZ9.out o), NoInt.set_ X1.out NI9.out⟩
    · skip
      go_wp2_with fail
      refine wp_region_any mixed ?_
      refine take_pure (i := 0) rfl rfl (by kernel_rfl) (fun _ _ _ h => h) (v := .pointer (some ⟨M, 0, none⟩)) (fun w => by simp [execOp, Act.eval]) ?_
      simp only [Act.put, List.setIfInBounds_toArray, List.set_cons_zero, List.set_cons_succ]
      refine wp_left [1, 2, 3, 4, 5, 6, 7, 8, 9, 10, 11, 12] 8 (by kernel_rfl) (by kernel_rfl) (by kernel_rfl) (by kernel_rfl) ?_
      refine MDerT.step (Ob.move Wanted.free Has.oldIs) ?_
      refine MDerT.step (Ob.nilV Wanted.free (Has.new 0 0)) ?_
      refine MDerT.step (Ob.fieldV Wanted.free (Has.new 1 0) (fun w1 => field_mod1)) ?_
      refine MDerT.step (Ob.loadV Wanted.free (Has.new 2 0) (fun w1 hb1 => load_sl (Below.ofDrew hb1) C1.out)) ?_
      refine MDerT.step (Ob.appNilV Wanted.free Try.underlying28 (Has.new 3 0) (fun w1 hb1 => K1.out.mono (Below.ofDrew hb1)) (L2.out)) ?_
      refine MDerT.step (Ob.fieldV Wanted.free Has.oldIs (fun w1 => field_vis2)) ?_
      refine MDerT.step (Ob.loadV Wanted.free (Has.new 5 0) (fun w1 hb1 => load_dot (Below.ofDrew hb1) VA.out.c2 VA.out.c3)) ?_
      refine MDerT.step (Ob.mkDots128 Wanted.free (Has.new 6 0)) ?_
      intro wE hE
      change EndM _ [some 37, some 38, some 39, some 40, some 41, some 42, some 43, some 44] _ _ _
      simp only [EndM, List.reverse_cons, List.reverse_nil, List.nil_append, List.cons_append]
      iterate 4 (rintro _ rfl)
      rintro _ r5
      iterate 2 (rintro _ rfl)
      rintro _ ⟨A8, n8, c8, rfl, d8⟩
      simp only [Act.put, List.setIfInBounds_toArray, List.set_cons_zero, List.set_cons_succ]
      replace hE := Below.ofDrew hE
      have hsz := hE.size
      refine wpList_app (B := W2.heap.size) rfl rfl Try.underlying28 rfl rfl r5 d8 (by have := L3.out; simp; omega) hsz ?_
      intro v' w' hr' hg'
      have b6 : Below W2.heap.size W2 w' := hE.grown hg' hsz (fun q hq => Row.own _ r5 q hq)
      obtain ⟨A9, n9, c9, rfl, d9⟩ := IsRow.dots hr'
      change wpList _ _ _ _ (Act.put _ (some 45) (.slice A9 n9 c9)) w'
      simp only [Act.put, List.setIfInBounds_toArray, List.set_cons_zero, List.set_cons_succ]
      have x1 := cellKeep b6 C1.out
      have fz1 : w'.frozen? ⟨M, 1, none⟩ = false := (b6.frozen (p := ⟨M, 1, none⟩) MM.out.size).trans (FZ.out 1)
      have HHW := Lib.hid (HH.out.le b6)
      have C09 := Lib.hid (cellKeep b6 C0.out); have X1 := Lib.hid x1; have K09 := Lib.hid (K0.out.mono b6); have NI9 := Lib.hid (NI.out.mono b6 MM.out.size); have D9 := Lib.hid d9
      have FZ9 := Lib.hid (show ∀ o, w'.frozen? ⟨M, o, none⟩ = false from fun o => (b6.frozen (p := ⟨M, o, none⟩) MM.out.size).trans (FZ.out o))
      clear hr' hg' r5 d8 hE hsz b6 d9
      refine wpList_nilc (d := 46) (p := ⟨M, 0, none⟩) rfl rfl rfl rfl ?_
      simp only [Act.put, List.setIfInBounds_toArray, List.set_cons_zero, List.set_cons_succ]
      refine wpList_field (d := 47) (r := .pointer (some ⟨M, 1, none⟩)) rfl rfl rfl rfl field_mod1 ?_
      simp only [Act.put, List.setIfInBounds_toArray, List.set_cons_zero, List.set_cons_succ]
      refine wpList_store (p := .pointer (some ⟨M, 1, none⟩)) (v := .slice A9 n9 c9) (w' := w'.setCell ⟨M, 1, none⟩ (.slice A9 n9 c9)) rfl rfl rfl rfl rfl (by simp [go_sem, x1, fz1]) ?_
      refine wpList_nil ?_
      generalize HHW2 : w'.setCell ⟨M, 1, none⟩ (.slice A9 n9 c9) = wS
      have HS := Lib.hid HHW2
      clear HHW2 x1 fz1
      go_wp2
      go_ret
      rw [← HS.out]
      refine ⟨by simp [brokM, *], HHW.out.set_ 1 _, ?_⟩
      exact ⟨A1, n1, ca1, A9, n9, c9, cell_far (by simp) C09.out, cell_set X1.out, K09.out.setO (K09.out.noInt NI9.out) _, D9.out.setO (D9.out.noInt NI9.out) _, fun o => (World.frozen?_setCell _ _ _ _).trans (FZ9.out o), NoInt.set_ X1.out NI9.out⟩
  | false =>
    have y1 := VA.out.c1
    go_wp2_with fail
    clear y1
    refine wp_region_M mixed (by kernel_rfl) ?_
    refine MDerR.step (Ob.move Wanted.free Has.oldIs) ?_
    refine MDerR.step (Ob.nilV Wanted.free (Has.new 0 0)) ?_
    refine MDerR.step (Ob.fieldV Wanted.free (Has.new 1 0) (fun w1 => field_mod0)) ?_
    refine MDerR.step (Ob.loadV Wanted.free (Has.new 2 0) (fun w1 hb1 => load_sl hb1 C0.out)) ?_
    refine MDerR.step (Ob.fieldV Wanted.free Has.oldIs (fun w1 => field_vis3)) ?_
    refine MDerR.step (Ob.load (F := IsCon x) Wanted.free (Has.new 4 0) (fun w1 v hb1 hv => VA.out.loadX hb1 hv)) ?_
    refine MDerR.step (Ob.call2 Wanted.free entWithinL (Has.new 3 2) (Has.new 5 0) (fun w1 u v hb1 (hu : Is (.slice A1 n1 ca1) w1 u) (hv : IsCon x w1 v) => withinL hu K0.out hb1 hv b2 H2.out)) ?_
    refine MDerR.step (Ob.not Wanted.free (Has.new 6 0)) ?_
    simp only [MDerR, dstsOf, List.map, EndM, List.reverse_cons, List.reverse_nil, List.nil_append, List.cons_append]
    intro wE hE
    iterate 5 (rintro _ rfl)
    rintro _ _h5
    iterate 2 (rintro _ rfl)
    simp only [Act.put, List.setIfInBounds_toArray, List.set_cons_zero, List.set_cons_succ]
    have MM2 := Lib.hid (MM.out.mono hE); have HH2 := Lib.hid (HH.out.le hE); have VA2 := Lib.hid (VA.out.mono hE)
    clear hE _h5 C0 C1 K0 K1 FZ NI MM HH VA
    have MM := MM2; have HH := HH2; have VA := VA2
    clear MM2 HH2 VA2
    generalize wE = W2 at *
    obtain ⟨A1, n1, ca1, B1, m1, cb1, c0, c1, k0, k1, fz, ni⟩ := MM.out
    have C0 := Lib.hid c0; have C1 := Lib.hid c1; have K0 := Lib.hid k0; have K1 := Lib.hid k1; have FZ := Lib.hid fz; have NI := Lib.hid ni
    clear c0 c1 k0 k1 fz ni
    have y1 := VA.out.c1
    have H2' := H2.out
    cases b2
    · skip
      go_wp2_with fail
      refine wp_region_any mixed ?_
      refine take_pure (i := 0) rfl rfl (by kernel_rfl) (fun _ _ _ h => h) (v := .pointer (some ⟨M, 0, none⟩)) (fun w => by simp [execOp, Act.eval]) ?_
      simp only [Act.put, List.setIfInBounds_toArray, List.set_cons_zero, List.set_cons_succ]
      refine wp_left [1, 2, 3, 4, 5, 6, 7, 8, 9, 10, 11, 12] 8 (by kernel_rfl) (by kernel_rfl) (by kernel_rfl) (by kernel_rfl) ?_
      refine MDerT.step (Ob.move Wanted.free Has.oldIs) ?_
      refine MDerT.step (Ob.nilV Wanted.free (Has.new 0 0)) ?_
      refine MDerT.step (Ob.fieldV Wanted.free (Has.new 1 0) (fun w1 => field_mod1)) ?_
      refine MDerT.step (Ob.loadV Wanted.free (Has.new 2 0) (fun w1 hb1 => load_sl (Below.ofDrew hb1) C1.out)) ?_
      refine MDerT.step (Ob.appNilV Wanted.free Try.underlying28 (Has.new 3 0) (fun w1 hb1 => K1.out.mono (Below.ofDrew hb1)) (L2.out)) ?_
      refine MDerT.step (Ob.fieldV Wanted.free Has.oldIs (fun w1 => field_vis2)) ?_
      refine MDerT.step (Ob.loadV Wanted.free (Has.new 5 0) (fun w1 hb1 => load_dot (Below.ofDrew hb1) VA.out.c2 VA.out.c3)) ?_
      refine MDerT.step (Ob.mkDots128 Wanted.free (Has.new 6 0)) ?_
      intro wE hE
      change EndM _ [some 37, some 38, some 39, some 40, some 41, some 42, some 43, some 44] _ _ _
      simp only [EndM, List.reverse_cons, List.reverse_nil, List.nil_append, List.cons_append]
      iterate 4 (rintro _ rfl)
      rintro _ r5
      iterate 2 (rintro _ rfl)
      rintro _ ⟨A8, n8, c8, rfl, d8⟩
      simp only [Act.put, List.setIfInBounds_toArray, List.set_cons_zero, List.set_cons_succ]
      replace hE := Below.ofDrew hE
      have hsz := hE.size
      refine wpList_app (B := W2.heap.size) rfl rfl Try.underlying28 rfl rfl r5 d8 (by have := L3.out; simp; omega) hsz ?_
      intro v' w' hr' hg'
      have b6 : Below W2.heap.size W2 w' := hE.grown hg' hsz (fun q hq => Row.own _ r5 q hq)
      obtain ⟨A9, n9, c9, rfl, d9⟩ := IsRow.dots hr'
      change wpList _ _ _ _ (Act.put _ (some 45) (.slice A9 n9 c9)) w'
      simp only [Act.put, List.setIfInBounds_toArray, List.set_cons_zero, List.set_cons_succ]
      have x1 := cellKeep b6 C1.out
      have fz1 : w'.frozen? ⟨M, 1, none⟩ = false := (b6.frozen (p := ⟨M, 1, none⟩) MM.out.size).trans (FZ.out 1)
      have HHW := Lib.hid (HH.out.le b6)
      have C09 := Lib.hid (cellKeep b6 C0.out); have X1 := Lib.hid x1; have K09 := Lib.hid (K0.out.mono b6); have NI9 := Lib.hid (NI.out.mono b6 MM.out.size); have D9 := Lib.hid d9
      have FZ9 := Lib.hid (show ∀ o, w'.frozen? ⟨M, o, none⟩ = false from fun o => (b6.frozen (p := ⟨M, o, none⟩) MM.out.size).trans (FZ.out o))
      clear hr' hg' r5 d8 hE hsz b6 d9
      refine wpList_nilc (d := 46) (p := ⟨M, 0, none⟩) rfl rfl rfl rfl ?_
      simp only [Act.put, List.setIfInBounds_toArray, List.set_cons_zero, List.set_cons_succ]
      refine wpList_field (d := 47) (r := .pointer (some ⟨M, 1, none⟩)) rfl rfl rfl rfl field_mod1 ?_
      simp only [Act.put, List.setIfInBounds_toArray, List.set_cons_zero, List.set_cons_succ]
      refine wpList_store (p := .pointer (some ⟨M, 1, none⟩)) (v := .slice A9 n9 c9) (w' := w'.setCell ⟨M, 1, none⟩ (.slice A9 n9 c9)) rfl rfl rfl rfl rfl (by simp [go_sem, x1, fz1]) ?_
      refine wpList_nil ?_
      generalize HHW2 : w'.setCell ⟨M, 1, none⟩ (.slice A9 n9 c9) = wS
      have HS := Lib.hid HHW2
      clear HHW2 x1 fz1
      go_wp2
      go_ret
      rw [← HS.out]
      refine ⟨by simp [brokM, *], HHW.out.set_ 1 _, ?_⟩
      exact ⟨A1, n1, ca1, A9, n9, c9, cell_far (by simp) C09.out, cell_set X1.out, K09.out.setO (K09.out.noInt NI9.out) _, D9.out.setO (D9.out.noInt NI9.out) _, fun o => (World.frozen?_setCell _ _ _ _).trans (FZ9.out o), NoInt.set_ X1.out NI9.out⟩
    · skip
      go_wp2_with fail
      refine wp_region_any mixed ?_
      refine take_pure (i := 0) rfl rfl (by kernel_rfl) (fun _ _ _ h => h) (v := .pointer (some ⟨M, 0, none⟩)) (fun w => by simp [execOp, Act.eval]) ?_
      simp only [Act.put, List.setIfInBounds_toArray, List.set_cons_zero, List.set_cons_succ]
      refine wp_left [1, 2, 3, 4, 5, 6, 7, 8, 9, 10, 11, 12] 8 (by kernel_rfl) (by kernel_rfl) (by kernel_rfl) (by kernel_rfl) ?_
      refine MDerT.step (Ob.move Wanted.free Has.oldIs) ?_
      refine MDerT.step (Ob.nilV Wanted.free (Has.new 0 0)) ?_
      refine MDerT.step (Ob.fieldV Wanted.free (Has.new 1 0) (fun w1 => field_mod1)) ?_
      refine MDerT.step (Ob.loadV Wanted.free (Has.new 2 0) (fun w1 hb1 => load_sl (Below.ofDrew hb1) C1.out)) ?_
      refine MDerT.step (Ob.appNilV Wanted.free Try.underlying28 (Has.new 3 0) (fun w1 hb1 => K1.out.mono (Below.ofDrew hb1)) (L2.out)) ?_
      refine MDerT.step (Ob.fieldV Wanted.free Has.oldIs (fun w1 => field_vis2)) ?_
      refine MDerT.step (Ob.loadV Wanted.free (Has.new 5 0) (fun w1 hb1 => load_dot (Below.ofDrew hb1) VA.out.c2 VA.out.c3)) ?_
      refine MDerT.step (Ob.mkDots128 Wanted.free (Has.new 6 0)) ?_
      intro wE hE
      change EndM _ [some 37, some 38, some 39, some 40, some 41, some 42, some 43, some 44] _ _ _
      simp only [EndM, List.reverse_cons, List.reverse_nil, List.nil_append, List.cons_append]
      iterate 4 (rintro _ rfl)
      rintro _ r5
      iterate 2 (rintro _ rfl)
      rintro _ ⟨A8, n8, c8, rfl, d8⟩
      simp only [Act.put, List.setIfInBounds_toArray, List.set_cons_zero, List.set_cons_succ]
      replace hE := Below.ofDrew hE
      have hsz := hE.size
      refine wpList_app (B := W2.heap.size) rfl rfl Try.underlying28 rfl rfl r5 d8 (by have := L3.out; simp; omega) hsz ?_
      intro v' w' hr' hg'
      have b6 : Below W2.heap.size W2 w' := hE.grown hg' hsz (fun q hq => Row.own _ r5 q hq)
      obtain ⟨A9, n9, c9, rfl, d9⟩ := IsRow.dots hr'
      change wpList _ _ _ _ (Act.put _ (some 45) (.slice A9 n9 c9)) w'
      simp only [Act.put, List.setIfInBounds_toArray, List.set_cons_zero, List.set_cons_succ]
      have x1 := cellKeep b6 C1.out
      have fz1 : w'.frozen? ⟨M, 1, none⟩ = false := (b6.frozen (p := ⟨M, 1, none⟩) MM.out.size).trans (FZ.out 1)
      have HHW := Lib.hid (HH.out.le b6)
      have C09 := Lib.hid (cellKeep b6 C0.out); have X1 := Lib.hid x1; have K09 := Lib.hid (K0.out.mono b6); have NI9 := Lib.hid (NI.out.mono b6 MM.out.size); have D9 := Lib.hid d9
      have FZ9 := Lib.hid (show ∀ o, w'.frozen? ⟨M, o, none⟩ = false from fun o => (b6.frozen (p := ⟨M, o, none⟩) MM.out.size).trans (FZ.out o))
      clear hr' hg' r5 d8 hE hsz b6 d9
      refine wpList_nilc (d := 46) (p := ⟨M, 0, none⟩) rfl rfl rfl rfl ?_
      simp only [Act.put, List.setIfInBounds_toArray, List.set_cons_zero, List.set_cons_succ]
      refine wpList_field (d := 47) (r := .pointer (some ⟨M, 1, none⟩)) rfl rfl rfl rfl field_mod1 ?_
      simp only [Act.put, List.setIfInBounds_toArray, List.set_cons_zero, List.set_cons_succ]
      refine wpList_store (p := .pointer (some ⟨M, 1, none⟩)) (v := .slice A9 n9 c9) (w' := w'.setCell ⟨M, 1, none⟩ (.slice A9 n9 c9)) rfl rfl rfl rfl rfl (by simp [go_sem, x1, fz1]) ?_
      refine wpList_nil ?_
      generalize HHW2 : w'.setCell ⟨M, 1, none⟩ (.slice A9 n9 c9) = wS
      have HS := Lib.hid HHW2
      clear HHW2 x1 fz1
      go_wp2
      go_ret
      rw [← HS.out]
      refine ⟨by simp [brokM, *], HHW.out.set_ 1 _, ?_⟩
      exact ⟨A1, n1, ca1, A9, n9, c9, cell_far (by simp) C09.out, cell_set X1.out, K09.out.setO (K09.out.noInt NI9.out) _, D9.out.setO (D9.out.noInt NI9.out) _, fun o => (World.frozen?_setCell _ _ _ _).trans (FZ9.out o), NoInt.set_ X1.out NI9.out⟩
set_option maxRecDepth 100000 in
set_option maxHeartbeats 8000000 in
theorem visit_false (M : Nat) (A B : Option Addr) (n ca k cb : Nat) (m : Mo) (cl p q : Int) (x : Ctx) (w : World) (hm : ModAt M m w) (hc : Con w A n ca B k cb x) (sx : smallB x = true) (l1 : m.1.length ≤ 100000) (l2 : m.2.length ≤ 100000) :
    Calls Try.prog 12 #[.pointer (some ⟨M, 0, none⟩), visV ⟨cl, false, (p, q), x⟩ A n ca B k cb] w (VPost M (stepM m ⟨cl, false, (p, q), x⟩) w (brokM m ⟨cl, false, (p, q), x⟩)) := by
  obtain ⟨W, hWdef⟩ : ∃ W, W = w.alloc (visBox ⟨cl, false, (p, q), x⟩ A n ca B k cb) := ⟨_, rfl⟩
  have hb0 : Below w.heap.size w W := by rw [hWdef]; go_grown
  have va : VisAt w.heap.size 0 A n ca B k cb ⟨cl, false, (p, q), x⟩ W := by rw [hWdef]; exact VisAt.new hc
  have MM := Lib.hid (hm.mono hb0); have VA := Lib.hid va; have HH := Lib.hid (Hole.of (N := M) hb0); have DEF := Lib.hid hWdef; have SX := Lib.hid sx
  have L1 := Lib.hid (show m.1.length ≤ 1000000000 by omega); have L2 := Lib.hid (show m.2.length ≤ 1000000000 by omega); have L3 := Lib.hid l2; have L4 := Lib.hid l1
  obtain ⟨b1, h1⟩ : ∃ b1, m.2.all (hasC x) = b1 := ⟨_, rfl⟩
  obtain ⟨b2, h2⟩ : ∃ b2, m.1.all (hasC x) = b2 := ⟨_, rfl⟩
  have H1 := Lib.hid h1; have H2 := Lib.hid h2
  clear hb0 va hWdef hm hc sx l1 l2 h1 h2
  obtain ⟨A1, n1, ca1, B1, m1, cb1, c0, c1, k0, k1, fz, ni⟩ := MM.out
  have C0 := Lib.hid c0; have C1 := Lib.hid c1; have K0 := Lib.hid k0; have K1 := Lib.hid k1; have FZ := Lib.hid fz; have NI := Lib.hid ni
  clear c0 c1 k0 k1 fz ni
  go_enter Try.func12, Try.ntmps12
  go_wp2_with fail
  rw [← DEF.out]
  refine wp_region_M mixed (by kernel_rfl) ?_
  refine MDerR.step (Ob.move Wanted.free Has.oldIs) ?_
  refine MDerR.step (Ob.nilV Wanted.free (Has.new 0 0)) ?_
  refine MDerR.step (Ob.fieldV Wanted.free (Has.new 1 0) (fun w1 => field_mod1)) ?_
  refine MDerR.step (Ob.loadV Wanted.free (Has.new 2 0) (fun w1 hb1 => load_sl hb1 C1.out)) ?_
  refine MDerR.step (Ob.fieldV Wanted.free Has.oldIs (fun w1 => field_vis3)) ?_
  refine MDerR.step (Ob.load (F := IsCon x) Wanted.free (Has.new 4 0) (fun w1 v hb1 hv => VA.out.loadX hb1 hv)) ?_
  refine MDerR.step (Ob.call2 Wanted.free entWithinL (Has.new 3 2) (Has.new 5 0) (fun w1 u v hb1 (hu : Is (.slice B1 m1 cb1) w1 u) (hv : IsCon x w1 v) => withinL hu K1.out hb1 hv b1 H1.out)) ?_
  refine MDerR.step (Ob.not Wanted.free (Has.new 6 0)) ?_
  simp only [MDerR, dstsOf, List.map, EndM, List.reverse_cons, List.reverse_nil, List.nil_append, List.cons_append]
  intro wE hE
  iterate 5 (rintro _ rfl)
  rintro _ _h5
  iterate 2 (rintro _ rfl)
  simp only [Act.put, List.setIfInBounds_toArray, List.set_cons_zero, List.set_cons_succ]
  have MM2 := Lib.hid (MM.out.mono hE); have HH2 := Lib.hid (HH.out.le hE); have VA2 := Lib.hid (VA.out.mono hE)
  clear hE _h5 C0 C1 K0 K1 FZ NI MM HH VA DEF
  have MM := MM2; have HH := HH2; have VA := VA2
  clear MM2 HH2 VA2
  generalize wE = W1 at *
  obtain ⟨A1, n1, ca1, B1, m1, cb1, c0, c1, k0, k1, fz, ni⟩ := MM.out
  have C0 := Lib.hid c0; have C1 := Lib.hid c1; have K0 := Lib.hid k0; have K1 := Lib.hid k1; have FZ := Lib.hid fz; have NI := Lib.hid ni
  clear c0 c1 k0 k1 fz ni
  have H1' := H1.out
  cases b1 with
  | true =>
    have y1 := VA.out.c1
    go_wp2_with fail
    clear y1
    refine wp_region_M mixed (by kernel_rfl) ?_
    refine MDerR.step (Ob.move Wanted.free Has.oldIs) ?_
    refine MDerR.step (Ob.nilV Wanted.free (Has.new 0 0)) ?_
    refine MDerR.step (Ob.fieldV Wanted.free (Has.new 1 0) (fun w1 => field_mod0)) ?_
    refine MDerR.step (Ob.loadV Wanted.free (Has.new 2 0) (fun w1 hb1 => load_sl hb1 C0.out)) ?_
    refine MDerR.step (Ob.fieldV Wanted.free Has.oldIs (fun w1 => field_vis3)) ?_
    refine MDerR.step (Ob.load (F := IsCon x) Wanted.free (Has.new 4 0) (fun w1 v hb1 hv => VA.out.loadX hb1 hv)) ?_
    refine MDerR.step (Ob.call2 Wanted.free entWithinL (Has.new 3 2) (Has.new 5 0) (fun w1 u v hb1 (hu : Is (.slice A1 n1 ca1) w1 u) (hv : IsCon x w1 v) => withinL hu K0.out hb1 hv b2 H2.out)) ?_
    refine MDerR.step (Ob.not Wanted.free (Has.new 6 0)) ?_
    simp only [MDerR, dstsOf, List.map, EndM, List.reverse_cons, List.reverse_nil, List.nil_append, List.cons_append]
    intro wE hE
    iterate 5 (rintro _ rfl)
    rintro _ _h5
    iterate 2 (rintro _ rfl)
    simp only [Act.put, List.setIfInBounds_toArray, List.set_cons_zero, List.set_cons_succ]
    have MM2 := Lib.hid (MM.out.mono hE); have HH2 := Lib.hid (HH.out.le hE); have VA2 := Lib.hid (VA.out.mono hE)
    clear hE _h5 C0 C1 K0 K1 FZ NI MM HH VA
    have MM := MM2; have HH := HH2; have VA := VA2
    clear MM2 HH2 VA2
    generalize wE = W2 at *
    obtain ⟨A1, n1, ca1, B1, m1, cb1, c0, c1, k0, k1, fz, ni⟩ := MM.out
    have C0 := Lib.hid c0; have C1 := Lib.hid c1; have K0 := Lib.hid k0; have K1 := Lib.hid k1; have FZ := Lib.hid fz; have NI := Lib.hid ni
    clear c0 c1 k0 k1 fz ni
    have y1 := VA.out.c1
    have H2' := H2.out
    cases b2
    · skip
      go_wp2_with fail
      refine wp_region_any mixed ?_
      refine take_pure (i := 0) rfl rfl (by kernel_rfl) (fun _ _ _ h => h) (v := .pointer (some ⟨M, 0, none⟩)) (fun w => by simp [execOp, Act.eval]) ?_
      simp only [Act.put, List.setIfInBounds_toArray, List.set_cons_zero, List.set_cons_succ]
      refine wp_left [1, 2, 3, 4, 5, 6, 7, 8, 9, 10, 11, 12] 8 (by kernel_rfl) (by kernel_rfl) (by kernel_rfl) (by kernel_rfl) ?_
      refine MDerT.step (Ob.move Wanted.free Has.oldIs) ?_
      refine MDerT.step (Ob.nilV Wanted.free (Has.new 0 0)) ?_
      refine MDerT.step (Ob.fieldV Wanted.free (Has.new 1 0) (fun w1 => field_mod0)) ?_
      refine MDerT.step (Ob.loadV Wanted.free (Has.new 2 0) (fun w1 hb1 => load_sl (Below.ofDrew hb1) C0.out)) ?_
      refine MDerT.step (Ob.appNilV Wanted.free Try.underlying28 (Has.new 3 0) (fun w1 hb1 => K0.out.mono (Below.ofDrew hb1)) (L1.out)) ?_
      refine MDerT.step (Ob.fieldV Wanted.free Has.oldIs (fun w1 => field_vis3)) ?_
      refine MDerT.step (Ob.load (F := IsCon x) Wanted.free (Has.new 5 0) (fun w1 v hb1 hv => VA.out.loadX (Below.ofDrew hb1) hv)) ?_
      refine MDerT.step (Ob.call1 Wanted.free entDots (Has.new 6 0) (fun w1 u hb1 (hu : IsCon x w1 u) => dotsI (B := W2.heap.size) (Below.ofDrew hb1).size hu SX.out)) ?_
      intro wE hE
      change EndM _ [some 49, some 50, some 51, some 52, some 53, some 54, some 55, some 56] _ _ _
      simp only [EndM, List.reverse_cons, List.reverse_nil, List.nil_append, List.cons_append]
      iterate 4 (rintro _ rfl)
      rintro _ r5
      iterate 1 (rintro _ rfl)
      rintro _ _h7
      rintro _ r8
      simp only [Act.put, List.setIfInBounds_toArray, List.set_cons_zero, List.set_cons_succ]
      replace hE := Below.ofDrew hE
      have hsz := hE.size
      obtain ⟨A8, n8, c8, rfl, d8⟩ := IsRow.dots r8
      refine wpList_app (B := W2.heap.size) rfl rfl Try.underlying28 rfl rfl r5 d8 (by have := L4.out; have := dotsS_len SX.out; omega) hsz ?_
      intro v' w' hr' hg'
      have b6 : Below W2.heap.size W2 w' := hE.grown hg' hsz (fun q hq => Row.own _ r5 q hq)
      obtain ⟨A9, n9, c9, rfl, d9⟩ := IsRow.dots hr'
      change wpList _ _ _ _ (Act.put _ (some 57) (.slice A9 n9 c9)) w'
      simp only [Act.put, List.setIfInBounds_toArray, List.set_cons_zero, List.set_cons_succ]
      have x1 := cellKeep b6 C0.out
      have fz1 : w'.frozen? ⟨M, 0, none⟩ = false := (b6.frozen (p := ⟨M, 0, none⟩) MM.out.size).trans (FZ.out 0)
      have HHW := Lib.hid (HH.out.le b6)
      have C19 := Lib.hid (cellKeep b6 C1.out); have X1 := Lib.hid x1; have K19 := Lib.hid (K1.out.mono b6); have NI9 := Lib.hid (NI.out.mono b6 MM.out.size); have D9 := Lib.hid d9
      have FZ9 := Lib.hid (show ∀ o, w'.frozen? ⟨M, o, none⟩ = false from fun o => (b6.frozen (p := ⟨M, o, none⟩) MM.out.size).trans (FZ.out o))
      clear hr' hg' r5 d8 r8 hE hsz b6 d9 _h7
      refine wpList_nilc (d := 58) (p := ⟨M, 0, none⟩) rfl rfl rfl rfl ?_
      simp only [Act.put, List.setIfInBounds_toArray, List.set_cons_zero, List.set_cons_succ]
      refine wpList_field (d := 59) (r := .pointer (some ⟨M, 0, none⟩)) rfl rfl rfl rfl field_mod0 ?_
      simp only [Act.put, List.setIfInBounds_toArray, List.set_cons_zero, List.set_cons_succ]
      refine wpList_store (p := .pointer (some ⟨M, 0, none⟩)) (v := .slice A9 n9 c9) (w' := w'.setCell ⟨M, 0, none⟩ (.slice A9 n9 c9)) rfl rfl rfl rfl rfl (by simp [go_sem, x1, fz1]) ?_
      refine wpList_nil ?_
      generalize HHW2 : w'.setCell ⟨M, 0, none⟩ (.slice A9 n9 c9) = wS
      have HS := Lib.hid HHW2
      clear HHW2 x1 fz1
      go_wp2
      go_ret
      rw [← HS.out]
      refine ⟨by simp [brokM, *], HHW.out.set_ 0 _, ?_⟩
      exact ⟨A9, n9, c9, B1, m1, cb1, cell_set X1.out, cell_far (by simp) C19.out, D9.out.setO (D9.out.noInt NI9.out) _, K19.out.setO (K19.out.noInt NI9.out) _, fun o => (World.frozen?_setCell _ _ _ _).trans (FZ9.out o), NoInt.set_ X1.out NI9.out⟩
    · skip
      go_wp2_with fail
      refine wp_region_any mixed ?_
      refine take_pure (i := 0) rfl rfl (by kernel_rfl) (fun _ _ _ h => h) (v := .pointer (some ⟨M, 0, none⟩)) (fun w => by simp [execOp, Act.eval]) ?_
      simp only [Act.put, List.setIfInBounds_toArray, List.set_cons_zero, List.set_cons_succ]
      refine wp_left [1, 2, 3, 4, 5, 6, 7, 8, 9, 10, 11, 12] 8 (by kernel_rfl) (by kernel_rfl) (by kernel_rfl) (by kernel_rfl) ?_
      refine MDerT.step (Ob.move Wanted.free Has.oldIs) ?_
      refine MDerT.step (Ob.nilV Wanted.free (Has.new 0 0)) ?_
      refine MDerT.step (Ob.fieldV Wanted.free (Has.new 1 0) (fun w1 => field_mod0)) ?_
      refine MDerT.step (Ob.loadV Wanted.free (Has.new 2 0) (fun w1 hb1 => load_sl (Below.ofDrew hb1) C0.out)) ?_
      refine MDerT.step (Ob.appNilV Wanted.free Try.underlying28 (Has.new 3 0) (fun w1 hb1 => K0.out.mono (Below.ofDrew hb1)) (L1.out)) ?_
      refine MDerT.step (Ob.fieldV Wanted.free Has.oldIs (fun w1 => field_vis3)) ?_
      refine MDerT.step (Ob.load (F := IsCon x) Wanted.free (Has.new 5 0) (fun w1 v hb1 hv => VA.out.loadX (Below.ofDrew hb1) hv)) ?_
      refine MDerT.step (Ob.call1 Wanted.free entDots (Has.new 6 0) (fun w1 u hb1 (hu : IsCon x w1 u) => dotsI (B := W2.heap.size) (Below.ofDrew hb1).size hu SX.out)) ?_
      intro wE hE
      change EndM _ [some 49, some 50, some 51, some 52, some 53, some 54, some 55, some 56] _ _ _
      simp only [EndM, List.reverse_cons, List.reverse_nil, List.nil_append, List.cons_append]
      iterate 4 (rintro _ rfl)
      rintro _ r5
      iterate 1 (rintro _ rfl)
      rintro _ _h7
      rintro _ r8
      simp only [Act.put, List.setIfInBounds_toArray, List.set_cons_zero, List.set_cons_succ]
      replace hE := Below.ofDrew hE
      have hsz := hE.size
      obtain ⟨A8, n8, c8, rfl, d8⟩ := IsRow.dots r8
      refine wpList_app (B := W2.heap.size) rfl rfl Try.underlying28 rfl rfl r5 d8 (by have := L4.out; have := dotsS_len SX.out; omega) hsz ?_
      intro v' w' hr' hg'
      have b6 : Below W2.heap.size W2 w' := hE.grown hg' hsz (fun q hq => Row.own _ r5 q hq)
      obtain ⟨A9, n9, c9, rfl, d9⟩ := IsRow.dots hr'
      change wpList _ _ _ _ (Act.put _ (some 57) (.slice A9 n9 c9)) w'
      simp only [Act.put, List.setIfInBounds_toArray, List.set_cons_zero, List.set_cons_succ]
      have x1 := cellKeep b6 C0.out
      have fz1 : w'.frozen? ⟨M, 0, none⟩ = false := (b6.frozen (p := ⟨M, 0, none⟩) MM.out.size).trans (FZ.out 0)
      have HHW := Lib.hid (HH.out.le b6)
      have C19 := Lib.hid (cellKeep b6 C1.out); have X1 := Lib.hid x1; have K19 := Lib.hid (K1.out.mono b6); have NI9 := Lib.hid (NI.out.mono b6 MM.out.size); have D9 := Lib.hid d9
      have FZ9 := Lib.hid (show ∀ o, w'.frozen? ⟨M, o, none⟩ = false from fun o => (b6.frozen (p := ⟨M, o, none⟩) MM.out.size).trans (FZ.out o))
      clear hr' hg' r5 d8 r8 hE hsz b6 d9 _h7
      refine wpList_nilc (d := 58) (p := ⟨M, 0, none⟩) rfl rfl rfl rfl ?_
      simp only [Act.put, List.setIfInBounds_toArray, List.set_cons_zero, List.set_cons_succ]
      refine wpList_field (d := 59) (r := .pointer (some ⟨M, 0, none⟩)) rfl rfl rfl rfl field_mod0 ?_
      simp only [Act.put, List.setIfInBounds_toArray, List.set_cons_zero, List.set_cons_succ]
      refine wpList_store (p := .pointer (some ⟨M, 0, none⟩)) (v := .slice A9 n9 c9) (w' := w'.setCell ⟨M, 0, none⟩ (.slice A9 n9 c9)) rfl rfl rfl rfl rfl (by simp [go_sem, x1, fz1]) ?_
      refine wpList_nil ?_
      generalize HHW2 : w'.setCell ⟨M, 0, none⟩ (.slice A9 n9 c9) = wS
      have HS := Lib.hid HHW2
      clear HHW2 x1 fz1
      go_wp2
      go_ret
      rw [← HS.out]
      refine ⟨by simp [brokM, *], HHW.out.set_ 0 _, ?_⟩
      exact ⟨A9, n9, c9, B1, m1, cb1, cell_set X1.out, cell_far (by simp) C19.out, D9.out.setO (D9.out.noInt NI9.out) _, K19.out.setO (K19.out.noInt NI9.out) _, fun o => (World.frozen?_setCell _ _ _ _).trans (FZ9.out o), NoInt.set_ X1.out NI9.out⟩
  | false =>
    have y1 := VA.out.c1
    go_wp2_with fail
    clear y1
    refine wp_region_M mixed (by kernel_rfl) ?_
    refine MDerR.step (Ob.move Wanted.free Has.oldIs) ?_
    refine MDerR.step (Ob.nilV Wanted.free (Has.new 0 0)) ?_
    refine MDerR.step (Ob.fieldV Wanted.free (Has.new 1 0) (fun w1 => field_mod0)) ?_
    refine MDerR.step (Ob.loadV Wanted.free (Has.new 2 0) (fun w1 hb1 => load_sl hb1 C0.out)) ?_
    refine MDerR.step (Ob.fieldV Wanted.free Has.oldIs (fun w1 => field_vis3)) ?_
    refine MDerR.step (Ob.load (F := IsCon x) Wanted.free (Has.new 4 0) (fun w1 v hb1 hv => VA.out.loadX hb1 hv)) ?_
    refine MDerR.step (Ob.call2 Wanted.free entWithinL (Has.new 3 2) (Has.new 5 0) (fun w1 u v hb1 (hu : Is (.slice A1 n1 ca1) w1 u) (hv : IsCon x w1 v) => withinL hu K0.out hb1 hv b2 H2.out)) ?_
    refine MDerR.step (Ob.not Wanted.free (Has.new 6 0)) ?_
    simp only [MDerR, dstsOf, List.map, EndM, List.reverse_cons, List.reverse_nil, List.nil_append, List.cons_append]
    intro wE hE
    iterate 5 (rintro _ rfl)
    rintro _ _h5
    iterate 2 (rintro _ rfl)
    simp only [Act.put, List.setIfInBounds_toArray, List.set_cons_zero, List.set_cons_succ]
    have MM2 := Lib.hid (MM.out.mono hE); have HH2 := Lib.hid (HH.out.le hE); have VA2 := Lib.hid (VA.out.mono hE)
    clear hE _h5 C0 C1 K0 K1 FZ NI MM HH VA
    have MM := MM2; have HH := HH2; have VA := VA2
    clear MM2 HH2 VA2
    generalize wE = W2 at *
    obtain ⟨A1, n1, ca1, B1, m1, cb1, c0, c1, k0, k1, fz, ni⟩ := MM.out
    have C0 := Lib.hid c0; have C1 := Lib.hid c1; have K0 := Lib.hid k0; have K1 := Lib.hid k1; have FZ := Lib.hid fz; have NI := Lib.hid ni
    clear c0 c1 k0 k1 fz ni
    have y1 := VA.out.c1
    have H2' := H2.out
    cases b2
    · skip
      go_wp2_with fail
      refine wp_region_any mixed ?_
      refine take_pure (i := 0) rfl rfl (by kernel_rfl) (fun _ _ _ h => h) (v := .pointer (some ⟨M, 0, none⟩)) (fun w => by simp [execOp, Act.eval]) ?_
      simp only [Act.put, List.setIfInBounds_toArray, List.set_cons_zero, List.set_cons_succ]
      refine wp_left [1, 2, 3, 4, 5, 6, 7, 8, 9, 10, 11, 12] 8 (by kernel_rfl) (by kernel_rfl) (by kernel_rfl) (by kernel_rfl) ?_
      refine MDerT.step (Ob.move Wanted.free Has.oldIs) ?_
      refine MDerT.step (Ob.nilV Wanted.free (Has.new 0 0)) ?_
      refine MDerT.step (Ob.fieldV Wanted.free (Has.new 1 0) (fun w1 => field_mod0)) ?_
      refine MDerT.step (Ob.loadV Wanted.free (Has.new 2 0) (fun w1 hb1 => load_sl (Below.ofDrew hb1) C0.out)) ?_
      refine MDerT.step (Ob.appNilV Wanted.free Try.underlying28 (Has.new 3 0) (fun w1 hb1 => K0.out.mono (Below.ofDrew hb1)) (L1.out)) ?_
      refine MDerT.step (Ob.fieldV Wanted.free Has.oldIs (fun w1 => field_vis3)) ?_
      refine MDerT.step (Ob.load (F := IsCon x) Wanted.free (Has.new 5 0) (fun w1 v hb1 hv => VA.out.loadX (Below.ofDrew hb1) hv)) ?_
      refine MDerT.step (Ob.call1 Wanted.free entDots (Has.new 6 0) (fun w1 u hb1 (hu : IsCon x w1 u) => dotsI (B := W2.heap.size) (Below.ofDrew hb1).size hu SX.out)) ?_
      intro wE hE
      change EndM _ [some 49, some 50, some 51, some 52, some 53, some 54, some 55, some 56] _ _ _
      simp only [EndM, List.reverse_cons, List.reverse_nil, List.nil_append, List.cons_append]
      iterate 4 (rintro _ rfl)
      rintro _ r5
      iterate 1 (rintro _ rfl)
      rintro _ _h7
      rintro _ r8
      simp only [Act.put, List.setIfInBounds_toArray, List.set_cons_zero, List.set_cons_succ]
      replace hE := Below.ofDrew hE
      have hsz := hE.size
      obtain ⟨A8, n8, c8, rfl, d8⟩ := IsRow.dots r8
      refine wpList_app (B := W2.heap.size) rfl rfl Try.underlying28 rfl rfl r5 d8 (by have := L4.out; have := dotsS_len SX.out; omega) hsz ?_
      intro v' w' hr' hg'
      have b6 : Below W2.heap.size W2 w' := hE.grown hg' hsz (fun q hq => Row.own _ r5 q hq)
      obtain ⟨A9, n9, c9, rfl, d9⟩ := IsRow.dots hr'
      change wpList _ _ _ _ (Act.put _ (some 57) (.slice A9 n9 c9)) w'
      simp only [Act.put, List.setIfInBounds_toArray, List.set_cons_zero, List.set_cons_succ]
      have x1 := cellKeep b6 C0.out
      have fz1 : w'.frozen? ⟨M, 0, none⟩ = false := (b6.frozen (p := ⟨M, 0, none⟩) MM.out.size).trans (FZ.out 0)
      have HHW := Lib.hid (HH.out.le b6)
      have C19 := Lib.hid (cellKeep b6 C1.out); have X1 := Lib.hid x1; have K19 := Lib.hid (K1.out.mono b6); have NI9 := Lib.hid (NI.out.mono b6 MM.out.size); have D9 := Lib.hid d9
      have FZ9 := Lib.hid (show ∀ o, w'.frozen? ⟨M, o, none⟩ = false from fun o => (b6.frozen (p := ⟨M, o, none⟩) MM.out.size).trans (FZ.out o))
      clear hr' hg' r5 d8 r8 hE hsz b6 d9 _h7
      refine wpList_nilc (d := 58) (p := ⟨M, 0, none⟩) rfl rfl rfl rfl ?_
      simp only [Act.put, List.setIfInBounds_toArray, List.set_cons_zero, List.set_cons_succ]
      refine wpList_field (d := 59) (r := .pointer (some ⟨M, 0, none⟩)) rfl rfl rfl rfl field_mod0 ?_
      simp only [Act.put, List.setIfInBounds_toArray, List.set_cons_zero, List.set_cons_succ]
      refine wpList_store (p := .pointer (some ⟨M, 0, none⟩)) (v := .slice A9 n9 c9) (w' := w'.setCell ⟨M, 0, none⟩ (.slice A9 n9 c9)) rfl rfl rfl rfl rfl (by simp [go_sem, x1, fz1]) ?_
      refine wpList_nil ?_
      generalize HHW2 : w'.setCell ⟨M, 0, none⟩ (.slice A9 n9 c9) = wS
      have HS := Lib.hid HHW2
      clear HHW2 x1 fz1
      go_wp2
      go_ret
      rw [← HS.out]
      refine ⟨by simp [brokM, *], HHW.out.set_ 0 _, ?_⟩
      exact ⟨A9, n9, c9, B1, m1, cb1, cell_set X1.out, cell_far (by simp) C19.out, D9.out.setO (D9.out.noInt NI9.out) _, K19.out.setO (K19.out.noInt NI9.out) _, fun o => (World.frozen?_setCell _ _ _ _).trans (FZ9.out o), NoInt.set_ X1.out NI9.out⟩
    · skip
      go_wp2_with fail
      refine wp_region_any mixed ?_
      refine take_pure (i := 0) rfl rfl (by kernel_rfl) (fun _ _ _ h => h) (v := .pointer (some ⟨M, 0, none⟩)) (fun w => by simp [execOp, Act.eval]) ?_
      simp only [Act.put, List.setIfInBounds_toArray, List.set_cons_zero, List.set_cons_succ]
      refine wp_left [1, 2, 3, 4, 5, 6, 7, 8, 9, 10, 11, 12] 8 (by kernel_rfl) (by kernel_rfl) (by kernel_rfl) (by kernel_rfl) ?_
      refine MDerT.step (Ob.move Wanted.free Has.oldIs) ?_
      refine MDerT.step (Ob.nilV Wanted.free (Has.new 0 0)) ?_
      refine MDerT.step (Ob.fieldV Wanted.free (Has.new 1 0) (fun w1 => field_mod0)) ?_
      refine MDerT.step (Ob.loadV Wanted.free (Has.new 2 0) (fun w1 hb1 => load_sl (Below.ofDrew hb1) C0.out)) ?_
      refine MDerT.step (Ob.appNilV Wanted.free Try.underlying28 (Has.new 3 0) (fun w1 hb1 => K0.out.mono (Below.ofDrew hb1)) (L1.out)) ?_
      refine MDerT.step (Ob.fieldV Wanted.free Has.oldIs (fun w1 => field_vis3)) ?_
      refine MDerT.step (Ob.load (F := IsCon x) Wanted.free (Has.new 5 0) (fun w1 v hb1 hv => VA.out.loadX (Below.ofDrew hb1) hv)) ?_
      refine MDerT.step (Ob.call1 Wanted.free entDots (Has.new 6 0) (fun w1 u hb1 (hu : IsCon x w1 u) => dotsI (B := W2.heap.size) (Below.ofDrew hb1).size hu SX.out)) ?_
      intro wE hE
      change EndM _ [some 49, some 50, some 51, some 52, some 53, some 54, some 55, some 56] _ _ _
      simp only [EndM, List.reverse_cons, List.reverse_nil, List.nil_append, List.cons_append]
      iterate 4 (rintro _ rfl)
      rintro _ r5
      iterate 1 (rintro _ rfl)
      rintro _ _h7
      rintro _ r8
      simp only [Act.put, List.setIfInBounds_toArray, List.set_cons_zero, List.set_cons_succ]
      replace hE := Below.ofDrew hE
      have hsz := hE.size
      obtain ⟨A8, n8, c8, rfl, d8⟩ := IsRow.dots r8
      refine wpList_app (B := W2.heap.size) rfl rfl Try.underlying28 rfl rfl r5 d8 (by have := L4.out; have := dotsS_len SX.out; omega) hsz ?_
      intro v' w' hr' hg'
      have b6 : Below W2.heap.size W2 w' := hE.grown hg' hsz (fun q hq => Row.own _ r5 q hq)
      obtain ⟨A9, n9, c9, rfl, d9⟩ := IsRow.dots hr'
      change wpList _ _ _ _ (Act.put _ (some 57) (.slice A9 n9 c9)) w'
      simp only [Act.put, List.setIfInBounds_toArray, List.set_cons_zero, List.set_cons_succ]
      have x1 := cellKeep b6 C0.out
      have fz1 : w'.frozen? ⟨M, 0, none⟩ = false := (b6.frozen (p := ⟨M, 0, none⟩) MM.out.size).trans (FZ.out 0)
      have HHW := Lib.hid (HH.out.le b6)
      have C19 := Lib.hid (cellKeep b6 C1.out); have X1 := Lib.hid x1; have K19 := Lib.hid (K1.out.mono b6); have NI9 := Lib.hid (NI.out.mono b6 MM.out.size); have D9 := Lib.hid d9
      have FZ9 := Lib.hid (show ∀ o, w'.frozen? ⟨M, o, none⟩ = false from fun o => (b6.frozen (p := ⟨M, o, none⟩) MM.out.size).trans (FZ.out o))
      clear hr' hg' r5 d8 r8 hE hsz b6 d9 _h7
      refine wpList_nilc (d := 58) (p := ⟨M, 0, none⟩) rfl rfl rfl rfl ?_
      simp only [Act.put, List.setIfInBounds_toArray, List.set_cons_zero, List.set_cons_succ]
      refine wpList_field (d := 59) (r := .pointer (some ⟨M, 0, none⟩)) rfl rfl rfl rfl field_mod0 ?_
      simp only [Act.put, List.setIfInBounds_toArray, List.set_cons_zero, List.set_cons_succ]
      refine wpList_store (p := .pointer (some ⟨M, 0, none⟩)) (v := .slice A9 n9 c9) (w' := w'.setCell ⟨M, 0, none⟩ (.slice A9 n9 c9)) rfl rfl rfl rfl rfl (by simp [go_sem, x1, fz1]) ?_
      refine wpList_nil ?_
      generalize HHW2 : w'.setCell ⟨M, 0, none⟩ (.slice A9 n9 c9) = wS
      have HS := Lib.hid HHW2
      clear HHW2 x1 fz1
      go_wp2
      go_ret
      rw [← HS.out]
      refine ⟨by simp [brokM, *], HHW.out.set_ 0 _, ?_⟩
      exact ⟨A9, n9, c9, B1, m1, cb1, cell_set X1.out, cell_far (by simp) C19.out, D9.out.setO (D9.out.noInt NI9.out) _, K19.out.setO (K19.out.noInt NI9.out) _, fun o => (World.frozen?_setCell _ _ _ _).trans (FZ9.out o), NoInt.set_ X1.out NI9.out⟩
end Go.Proofs.Ytjbakmmmgejhlaa

/-
  PLAIN: a session and the statements' model of it.
-/
namespace Go.Proofs.Ytjbakmmmgejhlaa
open Go.RowKit

def szC (c : Ctx) : Nat := c.1.length + c.2.length
theorem fold_total : ∀ (l : List Dot) (s : Ctx), szC (l.foldl stepC s) ≤ szC s + l.length
  | [], s => Nat.le_refl _
  | d :: t, s => by
    rw [List.foldl_cons, List.length_cons]
    have h1 := fold_total t (stepC s d)
    have h2 : szC (stepC s d) ≤ szC s + 1 := by
      unfold stepC szC
      split
      · omega
      · split
        · have := raiseV_length s.1 d; simp only; omega
        · simp only [List.length_append, List.length_cons, List.length_nil]; omega
    omega
theorem pass_total (c : Ctx) : szC (passC c) ≤ szC c := by
  have := fold_total c.2 (c.1, [])
  unfold passC
  unfold szC at *
  simp only [List.length_nil] at this
  omega
theorem union_total (a b : Ctx) : szC (unionC a b) ≤ szC a + szC b := by
  unfold unionC
  rw [compact_pass]
  have h1 := pass_total (mergeV a.1 b.1, unionD a.2 b.2)
  have h3 := mergeV_length b.1 a.1
  have h4 := unionD_length a.2 b.2
  unfold szC at *
  simp only at h1
  omega
theorem add_total (a : Ctx) (l : List Dot) : szC (addC a l) ≤ szC a + l.length := by
  unfold addC
  rw [compact_pass]
  have h1 := pass_total (a.1, unionD a.2 l)
  have h4 := unionD_length a.2 l
  unfold szC at *
  simp only at h1
  omega

/-- A visit that the statements' walks make. -/
structure Good (v : Vis) : Prop where
  ok : badS v = false
  sm : smallB v.x = true
theorem Good.valid {v : Vis} (h : Good v) : validC v.x = true := by
  have := h.ok
  simp only [badS, Bool.or_eq_false_iff, Bool.not_eq_false'] at this
  exact this.1
theorem Good.dot {v : Vis} (h : Good v) (hw : v.w = true) : validD v.d = true ∧ hasC v.x v.d = false := by
  have := h.ok
  simp only [badS, Bool.or_eq_false_iff, hw, Bool.true_and, Bool.not_eq_false'] at this
  exact this.2
theorem Good.size {v : Vis} (h : Good v) : szC v.x ≤ 24 := by
  obtain ⟨h1, h2, _⟩ := small_iff h.sm
  unfold szC; omega
/-- The session is in the state of the model. -/
structure AlikeS (s : St) (m : Mo) : Prop where
  t1 : Tight s.1
  t2 : Tight s.2
  e1 : ∀ d, In s.1 d ↔ d ∈ m.1
  e2 : ∀ d, In s.2 d ↔ d ∈ m.2
theorem tight_nil : Tight ([], []) := tight_iff.1 (by kernel_rfl)
theorem alike0 : AlikeS st0 ([], []) := ⟨tight_nil, tight_nil, fun _ => ⟨fun h => absurd h in_nil, fun h => nomatch h⟩, fun _ => ⟨fun h => absurd h in_nil, fun h => nomatch h⟩⟩
theorem AlikeS.step {s : St} {m : Mo} {v : Vis} (h : AlikeS s m) (g : Good v) : AlikeS (stepS s v) (stepM m v) := by
  unfold stepS stepM
  cases hw : v.w with
  | true =>
    obtain ⟨a1, a2⟩ := add_spec h.t2.ok (valid_one (g.dot hw).1)
    simp only [if_true]
    exact ⟨h.t1, a1, h.e1, fun d => by rw [a2, h.e2]; simp⟩
  | false =>
    have hx := ok_iff.1 g.valid
    obtain ⟨a1, a2⟩ := union_spec h.t1.ok hx
    simp only [Bool.false_eq_true, if_false]
    exact ⟨a1, h.t2, fun d => by rw [a2, h.e1, List.mem_append, mem_dots hx], h.e2⟩
theorem win_all {a x : Ctx} {l : List Dot} (ha : Ok a) (hx : Ok x) (h : ∀ d, In a d ↔ d ∈ l) (g : Int) : winS a x g = if l.all (hasC x) then 0 else g := by
  unfold winS
  have : inC a x = l.all (hasC x) := by
    rw [Bool.eq_iff_iff, inC_iff ha hx, List.all_eq_true]
    exact ⟨fun k d hd => in_iff.2 (k d ((h d).2 hd)), fun k d hd => in_iff.1 (k d ((h d).1 hd))⟩
  rw [this]
theorem AlikeS.brok {s : St} {m : Mo} {v : Vis} (h : AlikeS s m) (g : Good v) : brokS s v = brokM m v := by
  have hx := ok_iff.1 g.valid
  unfold brokS brokM
  cases hw : v.w with
  | true =>
    simp only [if_true]
    rw [win_all h.t1.ok hx h.e1, win_all h.t2.ok hx h.e2, Int.add_comm]
  | false =>
    simp only [Bool.false_eq_true, if_false]
    rw [win_all h.t1.ok hx h.e1, win_all h.t2.ok hx h.e2]
def modOf (l : List Vis) (c : Int) : Mo := (l.filter fun v => v.c == c).foldl stepM ([], [])
theorem modOf_snoc (l : List Vis) (v : Vis) (c : Int) : modOf (l ++ [v]) c = if v.c = c then stepM (modOf l c) v else modOf l c := by
  unfold modOf
  rw [List.filter_append, List.foldl_append]
  by_cases h : v.c = c
  · rw [if_pos h, List.filter_cons_of_pos (by simp [h])]; rfl
  · rw [if_neg h, List.filter_cons_of_neg (by simp [h])]; rfl
theorem fold_alike : ∀ (l : List Vis) (s : St) (m : Mo), AlikeS s m → (∀ v ∈ l, Good v) → AlikeS (l.foldl stepS s) (l.foldl stepM m)
  | [], _, _, h, _ => h
  | v :: t, _, _, h, g => fold_alike t _ _ (h.step (g v (List.mem_cons_self ..))) (fun u hu => g u (List.mem_cons_of_mem _ hu))
theorem alike_of {l : List Vis} (g : ∀ v ∈ l, Good v) (c : Int) : AlikeS (stOf l c) (modOf l c) := fold_alike _ _ _ alike0 (fun v hv => g v ((List.mem_filter.1 hv).1))
theorem fold_szS : ∀ (l : List Vis) (s : St), (∀ v ∈ l, Good v) → szC (l.foldl stepS s).1 ≤ szC s.1 + 24 * l.length ∧ szC (l.foldl stepS s).2 ≤ szC s.2 + 24 * l.length
  | [], _, _ => ⟨Nat.le_refl _, Nat.le_refl _⟩
  | v :: t, s, g => by
    obtain ⟨h1, h2⟩ := fold_szS t (stepS s v) (fun u hu => g u (List.mem_cons_of_mem _ hu))
    have hv := g v (List.mem_cons_self ..)
    have h3 : szC (stepS s v).1 ≤ szC s.1 + 24 ∧ szC (stepS s v).2 ≤ szC s.2 + 24 := by
      unfold stepS
      cases v.w with
      | true =>
        have := add_total s.2 [v.d]
        simp only [if_true]
        simp only [List.length_cons, List.length_nil] at this
        exact ⟨by omega, by omega⟩
      | false =>
        have := union_total s.1 v.x
        have := hv.size
        simp only [Bool.false_eq_true, if_false]
        exact ⟨by omega, by omega⟩
    rw [List.foldl_cons, List.length_cons]
    exact ⟨by omega, by omega⟩
theorem AlikeS.okS {s : St} {m : Mo} (h : AlikeS s m) (l1 : szC s.1 ≤ 1000) (l2 : szC s.2 ≤ 1000) : OkS s := ⟨ok_iff.2 h.t1.ok, ok_iff.2 h.t2.ok, l1, l2⟩
theorem fits_good {l : List Vis} (g : ∀ v ∈ l, Good v) (hn : l.length ≤ 40) : Fits l := fun k c => by
  have gk : ∀ v ∈ l.take k, Good v := fun v hv => g v (List.mem_of_mem_take hv)
  have h1 := alike_of gk c
  have h2 := fold_szS ((l.take k).filter fun v => v.c == c) st0 (fun v hv => gk v ((List.mem_filter.1 hv).1))
  have h3 : ((l.take k).filter fun v => v.c == c).length ≤ l.length := Nat.le_trans (List.length_filter_le _ _) (List.length_take_le' _ _)
  have e : szC st0.1 = 0 ∧ szC st0.2 = 0 := ⟨rfl, rfl⟩
  exact h1.okS (by unfold stOf; omega) (by unfold stOf; omega)
theorem bad_good {l : List Vis} (g : ∀ v ∈ l, Good v) : l.any badS = false := by
  rw [List.any_eq_false]
  intro v hv
  rw [(g v hv).ok]; simp
theorem len_good {l : List Vis} (g : ∀ v ∈ l, Good v) : ∀ v ∈ l, v.x.1.length + v.x.2.length ≤ 1000 := fun v hv => by have := (g v hv).size; unfold szC at this; omega
/-- How long the model's lists grow. -/
theorem fold_mlen : ∀ (l : List Vis) (m : Mo), (∀ v ∈ l, Good v) → (l.foldl stepM m).1.length ≤ m.1.length + 732 * l.length ∧ (l.foldl stepM m).2.length ≤ m.2.length + l.length
  | [], _, _ => ⟨Nat.le_refl _, Nat.le_refl _⟩
  | v :: t, m, g => by
    obtain ⟨h1, h2⟩ := fold_mlen t (stepM m v) (fun u hu => g u (List.mem_cons_of_mem _ hu))
    have h4 := dotsS_len (g v (List.mem_cons_self ..)).sm
    have h3 : (stepM m v).1.length ≤ m.1.length + 732 ∧ (stepM m v).2.length ≤ m.2.length + 1 := by
      unfold stepM
      cases v.w with
      | true => simp only [if_true, List.length_append, List.length_cons, List.length_nil]; exact ⟨by omega, by omega⟩
      | false => simp only [Bool.false_eq_true, if_false, List.length_append]; exact ⟨by omega, by omega⟩
    rw [List.foldl_cons, List.length_cons]
    exact ⟨by omega, by omega⟩
theorem mlen_good {l : List Vis} (g : ∀ v ∈ l, Good v) (hn : l.length ≤ 40) (c : Int) : (modOf l c).1.length ≤ 100000 ∧ (modOf l c).2.length ≤ 100000 := by
  have h2 := fold_mlen (l.filter fun v => v.c == c) ([], []) (fun v hv => g v ((List.mem_filter.1 hv).1))
  have h3 : (l.filter fun v => v.c == c).length ≤ l.length := List.length_filter_le _ _
  have e : (([], []) : Mo).1.length = 0 ∧ (([], []) : Mo).2.length = 0 := ⟨rfl, rfl⟩
  unfold modOf
  exact ⟨by omega, by omega⟩
/-- What the statement finds of visit i, and what Judge finds. -/
def gM (l : List Vis) (i : Nat) (v : Vis) : Int := brokM (modOf (l.take i) v.c) v
theorem gM_eq {l : List Vis} {i : Nat} {v : Vis} (g : ∀ v ∈ l, Good v) (hi : l[i]? = some v) : brokS (stOf (l.take i) v.c) v = gM l i v :=
  (alike_of (fun u hu => g u (List.mem_of_mem_take hu)) v.c).brok (g v (List.mem_of_getElem? hi))
theorem judge_from {l : List Vis} {asked : Int} (g : ∀ v ∈ l, Good v) : ∀ (i : Nat), i ≤ l.length → (∀ j v, j < i → l[j]? = some v → andI (gM l j v) asked = 0) → judgeS asked [] l = judgeS asked (l.take i) (l.drop i)
  | 0, _, _ => rfl
  | i + 1, hi, h => by
    have hl : l[i]? = some l[i] := List.getElem?_eq_getElem (by omega)
    rw [judge_from g i (by omega) (fun j v hj => h j v (by omega)), judge_next hl (by rw [List.drop_eq_getElem_cons (by omega)]) (by rw [gM_eq g hl]; exact h i _ (by omega) hl)]
theorem judge_found {l : List Vis} {asked : Int} (g : ∀ v ∈ l, Good v) {i : Nat} {v : Vis} (hi : l[i]? = some v) (h : ∀ j v, j < i → l[j]? = some v → andI (gM l j v) asked = 0) (hv : ¬ andI (gM l i v) asked = 0) : judgeS asked [] l = ((i : Int), andI (gM l i v) asked) := by
  have hl := (List.getElem?_eq_some_iff.1 hi).1
  have hd : l.drop i = v :: l.drop (i + 1) := by rw [List.drop_eq_getElem_cons hl, (List.getElem?_eq_some_iff.1 hi).2]
  rw [judge_from g i (by omega) h, judge_stop (by omega) hd (by rw [gM_eq g hi]; exact hv), gM_eq g hi]
theorem judge_none {l : List Vis} {asked : Int} (g : ∀ v ∈ l, Good v) (h : ∀ j v, j < l.length → l[j]? = some v → andI (gM l j v) asked = 0) : judgeS asked [] l = (-1, 0) := by
  rw [judge_from g l.length (Nat.le_refl _) h, List.drop_length]; rfl
end Go.Proofs.Ytjbakmmmgejhlaa

/-
  SessionJudges: for any visits and any set of guarantees, with no further condition, the law returns true, and its arguments read afterwards as they read before.
-/
namespace Go.Proofs.Ytjbakmmmgejhlaa
open Go.RowKit

def NoneRel (w : World) (n : Nat) (l : List Vis) (u i : Value) (wr : World) : Prop :=
  ∃ k : Nat, i = .int .i64 k ∧ k ≤ n ∧ Below w.heap.size w wr ∧ u = .bool ((l.take k).any badS) ∧ ∀ v ∈ l.take k, smallB v.x = true
def NoneT (w : World) (n : Nat) (u i : Value) (wr : World) : Prop := ∃ k : Nat, i = .int .i64 k ∧ k ≤ n ∧ Below w.heap.size w wr ∧ u = .bool true
def JOut (w : World) (n : Nat) (l : List Vis) (asked : Int) (i : Value) (wr : World) : Prop :=
  ∃ k : Nat, i = .int .i64 k ∧ k ≤ n ∧ Below w.heap.size w wr ∧ ∀ j v, j < k → l[j]? = some v → andI (gM l j v) asked = 0
def JIn (w : World) (M i : Nat) (l : List Vis) (v : Vis) (u k : Value) (wr : World) : Prop :=
  ∃ (j : Nat) (g : Int), k = .int .i64 j ∧ j ≤ i + 1 ∧ u = .int .i64 g ∧ Below w.heap.size w wr ∧ ModAt M (modOf (l.take j) v.c) wr ∧ (j = i + 1 → g = gM l i v)
theorem field_vis0 {b o : Nat} {w : World} : (Instr.fieldAt 33 (.pointer (some ⟨b, o, none⟩)) 0).run Try.prog w = .ok (.pointer (some ⟨b, o, none⟩)) w := by simp [go_sem]
theorem smallI {c : Ctx} {w : World} {u : Value} (hu : IsCon c w u) (r : Bool) (hr : smallB c = r) : Calls Try.prog 9 #[u] w (Ret w (IsB r)) := by
  obtain ⟨A, n, ca, B, m, cb, rfl, hc⟩ := hu
  subst hr
  exact sSmall A B n ca m cb c w hc
set_option maxRecDepth 100000 in
set_option maxHeartbeats 8000000 in
theorem lawJudges (C : Option Addr) (n c : Nat) (l : List Vis) (asked : Int) (w : World) (h : Visits w C n c l) (hwa : (Lit.int .i64 asked).wf = true) (hwf : ∀ v ∈ l, (Lit.int .i64 v.c).wf = true) :
    Calls Try.prog 3 #[.slice C n c, .int .i64 asked] w (Ret w (IsB true)) := by
  have hbig := h.big
  have H := Lib.hid h; have WA := Lib.hid hwa; have WF := Lib.hid hwf
  clear h hwa hwf
  by_cases hn : 30 < n
  · have hd : decide ((30 : Int) < (n : Int)) = true := decide_eq_true (by omega)
    have HBK := Lib.hid (Below.refl w.heap.size w)
    clear hn
    go_enter Try.func3, Try.ntmps3
    go_wp2_with fail
    refine (known43 _).mono ?_
    rintro _ w9 ⟨_, rfl, hb9, rfl⟩
    have HB9 := Lib.hid (HBK.out.le hb9)
    clear hb9
    go_wp2
    go_ret
    exact retB rfl HB9.out
  have hd : decide ((30 : Int) < (n : Int)) = false := decide_eq_false (by omega)
  have HN := Lib.hid (show n ≤ 30 by omega)
  clear hn
  by_cases hq1 : asked < 0
  · have d1 : decide (asked < 0) = true := decide_eq_true hq1
    have hno : ¬ (0 ≤ asked ∧ asked ≤ 15) := by omega
    have HNO := Lib.hid hno
    clear hno
    go_enter Try.func3, Try.ntmps3
    go_wp2
    go_loopw [5, 6] (fun u i wr => NoneT w n u i wr) (fun _ i _ => n - (intOf i).toNat)
    case atStart => exact ⟨0, rfl, Nat.zero_le _, Below.refl _ _, rfl⟩
    case round =>
      obtain ⟨k, rfl, hk, hb, rfl⟩ := hrel
      have HB := Lib.hid hb
      by_cases hlt : k < n
      · obtain ⟨b, o, A1, n1, ca1, B1, m1, cb1, v, rfl, hv, hm, -⟩ := (H.out.mono hb).at_ (k := n) (i := k) hlt
        have e4 := hv.c4; have e5 := hv.c5
        have CON := Lib.hid hv.con
        clear hv hm hb
        cases hs : smallB v.x with
        | true =>
          have F := Lib.hid (smallI (IsCon_of CON.out) true hs)
          clear hs
          go_wp2_with fail
          refine F.out.mono ?_
          rintro _ w1 ⟨_, rfl, hb1, rfl⟩
          have HB1 := Lib.hid (HB.out.le hb1)
          clear hb1 F
          go_wp2
          go_roundw
          case rel => exact ⟨k + 1, by simp, hlt, HB1.out, rfl⟩
          case measure => simp [intOf]; omega
        | false =>
          have F := Lib.hid (smallI (IsCon_of CON.out) false hs)
          clear hs
          go_wp2_with fail
          refine F.out.mono ?_
          rintro _ w1 ⟨_, rfl, hb1, rfl⟩
          have HBK := Lib.hid (HB.out.le hb1)
          clear hb1 F
          go_wp2_with fail
          refine (known43 _).mono ?_
          rintro _ w9 ⟨_, rfl, hb9, rfl⟩
          have HB9 := Lib.hid (HBK.out.le hb9)
          clear hb9
          go_wp2
          go_ret
          exact retB rfl HB9.out
      · clear hb
        go_wp2_with fail
        refine (judgesNo C n c l asked wr (H.out.mono HB.out) (by have := HN.out; omega) WA.out (fun h => absurd h HNO.out)).mono ?_
        rintro _ w1 ⟨_, rfl, hb1, rfl⟩
        have HBK := Lib.hid (HB.out.le hb1)
        clear hb1
        go_wp2_with fail
        refine (known43 _).mono ?_
        rintro _ w9 ⟨_, rfl, hb9, rfl⟩
        have HB9 := Lib.hid (HBK.out.le hb9)
        clear hb9
        go_wp2
        go_ret
        exact retB rfl HB9.out
  by_cases hq2 : 15 < asked
  · have d1 : decide (asked < 0) = false := decide_eq_false hq1
    have d2 : decide (15 < asked) = true := decide_eq_true hq2
    have hno : ¬ (0 ≤ asked ∧ asked ≤ 15) := by omega
    have HNO := Lib.hid hno
    clear hno
    go_enter Try.func3, Try.ntmps3
    go_wp2
    go_loopw [5, 6] (fun u i wr => NoneT w n u i wr) (fun _ i _ => n - (intOf i).toNat)
    case atStart => exact ⟨0, rfl, Nat.zero_le _, Below.refl _ _, rfl⟩
    case round =>
      obtain ⟨k, rfl, hk, hb, rfl⟩ := hrel
      have HB := Lib.hid hb
      by_cases hlt : k < n
      · obtain ⟨b, o, A1, n1, ca1, B1, m1, cb1, v, rfl, hv, hm, -⟩ := (H.out.mono hb).at_ (k := n) (i := k) hlt
        have e4 := hv.c4; have e5 := hv.c5
        have CON := Lib.hid hv.con
        clear hv hm hb
        cases hs : smallB v.x with
        | true =>
          have F := Lib.hid (smallI (IsCon_of CON.out) true hs)
          clear hs
          go_wp2_with fail
          refine F.out.mono ?_
          rintro _ w1 ⟨_, rfl, hb1, rfl⟩
          have HB1 := Lib.hid (HB.out.le hb1)
          clear hb1 F
          go_wp2
          go_roundw
          case rel => exact ⟨k + 1, by simp, hlt, HB1.out, rfl⟩
          case measure => simp [intOf]; omega
        | false =>
          have F := Lib.hid (smallI (IsCon_of CON.out) false hs)
          clear hs
          go_wp2_with fail
          refine F.out.mono ?_
          rintro _ w1 ⟨_, rfl, hb1, rfl⟩
          have HBK := Lib.hid (HB.out.le hb1)
          clear hb1 F
          go_wp2_with fail
          refine (known43 _).mono ?_
          rintro _ w9 ⟨_, rfl, hb9, rfl⟩
          have HB9 := Lib.hid (HBK.out.le hb9)
          clear hb9
          go_wp2
          go_ret
          exact retB rfl HB9.out
      · clear hb
        go_wp2_with fail
        refine (judgesNo C n c l asked wr (H.out.mono HB.out) (by have := HN.out; omega) WA.out (fun h => absurd h HNO.out)).mono ?_
        rintro _ w1 ⟨_, rfl, hb1, rfl⟩
        have HBK := Lib.hid (HB.out.le hb1)
        clear hb1
        go_wp2_with fail
        refine (known43 _).mono ?_
        rintro _ w9 ⟨_, rfl, hb9, rfl⟩
        have HB9 := Lib.hid (HBK.out.le hb9)
        clear hb9
        go_wp2
        go_ret
        exact retB rfl HB9.out
  have d1 : decide (asked < 0) = false := decide_eq_false hq1
  have d2 : decide (15 < asked) = false := decide_eq_false hq2
  have hyes : 0 ≤ asked ∧ asked ≤ 15 := by omega
  have YES := Lib.hid hyes
  clear hyes hq1 hq2
  go_enter Try.func3, Try.ntmps3
  go_wp2
  go_loopw [5, 6] (fun u i wr => NoneRel w n l u i wr) (fun _ i _ => n - (intOf i).toNat)
  case atStart => exact ⟨0, rfl, Nat.zero_le _, Below.refl _ _, rfl, fun v hv => by simp at hv⟩
  case round =>
    obtain ⟨k, rfl, hk, hb, rfl, hsm⟩ := hrel
    have HB := Lib.hid hb; have SM := Lib.hid hsm
    clear hsm
    by_cases hlt : k < n
    · obtain ⟨b, o, A1, n1, ca1, B1, m1, cb1, v, rfl, hv, hm, -⟩ := (H.out.mono hb).at_ (k := n) (i := k) hlt
      have HV := Lib.hid hv; have HM := Lib.hid hm
      have e4 := hv.c4; have e5 := hv.c5
      clear hv hm hb
      cases hs : smallB v.x with
      | true =>
        have F := Lib.hid (smallI (IsCon_of HV.out.con) true hs)
        have HS := Lib.hid hs
        clear hs
        have SM2 := Lib.hid (show ∀ u ∈ l.take (k + 1), smallB u.x = true from fun u hu => by
          rw [take_snocV HM.out] at hu
          rcases List.mem_append.1 hu with hu | hu
          · exact SM.out u hu
          · rw [List.mem_singleton.1 hu]; exact HS.out)
        have TK := Lib.hid (show (l.take (k + 1)).any badS = ((l.take k).any badS || badS v) by rw [take_snocV HM.out, List.any_append]; simp)
        cases hbk : (l.take k).any badS with
        | true =>
          have BK := Lib.hid hbk
          clear hbk
          go_wp2_with fail
          refine F.out.mono ?_
          rintro _ w1 ⟨_, rfl, hb1, rfl⟩
          have HB1 := Lib.hid (HB.out.le hb1)
          clear hb1 F
          go_wp2
          go_roundw
          case rel => exact ⟨k + 1, by simp, hlt, HB1.out, by rw [TK.out, BK.out]; rfl, SM2.out⟩
          case measure => simp [intOf]; omega
        | false =>
          have BK := Lib.hid hbk
          clear hbk
          go_wp2_with fail
          refine F.out.mono ?_
          rintro _ w1 ⟨_, rfl, hb1, rfl⟩
          have HB1 := Lib.hid (HB.out.le hb1)
          have HV1 := Lib.hid (HV.out.mono hb1)
          have f0 := HV1.out.c0; have f1 := HV1.out.c1; have f2 := HV1.out.c2; have f3 := HV1.out.c3; have f4 := HV1.out.c4; have f5 := HV1.out.c5
          have G := Lib.hid (badI (w := w1) (u := visV v A1 n1 ca1 B1 m1 cb1) ⟨A1, n1, ca1, B1, m1, cb1, rfl, HV1.out.con⟩ (badS v) rfl)
          clear hb1 F e4 e5
          go_wp2_with fail
          refine G.out.mono ?_
          rintro _ w2 ⟨_, rfl, hb2, rfl⟩
          have HB2 := Lib.hid (HB1.out.le hb2)
          clear hb2 G
          go_wp2
          go_roundw
          case rel => exact ⟨k + 1, by simp, hlt, HB2.out, by rw [TK.out, BK.out]; rfl, SM2.out⟩
          case measure => simp [intOf]; omega
      | false =>
        have F := Lib.hid (smallI (IsCon_of HV.out.con) false hs)
        clear hs
        go_wp2_with fail
        refine F.out.mono ?_
        rintro _ w1 ⟨_, rfl, hb1, rfl⟩
        have HBK := Lib.hid (HB.out.le hb1)
        clear hb1 F
        go_wp2_with fail
        refine (known43 _).mono ?_
        rintro _ w9 ⟨_, rfl, hb9, rfl⟩
        have HB9 := Lib.hid (HBK.out.le hb9)
        clear hb9
        go_wp2
        go_ret
        exact retB rfl HB9.out
    · have hfull : l.take k = l := List.take_of_length_le (by have := H.out.len; omega)
      rw [hfull]
      clear hb
      cases hany : l.any badS with
      | true =>
        have ANY := Lib.hid hany
        clear hany
        go_wp2_with fail
        refine (judgesNo C n c l asked wr (H.out.mono HB.out) (by have := HN.out; omega) WA.out (fun _ => ANY.out)).mono ?_
        rintro _ w1 ⟨_, rfl, hb1, rfl⟩
        have HBK := Lib.hid (HB.out.le hb1)
        clear hb1
        go_wp2_with fail
        refine (known43 _).mono ?_
        rintro _ w9 ⟨_, rfl, hb9, rfl⟩
        have HB9 := Lib.hid (HBK.out.le hb9)
        clear hb9
        go_wp2
        go_ret
        exact retB rfl HB9.out
      | false =>
        have GOOD := Lib.hid (show ∀ v ∈ l, Good v from fun v hv => ⟨by rw [List.any_eq_false] at hany; simpa using hany v hv, SM.out v (by rw [hfull]; exact hv)⟩)
        have LN := Lib.hid (show l.length ≤ 40 by have := H.out.len; have := HN.out; omega)
        clear hany SM
        go_wp2
        have HBW := HB
        clear HB
        go_loopw [7] (fun i wr => JOut w n l asked i wr) (fun i _ => n - (intOf i).toNat)
        case atStart => exact ⟨0, rfl, Nat.zero_le _, HBW.out, fun j v hj => absurd hj (by omega)⟩
        case round =>
          obtain ⟨i, rfl, hi, hb, hz⟩ := hrel
          have HB := Lib.hid hb; have Z := Lib.hid hz
          clear hz HBW
          by_cases hlt2 : i < n
          · obtain ⟨b, o, A1, n1, ca1, B1, m1, cb1, v, rfl, hv, hm, -⟩ := (H.out.mono hb).at_ (k := n) (i := i) hlt2
            have HM := Lib.hid hm; have HVI := Lib.hid hv
            clear hv hm hb
            have start : JIn w wr.heap.size i l v (.int .i64 0) (.int .i64 ((0 : Nat) : Int)) (wr.alloc (.cells #[.slice none 0 0, .slice none 0 0] 38)) :=
              ⟨0, 0, rfl, Nat.zero_le _, rfl, HB.out.alloc HB.out.size _, ModAt.new wr, fun e => by omega⟩
            have START := Lib.hid start
            have HMB := Lib.hid HB.out.size
            clear start
            go_wp2
            generalize wr.alloc (.cells #[.slice none 0 0, .slice none 0 0] 38) = w0 at *
            generalize wr.heap.size = M at *
            go_loopw [9, 10] (fun u k wr => JIn w M i l v u k wr) (fun _ k _ => i + 1 - (intOf k).toNat)
            case atStart => exact START.out
            case round =>
              clear START
              obtain ⟨j, g, rfl, hj, rfl, hb2, hmod, hg⟩ := hrel
              have HB2 := Lib.hid hb2; have MOD := Lib.hid hmod; have HG := Lib.hid hg
              clear hmod hg HVI
              by_cases hle : j ≤ i
              · have hd3 : decide ((j : Int) ≤ (i : Int)) = true := decide_eq_true (by omega)
                have hjn : j < n := by omega
                obtain ⟨b2, o2, A2, n2, ca2, B2, m2, cb2, u, e2, hu, hmu, -⟩ := (H.out.mono hb2).at_ (k := n) (i := j) hjn
                cases e2
                obtain ⟨b3, o3, A3, n3, ca3, B3, m3, cb3, v', e3, hv3, hmv, -⟩ := (H.out.mono hb2).at_ (k := n) (i := i) hlt2
                cases e3
                rw [HM.out] at hmv; cases hmv
                have HU := Lib.hid hu; have HMU := Lib.hid hmu; have HV3 := Lib.hid hv3
                have GU := Lib.hid (GOOD.out u (List.mem_of_getElem? hmu))
                clear hu hmu hv3 hb2
                have IX1 := Lib.hid (fun w1 => index_vis (b := b) (o := o) (k := n) (c := c) (w := w1) hjn)
                have IX2 := Lib.hid (fun w1 => index_vis (b := b) (o := o) (k := n) (c := c) (w := w1) hlt2)
                cases hcc : decide (u.c = v.c) with
                | true =>
                  have hne : u.c = v.c := of_decide_eq_true hcc
                  have HNE := Lib.hid hne; have HCC := Lib.hid hcc
                  clear hne hcc
                  go_wp2_with fail
                  refine wp_region_M mixed (by kernel_rfl) ?_
                  refine MDerR.step (Ob.move Wanted.free Has.oldIs) ?_
                  refine MDerR.step (Ob.move Wanted.free Has.oldIs) ?_
                  refine MDerR.step (Ob.indexV Wanted.free (Has.new 0 1) (Has.new 1 0) (fun w1 => IX1.out w1)) ?_
                  refine MDerR.step (Ob.fieldV Wanted.free (Has.new 2 0) (fun w1 => field_vis0)) ?_
                  refine MDerR.step (Ob.loadV Wanted.free (Has.new 3 0) (fun w1 hb1 => load_int hb1 HU.out.c0)) ?_
                  refine MDerR.step (Ob.move Wanted.free Has.oldIs) ?_
                  refine MDerR.step (Ob.move Wanted.free Has.oldIs) ?_
                  refine MDerR.step (Ob.indexV Wanted.free (Has.new 5 1) (Has.new 6 0) (fun w1 => IX2.out w1)) ?_
                  refine MDerR.step (Ob.fieldV Wanted.free (Has.new 7 0) (fun w1 => field_vis0)) ?_
                  refine MDerR.step (Ob.loadV Wanted.free (Has.new 8 0) (fun w1 hb1 => load_int hb1 HV3.out.c0)) ?_
                  refine MDerR.step (Ob.binV Wanted.free (Has.new 4 5) (Has.new 9 0) (fun w1 => int_eql true HCC.out)) ?_
                  simp only [MDerR, dstsOf, List.map, EndM, List.reverse_cons, List.reverse_nil, List.nil_append, List.cons_append]
                  intro wE hE
                  iterate 11 (rintro _ rfl)
                  simp only [Act.put, List.setIfInBounds_toArray, List.set_cons_zero, List.set_cons_succ]
                  have HB4 := Lib.hid (HB2.out.le hE); have MOD4 := Lib.hid (MOD.out.mono hE); have HU4 := Lib.hid (HU.out.mono hE)
                  have f0 := HU4.out.c0; have f1 := HU4.out.c1; have f2 := HU4.out.c2; have f3 := HU4.out.c3; have f4 := HU4.out.c4; have f5 := HU4.out.c5
                  have ml := mlen_good (l := l.take j) (fun x hx => GOOD.out x (List.mem_of_mem_take hx)) (by rw [List.length_take]; have := LN.out; omega) v.c
                  have ML := Lib.hid ml
                  clear hE HB2 MOD HU ml
                  have hcall : Calls Try.prog 12 #[.pointer (some ⟨M, 0, none⟩), visV u A2 n2 ca2 B2 m2 cb2] wE (VPost M (stepM (modOf (l.take j) v.c) u) wE (brokM (modOf (l.take j) v.c) u)) := by
                    obtain ⟨cl, wt, ⟨p, q⟩, x⟩ := u
                    cases wt with
                    | true => exact visit_true M A2 B2 n2 ca2 m2 cb2 _ cl p q x wE MOD4.out HU4.out.con GU.out.sm ML.out.1 ML.out.2
                    | false => exact visit_false M A2 B2 n2 ca2 m2 cb2 _ cl p q x wE MOD4.out HU4.out.con GU.out.sm ML.out.1 ML.out.2
                  have CALL := Lib.hid hcall
                  clear hcall
                  go_wp2_with fail
                  refine CALL.out.mono ?_
                  rintro _ w5 ⟨rfl, hh5, hm5⟩
                  have HB5 := Lib.hid (HB4.out.hole hh5 HMB.out HB4.out.size)
                  have M5 := Lib.hid (show ModAt M (modOf (l.take (j + 1)) v.c) w5 by rw [take_snocV HMU.out, modOf_snoc, if_pos HNE.out]; exact hm5)
                  have G5 := Lib.hid (show j + 1 = i + 1 → brokM (modOf (l.take j) v.c) u = gM l i v from fun e => by
                    have e' : j = i := by omega
                    subst e'
                    have := HMU.out.symm.trans HM.out
                    cases this; rfl)
                  clear hh5 hm5 CALL f0 f1 f2 f3 f4 f5
                  go_wp2
                  go_roundw
                  case rel => exact ⟨j + 1, _, by simp, by omega, rfl, HB5.out, M5.out, G5.out⟩
                  case measure => simp [intOf]; omega
                | false =>
                  have hne : u.c ≠ v.c := of_decide_eq_false hcc
                  have HNE := Lib.hid hne; have HCC := Lib.hid hcc
                  clear hne hcc
                  go_wp2_with fail
                  refine wp_region_M mixed (by kernel_rfl) ?_
                  refine MDerR.step (Ob.move Wanted.free Has.oldIs) ?_
                  refine MDerR.step (Ob.move Wanted.free Has.oldIs) ?_
                  refine MDerR.step (Ob.indexV Wanted.free (Has.new 0 1) (Has.new 1 0) (fun w1 => IX1.out w1)) ?_
                  refine MDerR.step (Ob.fieldV Wanted.free (Has.new 2 0) (fun w1 => field_vis0)) ?_
                  refine MDerR.step (Ob.loadV Wanted.free (Has.new 3 0) (fun w1 hb1 => load_int hb1 HU.out.c0)) ?_
                  refine MDerR.step (Ob.move Wanted.free Has.oldIs) ?_
                  refine MDerR.step (Ob.move Wanted.free Has.oldIs) ?_
                  refine MDerR.step (Ob.indexV Wanted.free (Has.new 5 1) (Has.new 6 0) (fun w1 => IX2.out w1)) ?_
                  refine MDerR.step (Ob.fieldV Wanted.free (Has.new 7 0) (fun w1 => field_vis0)) ?_
                  refine MDerR.step (Ob.loadV Wanted.free (Has.new 8 0) (fun w1 hb1 => load_int hb1 HV3.out.c0)) ?_
                  refine MDerR.step (Ob.binV Wanted.free (Has.new 4 5) (Has.new 9 0) (fun w1 => int_eql false HCC.out)) ?_
                  simp only [MDerR, dstsOf, List.map, EndM, List.reverse_cons, List.reverse_nil, List.nil_append, List.cons_append]
                  intro wE hE
                  iterate 11 (rintro _ rfl)
                  simp only [Act.put, List.setIfInBounds_toArray, List.set_cons_zero, List.set_cons_succ]
                  have HB5 := Lib.hid (HB2.out.le hE)
                  have M5 := Lib.hid (show ModAt M (modOf (l.take (j + 1)) v.c) wE by rw [take_snocV HMU.out, modOf_snoc, if_neg HNE.out]; exact MOD.out.mono hE)
                  have G5 := Lib.hid (show j + 1 = i + 1 → g = gM l i v from fun e => by
                    have e' : j = i := by omega
                    subst e'
                    have := HMU.out.symm.trans HM.out
                    cases this; exact absurd rfl HNE.out)
                  clear hE
                  go_wp2
                  go_roundw
                  case rel => exact ⟨j + 1, _, by simp, by omega, rfl, HB5.out, M5.out, G5.out⟩
                  case measure => simp [intOf]; omega
              · have hd3 : decide ((j : Int) ≤ (i : Int)) = false := decide_eq_false (by omega)
                have hji : j = i + 1 := by omega
                have hgg := HG.out hji
                subst hgg
                clear hb2 hji
                by_cases hq : Go.bits .and .i64 (gM l i v) asked = 0
                · have hq2 : decide (Go.bits .and .i64 (gM l i v) asked = 0) = true := decide_eq_true hq
                  have hq3 : (Go.bits .and .i64 (gM l i v) asked != 0) = false := by simp [hq]
                  have ZN := Lib.hid (show ∀ j v, j < i + 1 → l[j]? = some v → andI (gM l j v) asked = 0 from fun j' v' hj' hm' => by
                    rcases Nat.lt_or_ge j' i with h1 | h1
                    · exact Z.out j' v' h1 hm'
                    · have e' : j' = i := by omega
                      subst e'
                      have := hm'.symm.trans HM.out
                      cases this; exact hq)
                  clear hq
                  go_wp2
                  go_roundw
                  case rel => exact ⟨i + 1, by simp, by omega, HB2.out, ZN.out⟩
                  case measure => simp [intOf]; omega
                · have hq2 : decide (Go.bits .and .i64 (gM l i v) asked = 0) = false := decide_eq_false hq
                  have hq3 : (Go.bits .and .i64 (gM l i v) asked != 0) = true := by simp [hq]
                  have JF := Lib.hid (judge_found GOOD.out HM.out Z.out hq)
                  have WFL := Lib.hid WF.out
                  clear hq
                  go_wp2_with fail
                  refine (judgesI (some ⟨b, o, none⟩) n c l asked wr (H.out.mono HB2.out) (by have := HN.out; omega) YES.out (bad_good GOOD.out) (fits_good GOOD.out LN.out) (len_good GOOD.out) WF.out (i : Int) (Go.bits .and .i64 (gM l i v) asked) JF.out).mono ?_
                  rintro _ w1 ⟨_, rfl, hb1, rfl⟩
                  have HBK := Lib.hid (HB2.out.le hb1)
                  clear hb1
                  go_wp2_with fail
                  refine (known43 _).mono ?_
                  rintro _ w9 ⟨_, rfl, hb9, rfl⟩
                  have HB9 := Lib.hid (HBK.out.le hb9)
                  clear hb9
                  go_wp2
                  go_ret
                  exact retB rfl HB9.out
          · have JN := Lib.hid (judge_none (asked := asked) GOOD.out (fun j v hj hm => Z.out j v (by have := H.out.len; omega) hm))
            clear hb
            go_wp2_with fail
            refine (judgesI C n c l asked wr (H.out.mono HB.out) (by have := HN.out; omega) YES.out (bad_good GOOD.out) (fits_good GOOD.out LN.out) (len_good GOOD.out) WF.out (-1) 0 JN.out).mono ?_
            rintro _ w1 ⟨_, rfl, hb1, rfl⟩
            have HBK := Lib.hid (HB.out.le hb1)
            clear hb1
            go_wp2_with fail
            refine (known43 _).mono ?_
            rintro _ w9 ⟨_, rfl, hb9, rfl⟩
            have HB9 := Lib.hid (HBK.out.le hb9)
            clear hb9
            go_wp2
            go_ret
            exact retB rfl HB9.out
end Go.Proofs.Ytjbakmmmgejhlaa

/-
  Visits, contexts that came in: what they read as.
-/
namespace Go.Proofs.Ytjbakmmmgejhlaa
open Go.ChangeShapes Go.WideShapes Go.ChangeAt Go.RowKit Go.Deep Go.Joins

instance : Inhabited VS := ⟨⟨⟨0, false, (0, 0), ([], [])⟩, none, 0, 0, none, 0, 0⟩⟩
section
variable {H : Type} {enc : TypeId × Value → H} {w : World} {base : Nat} {held : Bool}
theorem cells_int : Try.prog.cellsOf 3 = 1 := by kernel_rfl
theorem cells_bool : Try.prog.cellsOf 4 = 1 := by kernel_rfl
theorem cells_dot : Try.prog.cellsOf 27 = 2 := by kernel_rfl
theorem cells_con : Try.prog.cellsOf 31 = 2 := by kernel_rfl
theorem cells_vec : Try.prog.cellsOf 29 = 1 := by kernel_rfl
theorem cells_sl : Try.prog.cellsOf 28 = 1 := by kernel_rfl
theorem cells_vis : Try.prog.cellsOf 33 = 6 := by kernel_rfl
theorem open_dot {fuel : Nat} {v0 v1 : Value} {x : DataW H × List MemPlace} (h : DataW.trod enc Try.prog w base (fun _ => true) held fuel 27 [v0, v1] = some x) : ∃ p q, v0 = .int .i64 p ∧ v1 = .int .i64 q := by
  obtain ⟨xs, k, _, _, _, hxl, hf⟩ := DataW.trod_struct Try.underlying27 h
  match xs, hxl with
  | [y0, y1], _ =>
    have g0 := hf 0 _ rfl
    have g1 := hf 1 _ rfl
    simp [cells_int] at g0 g1
    obtain ⟨p, e0, _⟩ := DataW.trod_int Try.underlying3 g0
    obtain ⟨q, e1, _⟩ := DataW.trod_int Try.underlying3 g1
    simp at e0 e1
    exact ⟨p, q, e0, e1⟩
theorem open_con {fuel : Nat} {v0 v1 : Value} {x : DataW H × List MemPlace} (h : DataW.trod enc Try.prog w base (fun _ => true) held fuel 31 [v0, v1] = some x) : ∃ A n ca B m cb c, v0 = .slice A n ca ∧ v1 = .slice B m cb ∧ Con w A n ca B m cb c := by
  obtain ⟨xs, k, _, _, _, hxl, hf⟩ := DataW.trod_struct Try.underlying31 h
  match xs, hxl with
  | [y0, y1], _ =>
    have g0 := hf 0 _ rfl
    have g1 := hf 1 _ rfl
    simp [cells_vec, cells_sl] at g0 g1
    obtain ⟨A, n, ca, l, rfl, d0⟩ := read_vec g0
    obtain ⟨B, m, cb, l', rfl, d1⟩ := read_dots g1
    exact ⟨A, n, ca, B, m, cb, (l, l'), rfl, rfl, d0, d1⟩
theorem open_vis {fuel : Nat} {v0 v1 v2 v3 v4 v5 : Value} {x : DataW H × List MemPlace} (h : DataW.trod enc Try.prog w base (fun _ => true) held fuel 33 [v0, v1, v2, v3, v4, v5] = some x) :
    ∃ s : VS, vcell s = [v0, v1, v2, v3, v4, v5] ∧ Con w s.A s.n s.ca s.B s.m s.cb s.v.x ∧ (Lit.int .i64 s.v.c).wf = true := by
  obtain ⟨xs, k, _, _, _, hxl, hf⟩ := DataW.trod_struct Try.underlying33 h
  match xs, hxl with
  | [y0, y1, y2, y3], _ =>
    have g0 := hf 0 _ rfl
    have g1 := hf 1 _ rfl
    have g2 := hf 2 _ rfl
    have g3 := hf 3 _ rfl
    simp [cells_int, cells_bool, cells_dot, cells_con] at g0 g1 g2 g3
    obtain ⟨c, e0, _, w0⟩ := DataW.trod_int Try.underlying3 g0
    obtain ⟨b, e1, _⟩ := DataW.trod_bool Try.underlying4 g1
    simp at e0 e1
    subst e0; subst e1
    obtain ⟨p, q, rfl, rfl⟩ := open_dot g2
    obtain ⟨A, n, ca, B, m, cb, cx, rfl, rfl, hc⟩ := open_con g3
    exact ⟨⟨⟨c, b, (p, q), cx⟩, A, n, ca, B, m, cb⟩, rfl, hc, w0⟩
theorem read_visits {fuel : Nat} {v : Value} {x : DataW H × List MemPlace} (h : DataW.trod enc Try.prog w base (fun _ => true) held fuel 22 [v] = some x) : ∃ A n c l, v = .slice A n c ∧ Visits w A n c l ∧ ∀ u ∈ l, (Lit.int .i64 u.c).wf = true := by
  rcases open_slice Try.underlying22 h with ⟨h1, _⟩ | ⟨a, len, cap, m, n, D, Pl, h1, hb, hl, hm, hmm, _, hx⟩
  · cases h1
    exact ⟨none, 0, 0, [], rfl, Visits.nil_, fun u hu => nomatch hu⟩
  · cases h1
    rw [if_pos rfl] at hmm
    have each : ∀ i, i < len → ∃ s : VS, (∀ j u, (vcell s)[j]? = some u → w.cell? (a.add (i * 6 + j)) = some u) ∧ Con w s.A s.n s.ca s.B s.m s.cb s.v.x ∧ (Lit.int .i64 s.v.c).wf = true := by
      intro i hi
      obtain ⟨cs', h1, h2⟩ := hx i (by omega)
      rw [cells_vis] at h1
      obtain ⟨_, hlen, hcell⟩ := World.cells?_some h1
      match cs', hlen with
      | [v0, v1, v2, v3, v4, v5], _ =>
        obtain ⟨s, hs, hc, hw⟩ := open_vis h2
        refine ⟨s, fun j u hj => ?_, hc, hw⟩
        rw [hs] at hj
        have hj6 : j < 6 := (List.getElem?_eq_some_iff.1 hj).1
        have := hcell j hj6
        rw [add_add] at this
        rw [this]; exact hj
    obtain ⟨q, hq⟩ := choose_lt each
    refine ⟨some a, len, cap, (List.range len).map fun i => (q i).v, rfl, ⟨by simp, hl, hm, (fun e => nomatch e), fun i v hi => ?_⟩, fun u hu => ?_⟩
    · have hil : i < len := by have := (List.getElem?_eq_some_iff.1 hi).1; simpa using this
      rw [List.getElem?_map, List.getElem?_range hil] at hi
      simp only [Option.map_some, Option.some.injEq] at hi
      subst hi
      obtain ⟨hc, hcon, _⟩ := hq i hil
      obtain ⟨b, o, s⟩ := a
      have hs : s = none := by have h9 := World.cell?_spot ((hq 0 (by omega)).1 0 _ rfl); simpa [Addr.add] using h9
      subst hs
      have cell : ∀ j u, (vcell (q i))[j]? = some u → w.cell? ⟨b, o + i * 6 + j, none⟩ = some u := fun j u hj => by
        have := hc j u hj
        rw [add_lit] at this
        rw [Nat.add_assoc]; exact this
      exact ⟨b, o, (q i).A, (q i).n, (q i).ca, (q i).B, (q i).m, (q i).cb, rfl, cell 0 _ rfl, cell 1 _ rfl, cell 2 _ rfl, cell 3 _ rfl, cell 4 _ rfl, cell 5 _ rfl, hcon⟩
    · obtain ⟨i, hi, rfl⟩ := List.mem_map.1 hu
      exact (hq i (List.mem_range.1 hi)).2.2
end
end Go.Proofs.Ytjbakmmmgejhlaa

/-
  SessionJudges: of any visits and any set of guarantees, with no condition, the law returns true, and its arguments read afterwards as before.
-/
namespace Go.Proofs.Ytjbakmmmgejhlaa
open Go.ChangeShapes Go.WideShapes Go.ChangeAt Go.RowKit Go.Deep Go.Joins

set_option maxRecDepth 100000 in
theorem sessionJudges_lifted (os : Os) (started : os.Started) (H : Type) (enc : TypeId × Value → H) :
    ReturnsInHanded {} Try.checked os 3 .any (Rows.sessionJudgesSpec.pre6 enc Try.prog Try.f3 Rows.sessionJudgesRow.domain false) (Rows.sessionJudgesSpec.post enc Try.prog Try.f3 false true false false) := by
  refine returnsInHanded_of_change (C := Try.checked) own_none started (by kernel_rfl) Try.func3
    (ChangeSpec.witness6 (enc := enc) (C := Try.checked) false ⟨#[], #[.slice none 0 0, .int .i64 0], []⟩ 8 (by kernel_rfl) (by kernel_rfl) (by kernel_rfl) (by kernel_rfl)) ?_
  intro W base args ds gs before hval0 hW hcnd _
  have hval : ∀ (j : Nat) t v, Try.f3.params[j]? = some t → args[j]? = some v → Value.okWide Try.prog W .any base t v := hval0
  have hW' := hW
  obtain ⟨p, q, hA0, hV, rfl, hfz, hnd⟩ := hW
  have hA : DataW.TrodAll enc Try.prog W 0 (fun _ => true) true Try.f3.params.toList args.toList ds p := hA0
  rw [Try.params3] at hA hval
  obtain ⟨v0, v1, d0, d1, p0, p1, rfl, rfl, rfl, h0, h1⟩ := trodAll_two hA
  obtain ⟨rfl, rfl⟩ := trodVars_none hV
  obtain ⟨A, n, c, rfl⟩ := okWide_slice Try.underlying22 (hval 0 22 v0 rfl rfl)
  obtain ⟨_, g0⟩ := h0
  obtain ⟨A', n', c', l, e, hl, hwf⟩ := read_visits g0
  cases e
  obtain ⟨x, rfl, _, _, hw⟩ := open_int Try.underlying23 (hval 1 23 v1 rfl rfl) h1
  clear hA0 hval0
  refine (lawJudges A n c l x W hl hw hwf).mono fun e W' ⟨_, he, hb, rfl⟩ => ?_
  subst he
  exact ⟨_, rfl, law_post laid_out (by kernel_rfl) (by kernel_rfl) Try.underlying4 rfl rfl hW' hb⟩

theorem sessionJudges_holds : Rows.SessionJudgesSaid :=
  OpenClaim.holds_of_wide 3 Try.f3 rfl rfl rfl rfl rfl rfl rfl ⟨rfl, rfl, rfl, rfl, rfl⟩ rfl rfl rfl rfl rfl (by kernel_rfl) Try.func3 (by kernel_rfl)
    (of_decide_eq_true (by kernel_rfl)) (by unfold Func.isWrapper; first | (rw [if_pos (by decide +kernel)]; kernel_rfl) | (rw [if_neg (by decide +kernel)]; exact ⟨rfl, rfl⟩))
    (fun os started H enc _ => sessionJudges_lifted os started H enc)
end Go.Proofs.Ytjbakmmmgejhlaa
