/-
  A row of visits of the call's own: an append.
-/
import Derived.Test.YtjbakmmmgejhlaaWR
import Derived.Maps.AppendAt
import Derived.Test.YtjbakmmmgejhlaaWO
import Derived.Test.YtjbakmmmgejhlaaWM
namespace Go.Proofs.Ytjbakmmmgejhlaa
open Go.RowKit

/-- A visit and where its context's dots lie. -/
structure VS where
  v : Vis
  A : Option Addr
  n : Nat
  ca : Nat
  B : Option Addr
  m : Nat
  cb : Nat
def vcell (s : VS) : List Value := [.int .i64 s.v.c, .bool s.v.w, .int .i64 s.v.d.1, .int .i64 s.v.d.2, .slice s.A s.n s.ca, .slice s.B s.m s.cb]
def vcells (l : List VS) : List Value := l.flatMap vcell
theorem vcells_append (a b : List VS) : vcells (a ++ b) = vcells a ++ vcells b := by unfold vcells; rw [List.flatMap_append]
theorem vcells_length : ∀ l : List VS, (vcells l).length = l.length * 6
  | [] => rfl
  | s :: l => by
    have : vcells (s :: l) = vcell s ++ vcells l := rfl
    rw [this, List.length_append, vcells_length l]; simp [vcell]; omega
theorem vcells_get : ∀ (l : List VS) (i : Nat) (s : VS), l[i]? = some s → ∀ j u, (vcell s)[j]? = some u → (vcells l)[i * 6 + j]? = some u
  | [], i, s, h, _, _, _ => by simp at h
  | a :: l, 0, s, h, j, u, hj => by
    simp at h; subst h
    have : vcells (a :: l) = vcell a ++ vcells l := rfl
    rw [this, List.getElem?_append_left (by have := (List.getElem?_eq_some_iff.1 hj).1; omega)]
    simpa using hj
  | a :: l, i + 1, s, h, j, u, hj => by
    have := vcells_get l i s (by simpa using h) j u hj
    have e : vcells (a :: l) = vcell a ++ vcells l := rfl
    rw [e, List.getElem?_append_right (by simp [vcell]; omega)]
    have e2 : (i + 1) * 6 + j - (vcell a).length = i * 6 + j := by simp [vcell]; omega
    rw [e2]; exact this
theorem vcells_at (l : List VS) (j : Nat) (u : Value) (h : (vcells l)[j]? = some u) : ∃ s ∈ l, u ∈ vcell s := by
  have := List.mem_of_getElem? h
  unfold vcells at this
  exact List.mem_flatMap.1 this
theorem vcells_one (l : List VS) : ∀ u ∈ vcells l, u.oneCell' = true := by
  intro u hu
  obtain ⟨j, hj⟩ := List.getElem?_of_mem hu
  obtain ⟨s, _, h⟩ := vcells_at l j u hj
  simp only [vcell, List.mem_cons, List.not_mem_nil, or_false] at h
  rcases h with rfl | rfl | rfl | rfl | rfl | rfl <;> rfl
/-- The dots lie outside a block. -/
def OffB (r : Option Nat) (A : Option Addr) (l : List Dot) : Prop := l ≠ [] → ∀ a, A = some a → some a.block ≠ r
/-- A row of visits of the call's own, from block B on; the visits' dots lie outside it. -/
def VRow (w : World) (B : Nat) (u : Value) (l : List Vis) : Prop :=
  ∃ ss : List VS, ss.map (·.v) = l ∧ w.ownsRow B 33 6 u ss.length (vcells ss) ∧ ∀ s ∈ ss, Con w s.A s.n s.ca s.B s.m s.cb s.v.x ∧ OffB u.ownBlock s.A s.v.x.1 ∧ OffB u.ownBlock s.B s.v.x.2
section
variable {w w' : World} {B : Nat} {u : Value} {l : List Vis}
theorem Dots.grownOff {A : Option Addr} {n c : Nat} {l : List Dot} {r : Option Nat} (h : Dots w A n c l) (hg : w.grownBy w' r) (ho : OffB r A l) : Dots w' A n c l :=
  ⟨h.len, h.cap, h.max, h.nil, fun i d hi => by
    obtain ⟨b, o, e, hb, h1, h2⟩ := h.cell i d hi
    have hn := ho (fun e => by subst e; simp at hi) _ e
    exact ⟨b, o, e, Nat.lt_of_lt_of_le hb hg.size, hg.cell h1 hn, hg.cell h2 hn⟩⟩
theorem Dots.offNew {A : Option Addr} {n c : Nat} {l : List Dot} (h : Dots w A n c l) {k : Nat} (hk : w.heap.size ≤ k) : OffB (some k) A l := fun hne a ha e => by
  obtain ⟨d, t, rfl⟩ := List.exists_cons_of_ne_nil hne
  obtain ⟨b, o, e2, hb, _⟩ := h.cell 0 d rfl
  rw [ha] at e2; cases e2
  simp only [Option.some.injEq] at e
  have e : b = k := e
  omega
theorem VRow.nil_ (w : World) (B : Nat) : VRow w B (.slice none 0 0) [] := ⟨[], rfl, World.ownsRow_nil w B _ 6, fun _ h => nomatch h⟩
theorem ownsRow_below {e : TypeId} {z n : Nat} {xs : List Value} (h : w.ownsRow B e z u n xs) (hb : Below w.heap.size w w') : w'.ownsRow B e z u n xs := by
  refine ⟨h.1, ?_⟩
  rcases h.2 with h2 | ⟨g, cap, cur, hv, hg, hh, r⟩
  · exact .inl h2
  · exact .inr ⟨g, cap, cur, hv, hg, (hb.block g (Array.getElem?_eq_some_iff.1 hh).1).trans hh, r⟩
theorem VRow.mono (h : VRow w B u l) (hb : Below w.heap.size w w') : VRow w' B u l := by
  obtain ⟨ss, e, ho, hs⟩ := h
  exact ⟨ss, e, ownsRow_below ho hb, fun s hm => let ⟨a, b, c⟩ := hs s hm; ⟨a.mono hb, b, c⟩⟩
theorem VRow.own (h : VRow w B u l) : ∀ k, u.ownBlock = some k → B ≤ k ∧ k < w.heap.size := by
  obtain ⟨ss, e, ho, hs⟩ := h
  exact ho.lt
theorem VRow.visits (h : VRow w B u l) : ∃ A c, u = .slice A l.length c ∧ Visits w A l.length c l := by
  obtain ⟨ss, rfl, ho, hs⟩ := h
  rw [List.length_map]
  rcases ho.2 with ⟨rfl, h0⟩ | ⟨g, cap, cur, rfl, hg, hh, hn, hm, hsz, ht⟩
  · have : ss = [] := List.eq_nil_of_length_eq_zero h0
    subst this
    exact ⟨none, 0, rfl, Visits.nil_⟩
  · refine ⟨some ⟨g, 0, none⟩, cap, rfl, by simp, hn, hm, (fun e => nomatch e), fun i v hi => ?_⟩
    rw [List.getElem?_map] at hi
    cases hsi : ss[i]? with
    | none => rw [hsi] at hi; cases hi
    | some s =>
      rw [hsi] at hi; cases hi
      have cell : ∀ j u, (vcell s)[j]? = some u → w.cell? ⟨g, 0 + i * 6 + j, none⟩ = some u := fun j u hj => by
        have := ho.cells (g := g) rfl (i * 6 + j) u (vcells_get ss i s hsi j u hj)
        rw [add_lit] at this
        rw [Nat.add_assoc]; exact this
      exact ⟨g, 0, s.A, s.n, s.ca, s.B, s.m, s.cb, rfl, cell 0 _ rfl, cell 1 _ rfl, cell 2 _ rfl, cell 3 _ rfl, cell 4 _ rfl, cell 5 _ rfl, (hs s (List.mem_of_getElem? hsi)).1⟩
end
theorem info_vis : ∃ i : TypeInfo, Try.prog.info? 33 = some i ∧ i.zero = some (.agg #[.int .i64 0, .bool false, .int .i64 0, .int .i64 0, .slice none 0 0, .slice none 0 0]) ∧ i.size = 6 ∧ i.bytes = 80 := by
  obtain ⟨i, h1, h2, h3, h4⟩ := info_parts (P := Try.prog) (show (Try.prog.info? 33).map (fun i => (i.zero, i.size, i.bytes)) = some (some (.agg #[.int .i64 0, .bool false, .int .i64 0, .int .i64 0, .slice none 0 0, .slice none 0 0]), 6, 80) by kernel_rfl)
  exact ⟨i, h1, h2, h3, h4⟩
theorem wpList_appV {ops : Array Oper} {rest : List Oper} {o : Oper} {a : Act} {Q : Exit → Act → World → Prop} {s x : Operand} {t : TypeId} {w : World} {B b : Nat} {u : Value} {l : List Vis} {v : Vis} {A C : Option Addr} {n ca m cb : Nat}
    (hgd : o.guard = none) (ho : o.op = .call { callee := .builtin .append, args := #[s, x], argTypes := #[t, t] }) (ht : Try.prog.underlying t = some (.slice 33)) (hsv : a.eval s = u) (hxv : a.eval x = .slice (some ⟨b, 0, none⟩) 1 1)
    (h : VRow w B u l) (hv : VisAt b 0 A n ca C m cb v w) (o1 : OffB u.ownBlock A v.x.1) (o2 : OffB u.ownBlock C v.x.2) (hs : l.length + 1 ≤ 1000000) (hB : B ≤ w.heap.size)
    (K : ∀ u' w', VRow w' B u' (l ++ [v]) → w.grownBy w' u.ownBlock → (u'.ownBlock = u.ownBlock ∨ u'.ownBlock = some w.heap.size) → wpList Try.prog ops Q rest (a.put o.dst u') w') : wpList Try.prog ops Q (o :: rest) a w := by
  obtain ⟨i, hi, hz, hsz, hby⟩ := info_vis
  obtain ⟨ss, rfl, hown, hcon⟩ := h
  rw [List.length_map] at hs
  refine wpList_append_own_at w hgd s x t ho B 33 i _ 6 80 ht hi hz hsz hby rfl (by omega) u ss.length (vcells ss) hsv hown ⟨b, 0, none⟩ 1 1 (vcells [⟨v, A, n, ca, C, m, cb⟩]) hxv (by rw [vcells_length]; rfl) (fun j x hj => ?_) (vcells_one _) (by unfold maxLen; omega) (by omega) hB ?_
  · rw [add_lit]
    match j, hj with
    | 0, hj => cases hj; exact hv.c0
    | 1, hj => cases hj; exact hv.c1
    | 2, hj => cases hj; exact hv.c2
    | 3, hj => cases hj; exact hv.c3
    | 4, hj => cases hj; exact hv.c4
    | 5, hj => cases hj; exact hv.c5
    | j + 6, hj => exact absurd (List.getElem?_eq_some_iff.1 hj).1 (by rw [vcells_length]; simp)
  · intro u' w' h2 hg _ hat
    refine K u' w' ⟨ss ++ [⟨v, A, n, ca, C, m, cb⟩], by simp, by rw [vcells_append]; simpa using h2, fun s hm => ?_⟩ hg hat
    have key : ∀ s : VS, Con w s.A s.n s.ca s.B s.m s.cb s.v.x ∧ OffB u.ownBlock s.A s.v.x.1 ∧ OffB u.ownBlock s.B s.v.x.2 → Con w' s.A s.n s.ca s.B s.m s.cb s.v.x ∧ OffB u'.ownBlock s.A s.v.x.1 ∧ OffB u'.ownBlock s.B s.v.x.2 := by
      rintro s ⟨k1, k2, k3⟩
      refine ⟨⟨k1.v.grownOff hg k2, k1.k.grownOff hg k3⟩, ?_⟩
      rcases hat with e | e
      · rw [e]; exact ⟨k2, k3⟩
      · rw [e]; exact ⟨k1.v.offNew (Nat.le_refl _), k1.k.offNew (Nat.le_refl _)⟩
    rcases List.mem_append.1 hm with hm | hm
    · exact key s (hcon s hm)
    · rw [List.mem_singleton.1 hm]; exact key _ ⟨hv.con, o1, o2⟩
set_option maxRecDepth 100000 in
set_option maxHeartbeats 1000000 in
/-- one, and where its dot lies. -/
theorem sOneX (r : Int) (w : World) : Calls Try.prog 13 #[.int .i64 r] w (Ret w (fun w' v => v = .agg #[.slice (some ⟨w.heap.size + 1, 0, none⟩) 1 1, .slice none 0 0] ∧ Con w' (some ⟨w.heap.size + 1, 0, none⟩) 1 1 none 0 0 ([(r, 1)], []))) := by
  go_enter Try.func13, Try.ntmps13
  go_wp2
  refine bodyPost_ret (v := .agg #[.slice (some ⟨w.heap.size + 1, 0, none⟩) 1 1, .slice none 0 0]) (by simp [results, Try.results13, go_sem]) rfl ?_
  have hd := Dots.one (w.alloc (conBox (some ⟨w.heap.size + 1, 0, none⟩) 1 1 none 0 0)) r 1
  have hz : (w.alloc (conBox (some ⟨w.heap.size + 1, 0, none⟩) 1 1 none 0 0)).heap.size = w.heap.size + 1 := by simp
  rw [hz] at hd
  exact ⟨_, rfl, by go_grown, rfl, ⟨hd, Dots.nil_⟩⟩
end Go.Proofs.Ytjbakmmmgejhlaa

/-
  The statements' helper: dots.
-/
namespace Go.Proofs.Ytjbakmmmgejhlaa
open Go.RowKit

def runD (d : Dot) (j : Nat) : List Dot := (List.range j).map fun i : Nat => (d.1, (i : Int) + 1)
def dotsV (l : List Dot) : List Dot := l.flatMap fun d => runD d d.2.toNat
def dotsS (c : Ctx) : List Dot := dotsV c.1 ++ c.2
theorem runD_len (d : Dot) (j : Nat) : (runD d j).length = j := by unfold runD; simp
theorem runD_succ (d : Dot) (j : Nat) : runD d (j + 1) = runD d j ++ [(d.1, (j : Int) + 1)] := by unfold runD; rw [List.range_succ, List.map_append]; rfl
theorem dotsV_snoc (l : List Dot) (d : Dot) : dotsV (l ++ [d]) = dotsV l ++ runD d d.2.toNat := by unfold dotsV; rw [List.flatMap_append]; simp
theorem dotsV_len : ∀ (l : List Dot), (∀ d ∈ l, d.2 ≤ 60) → (dotsV l).length ≤ 60 * l.length
  | [], _ => by simp [dotsV]
  | d :: l, h => by
    have e : dotsV (d :: l) = runD d d.2.toNat ++ dotsV l := rfl
    have h1 := dotsV_len l (fun x hx => h x (List.mem_cons_of_mem _ hx))
    have h2 := h d (List.mem_cons_self ..)
    rw [e, List.length_append, runD_len, List.length_cons]
    omega
theorem small_iff {c : Ctx} (h : smallB c = true) : c.1.length ≤ 12 ∧ c.2.length ≤ 12 ∧ (∀ d ∈ c.1, d.2 ≤ 60) ∧ ∀ d ∈ c.2, d.2 ≤ 60 := by
  unfold smallB at h
  simp only [Bool.and_eq_true, decide_eq_true_eq, List.all_eq_true] at h
  obtain ⟨⟨⟨h1, h2⟩, h3⟩, h4⟩ := h
  refine ⟨h3, h4, fun d hd => ?_, fun d hd => ?_⟩
  · rw [List.take_of_length_le (by omega)] at h1; exact of_decide_eq_true (h1 d hd)
  · rw [List.take_of_length_le (by omega)] at h2; exact of_decide_eq_true (h2 d hd)
theorem dotsS_len {c : Ctx} (h : smallB c = true) : (dotsS c).length ≤ 732 := by
  obtain ⟨h1, h2, h3, h4⟩ := small_iff h
  have := dotsV_len c.1 h3
  unfold dotsS
  rw [List.length_append]; omega
def DotsRel (w : World) (n : Nat) (l : List Dot) (u i : Value) (wr : World) : Prop := ∃ k : Nat, i = .int .i64 k ∧ k ≤ n ∧ Below w.heap.size w wr ∧ Row wr w.heap.size u (dotsV (l.take k))
def DotsRel2 (w : World) (k : Nat) (l : List Dot) (d : Dot) (u i : Value) (wr : World) : Prop := ∃ j : Nat, i = .int .i64 ((j : Int) + 1) ∧ j ≤ d.2.toNat ∧ Below w.heap.size w wr ∧ Row wr w.heap.size u (dotsV (l.take k) ++ runD d j)
set_option maxRecDepth 100000 in
set_option maxHeartbeats 4000000 in
theorem sdots (A B : Option Addr) (n ca m cb : Nat) (c : Ctx) (w : World) (hc : Con w A n ca B m cb c) (hs : smallB c = true) :
    Calls Try.prog 32 #[.agg #[.slice A n ca, .slice B m cb]] w (Ret w (IsRow w.heap.size (dotsS c))) := by
  obtain ⟨W, hWdef⟩ : ∃ W, W = w.alloc (conBox A n ca B m cb) := ⟨_, rfl⟩
  have hb0 : Below w.heap.size w W := by rw [hWdef]; go_grown
  have bc : Boxed w.heap.size A B n ca m cb c W := by rw [hWdef]; exact Boxed.new hc
  have hn := hc.v.big; have hm := hc.k.big
  have LN := Lib.hid hc.v.len; have LM := Lib.hid hc.k.len
  have DEF := Lib.hid hWdef; have HB := Lib.hid hb0; have BC := Lib.hid bc
  have SM := Lib.hid (small_iff hs)
  have HZ := Lib.hid (show W.heap.size = w.heap.size + 1 by rw [hWdef]; simp)
  clear hWdef hb0 bc hc hs
  go_enter Try.func32, Try.ntmps32
  go_wp2
  rw [← DEF.out]
  go_loopw [3, 4] (fun u i wr => DotsRel W n c.1 u i wr) (fun _ i _ => n - (intOf i).toNat)
  case atStart => exact ⟨0, rfl, Nat.zero_le _, Below.refl _ _, Row.nil_ _ _⟩
  case round =>
    obtain ⟨k, rfl, hk, hb, hrow⟩ := hrel
    have BCr := Lib.hid (BC.out.mono hb); have HBW := Lib.hid hb; have ROW := Lib.hid hrow
    have x0 := BCr.out.c0; have x1 := BCr.out.c1
    clear hb hrow
    by_cases hlt : k < n
    · obtain ⟨b', o, p, q, rfl, hbk, e0, d1, k1, k3⟩ := BCr.out.con.v.at_ (k := k) hlt
      have hq60 : q ≤ 60 := SM.out.2.2.1 (p, q) (List.mem_of_getElem? e0)
      have E0 := Lib.hid e0; have K1 := Lib.hid k1; have K3 := Lib.hid k3
      clear e0 d1
      go_wp2
      clear x0 x1 k1 k3
      have SL := Lib.hid (show (dotsV (c.1.take k)).length ≤ 60 * 12 by
        have h1 := dotsV_len (c.1.take k) (fun d hd => SM.out.2.2.1 d (List.mem_of_mem_take hd))
        have h2 := SM.out.1
        rw [List.length_take] at h1; omega)
      go_loopw [3, 5] (fun u i w2 => DotsRel2 W k c.1 (p, q) u i w2) (fun _ i _ => 62 - (intOf i).toNat)
      case atStart => exact ⟨0, rfl, Nat.zero_le _, HBW.out, by unfold runD; simpa using ROW.out⟩
      case round =>
        obtain ⟨j, rfl, hj, hb2, hrow2⟩ := hrel
        have hj : j ≤ q.toNat := hj
        have BC2 := Lib.hid (BC.out.mono hb2); have HB2 := Lib.hid hb2; have ROW2 := Lib.hid hrow2
        have x0 := BC2.out.c0; have x1 := BC2.out.c1
        obtain ⟨b2, o2, p2, q2, e2, hbk2, e02, d2, k1, k3⟩ := BC2.out.con.v.at_ (k := k) hlt
        cases e2
        rw [E0.out] at e02; cases e02
        clear hb2 hrow2 d2
        by_cases hle : (j : Int) + 1 ≤ q
        · have hd : decide ((j : Int) + 1 ≤ q) = true := decide_eq_true hle
          have D1 := Lib.hid (Dots.one wr p ((j : Int) + 1))
          obtain ⟨L, hL⟩ : ∃ L, L = dotsV (c.1.take k) ++ runD (p, q) j := ⟨_, rfl⟩
          have ROW3 := Lib.hid (show Row wr W.heap.size u3 L by rw [hL]; exact ROW2.out)
          have LL := Lib.hid (show L.length ≤ 1000 by rw [hL, List.length_append, runD_len]; have := SL.out; omega)
          have HL := Lib.hid hL
          clear hL
          go_wp2_with (at_builtin; refine wpList_app (B := W.heap.size) (l := L) (k := [(p, (j : Int) + 1)]) rfl rfl Try.underlying28 rfl rfl (Row.mono ROW3.out (by go_grown)) D1.out (by have := LL.out; simp; omega) (by have := HB2.out.size; simp; omega) ?_; intro v' w' hr' hg'; have HR' := Lib.hid hr'; have HG' := Lib.hid hg'; clear hr' hg'; simp only [Act.put, List.setIfInBounds_toArray, List.set_cons_zero, List.set_cons_succ])
          go_roundw
          case rel => exact ⟨j + 1, by simp, by show j + 1 ≤ q.toNat; omega, (HB2.out.alloc HB2.out.size _).grown HG'.out (by have := HB2.out.size; simp; omega) (fun r hr => Row.own _ ROW3.out r hr), by rw [runD_succ, ← List.append_assoc, ← HL.out]; exact HR'.out⟩
          case measure => simp [intOf]; omega
        · have hd : decide ((j : Int) + 1 ≤ q) = false := decide_eq_false hle
          have hjq : j = q.toNat := by omega
          subst hjq
          go_wp2
          go_roundw
          case rel => exact ⟨k + 1, by simp, hlt, HB2.out, by rw [take_snoc E0.out, dotsV_snoc]; exact ROW2.out⟩
          case measure => simp [intOf]; omega
    · have hfull : c.1.take k = c.1 := List.take_of_length_le (by have := LN.out; omega)
      rw [hfull] at ROW
      obtain ⟨L, hL⟩ : ∃ L, L = dotsV c.1 := ⟨_, rfl⟩
      rw [← hL] at ROW
      have LL := Lib.hid (show L.length ≤ 60 * 12 by rw [hL]; have h1 := dotsV_len c.1 SM.out.2.2.1; have h2 := SM.out.1; omega)
      have HL := Lib.hid hL
      clear hL hfull
      have DK := Lib.hid BCr.out.con.k
      go_wp2_with (at_builtin; refine wpList_app (B := W.heap.size) (l := L) (k := c.2) rfl rfl Try.underlying28 rfl rfl ROW.out DK.out (by have := LL.out; have := SM.out.2.1; omega) HBW.out.size ?_; intro v' w' hr' hg'; have HR' := Lib.hid hr'; have HG' := Lib.hid hg'; clear hr' hg'; simp only [Act.put, List.setIfInBounds_toArray, List.set_cons_zero, List.set_cons_succ])
      go_ret
      exact ⟨_, rfl, HB.out.le (HBW.out.grown HG'.out HBW.out.size (fun r hr => Row.own _ ROW.out r hr)), Row.low (by unfold dotsS; rw [← HL.out]; exact HR'.out) (by rw [HZ.out]; omega)⟩
theorem entDots : Enters Try.prog 32 := enters_of Try.func32 (by kernel_rfl) rfl
/-- Its dots are those that are in it. -/
theorem mem_runD {d e : Dot} {j : Nat} : e ∈ runD d j ↔ e.1 = d.1 ∧ 1 ≤ e.2 ∧ e.2 ≤ j := by
  unfold runD
  rw [List.mem_map]
  constructor
  · rintro ⟨i, hi, rfl⟩
    have := List.mem_range.1 hi
    exact ⟨rfl, by show 1 ≤ (i : Int) + 1; omega, by show (i : Int) + 1 ≤ j; omega⟩
  · rintro ⟨h1, h2, h3⟩
    obtain ⟨a, b⟩ := e
    have h1 : a = d.1 := h1
    have h2 : 1 ≤ b := h2
    have h3 : b ≤ j := h3
    exact ⟨(b - 1).toNat, List.mem_range.2 (by omega), by rw [h1]; congr 1; omega⟩
theorem mem_dots {c : Ctx} (h : Ok c) {d : Dot} : d ∈ dotsS c ↔ In c d := by
  unfold dotsS dotsV
  rw [List.mem_append, List.mem_flatMap]
  constructor
  · rintro (⟨e, he, hd⟩ | hd)
    · obtain ⟨h1, h2, h3⟩ := mem_runD.1 hd
      have hv := validD_iff.1 (validL_mem h.vec he)
      have hg := getV_mem h.inc he
      refine ⟨validD_iff.2 ⟨by omega, by omega, h2, by omega⟩, .inl ?_⟩
      rw [h1, hg]; omega
    · exact ⟨validL_mem h.dots hd, .inr hd⟩
  · rintro ⟨hv, hd | hd⟩
    · have hv' := validD_iff.1 hv
      by_cases hr : ∃ e ∈ c.1, e.1 = d.1
      · obtain ⟨e, he, hee⟩ := hr
        rw [← hee, getV_mem h.inc he] at hd
        exact .inl ⟨e, he, mem_runD.2 ⟨hee.symm, hv'.2.2.1, by omega⟩⟩
      · rw [getV_zero (fun a ha e => hr ⟨a, ha, e⟩)] at hd
        omega
    · exact .inr hd
end Go.Proofs.Ytjbakmmmgejhlaa

/-
  The statements' model of a session: visit.
-/
namespace Go.Proofs.Ytjbakmmmgejhlaa
open Go.RowKit

abbrev Mo := List Dot × List Dot
def brokM (m : Mo) (v : Vis) : Int := (if m.2.all (hasC v.x) then 0 else if v.w then 8 else 1) + (if m.1.all (hasC v.x) then 0 else if v.w then 4 else 2)
def stepM (m : Mo) (v : Vis) : Mo := if v.w then (m.1, m.2 ++ [v.d]) else (m.1 ++ dotsS v.x, m.2)
theorem wpList_store {P : Program} {Q : Exit → Act → World → Prop} {ops : Array Oper} {rest : List Oper} {o : Oper} {a : Act} {w w' : World} {ty : TypeId} {x y : Operand} {p v : Value} (hg : o.guard = none) (ho : o.op = .store ty x y) (hd : o.dst = none) (hx : a.eval x = p) (hy : a.eval y = v) (e : (Instr.storeAt ty p v).run P w = .ok () w') (h : wpList P ops Q rest a w') : wpList P ops Q (o :: rest) a w :=
  wpList_plain hg fun _ hK => wp_store_to ho hd hx hy e (hK _ _ h)
theorem wpList_nilc {P : Program} {Q : Exit → Act → World → Prop} {ops : Array Oper} {rest : List Oper} {o : Oper} {a : Act} {w : World} {x : Operand} {d : Tmp} {p : Addr} (hg : o.guard = none) (ho : o.op = .nilCheck x) (hd : o.dst = some d) (hx : a.eval x = .pointer (some p)) (h : wpList P ops Q rest (a.put (some d) (.pointer (some p))) w) : wpList P ops Q (o :: rest) a w := by
  refine wpList_plain hg fun K hK => ?_
  unfold Oper.wp
  generalize a.eval = ρ at hx
  have : (execOp ρ o).run P w = .ok (.value (.pointer (some p))) w := by simp [execOp, ho, hx]
  rw [this]
  show K (a.put o.dst _) w
  rw [hd]; exact hK _ _ h
theorem wpList_field {P : Program} {Q : Exit → Act → World → Prop} {ops : Array Oper} {rest : List Oper} {o : Oper} {a : Act} {w : World} {x : Operand} {d : Tmp} {p r : Value} {ty : TypeId} {f : Nat} (hg : o.guard = none) (ho : o.op = .fieldAddr ty x f) (hd : o.dst = some d) (hx : a.eval x = p) (e : (Instr.fieldAt ty p f).run P w = .ok r w) (h : wpList P ops Q rest (a.put (some d) r) w) : wpList P ops Q (o :: rest) a w := by
  refine wpList_plain hg fun K hK => ?_
  unfold Oper.wp
  generalize a.eval = ρ at hx
  have : (execOp ρ o).run P w = .ok (.value r) w := by simp [execOp, ho, hx, e]
  rw [this]
  show K (a.put o.dst _) w
  rw [hd]; exact hK _ _ h
/-- A model in the heap. -/
def ModAt (M : Nat) (m : Mo) (w : World) : Prop := ∃ A n c B k d, w.cell? ⟨M, 0, none⟩ = some (.slice A n c) ∧ w.cell? ⟨M, 1, none⟩ = some (.slice B k d) ∧ Dots w A n c m.1 ∧ Dots w B k d m.2 ∧ (∀ o, w.frozen? ⟨M, o, none⟩ = false) ∧ NoInt w M
section
variable {M N : Nat} {m : Mo} {w w1 : World}
theorem ModAt.size (h : ModAt M m w) : M < w.heap.size := let ⟨_, _, _, _, _, _, c, _⟩ := h; World.block_lt_of_cell? w _ c
theorem ModAt.ni (h : ModAt M m w) : NoInt w M := let ⟨_, _, _, _, _, _, _, _, _, _, _, n⟩ := h; n
theorem ModAt.mono (h : ModAt M m w) (hb : Below w.heap.size w w1) : ModAt M m w1 := by
  have hz := h.size
  obtain ⟨A, n, c, B, k, d, c0, c1, d0, d1, f, ni⟩ := h
  exact ⟨A, n, c, B, k, d, cellKeep hb c0, cellKeep hb c1, d0.mono hb, d1.mono hb, fun o => (hb.frozen (p := ⟨M, o, none⟩) hz).trans (f o), ni.mono hb hz⟩
theorem ModAt.hole (h : ModAt M m w) (ni : NoInt w N) (hh : Hole N w w1) (hn : M ≠ N) : ModAt M m w1 := by
  have hz := h.size
  obtain ⟨A, n, c, B, k, d, c0, c1, d0, d1, f, nM⟩ := h
  exact ⟨A, n, c, B, k, d, hh.keep (p := ⟨M, 0, none⟩) hn c0, hh.keep (p := ⟨M, 1, none⟩) hn c1, d0.hole ni hh, d1.hole ni hh, fun o => (hh.frozen (p := ⟨M, o, none⟩) hz hn).trans (f o), nM.hole hh hz hn⟩
theorem ModAt.new (w : World) : ModAt w.heap.size ([], []) (w.alloc (.cells #[.slice none 0 0, .slice none 0 0] 38)) :=
  ⟨none, 0, 0, none, 0, 0, by simp [go_sem], by simp [go_sem], Dots.nil_, Dots.nil_, fun o => by simp [go_sem], fun o x e => by
    simp only [World.cell?, World.alloc] at e
    simp at e
    match o, e with
    | 0, e => simp at e
    | 1, e => simp at e
    | n + 2, e => simp at e⟩
theorem field_mod0 {b o : Nat} {w : World} : (Instr.fieldAt 38 (.pointer (some ⟨b, o, none⟩)) 0).run Try.prog w = .ok (.pointer (some ⟨b, o, none⟩)) w := by simp [go_sem]
theorem field_mod1 {b o : Nat} {w : World} : (Instr.fieldAt 38 (.pointer (some ⟨b, o, none⟩)) 1).run Try.prog w = .ok (.pointer (some ⟨b, o + 1, none⟩)) w := by simp [go_sem]
theorem field_vis2 {b o : Nat} {w : World} : (Instr.fieldAt 33 (.pointer (some ⟨b, o, none⟩)) 2).run Try.prog w = .ok (.pointer (some ⟨b, o + 2, none⟩)) w := by simp [go_sem]
theorem field_vis3 {b o : Nat} {w : World} : (Instr.fieldAt 33 (.pointer (some ⟨b, o, none⟩)) 3).run Try.prog w = .ok (.pointer (some ⟨b, o + 4, none⟩)) w := by simp [go_sem]
theorem load_sl {A : Option Addr} {n c b o : Nat} {w0 w : World} (hb : Below w0.heap.size w0 w) (h : w0.cell? ⟨b, o, none⟩ = some (.slice A n c)) : (Instr.loadAt 28 (.pointer (some ⟨b, o, none⟩))).run Try.prog w = .ok (.slice A n c) w := by
  have c1 := cellKeep hb h
  simp [go_sem, c1]
theorem VisAt.loadX {b o n ca k cb : Nat} {A B : Option Addr} {v : Vis} {w w1 : World} {u : Value} (h : VisAt b o A n ca B k cb v w) (hb : Below w.heap.size w w1) (hu : Is (.pointer (some ⟨b, o + 4, none⟩)) w1 u) : ∃ r, (Instr.loadAt 31 u).run Try.prog w1 = .ok r w1 ∧ IsCon v.x w1 r := by
  cases hu
  exact ⟨_, load_con hb h.c4 h.c5, A, n, ca, B, k, cb, rfl, h.con.mono hb⟩
theorem withinL {A : Option Addr} {n c : Nat} {l : List Dot} {x : Ctx} {w0 w : World} {u v : Value} (hu : Is (.slice A n c) w u) (hd : Dots w0 A n c l) (hb : Below w0.heap.size w0 w) (hv : IsCon x w v) (r : Bool) (hr : l.all (hasC x) = r) :
    Calls Try.prog 31 #[u, v] w (Ret w (IsB r)) := by
  cases hu; subst hr
  obtain ⟨A2, n2, ca2, B2, m2, cb2, rfl, hc⟩ := hv
  exact sWithin A A2 B2 n c n2 ca2 m2 cb2 l x w (hd.mono hb) hc
theorem entWithinL : Enters Try.prog 31 := enters_of Try.func31 (by kernel_rfl) rfl
end
theorem smallI {c : Ctx} {w : World} {u : Value} (hu : IsCon c w u) (r : Bool) (hr : smallB c = r) : Calls Try.prog 9 #[u] w (Ret w (IsB r)) := by
  obtain ⟨A, n, ca, B, m, cb, rfl, hc⟩ := hu
  subst hr
  exact sSmall A B n ca m cb c w hc
def VPost (M : Nat) (m : Mo) (w : World) (g : Int) (e : Ending) (w' : World) : Prop := e = .returned (.int .i64 g) ∧ Hole M w w' ∧ ModAt M m w'
theorem dotsI {x : Ctx} {w : World} {v : Value} {B : Nat} (hB : B ≤ w.heap.size) (hv : IsCon x w v) (hs : smallB x = true) : Calls Try.prog 32 #[v] w (Ret w (IsRow B (dotsS x))) := by
  obtain ⟨A2, n2, ca2, B2, m2, cb2, rfl, hc⟩ := hv
  exact (sdots A2 B2 n2 ca2 m2 cb2 x w hc hs).mono fun _ _ ⟨u, e, hb, hr⟩ => ⟨u, e, hb, Row.low hr hB⟩
set_option maxRecDepth 100000 in
set_option maxHeartbeats 8000000 in
theorem visit_true (M : Nat) (A B : Option Addr) (n ca k cb : Nat) (m : Mo) (cl p q : Int) (x : Ctx) (w : World) (hm : ModAt M m w) (hc : Con w A n ca B k cb x) (sx : smallB x = true) (l1 : m.1.length ≤ 100000) (l2 : m.2.length ≤ 100000) :
    Calls Try.prog 12 #[.pointer (some ⟨M, 0, none⟩), visV ⟨cl, true, (p, q), x⟩ A n ca B k cb] w (VPost M (stepM m ⟨cl, true, (p, q), x⟩) w (brokM m ⟨cl, true, (p, q), x⟩)) := by
  obtain ⟨W, hWdef⟩ : ∃ W, W = w.alloc (visBox ⟨cl, true, (p, q), x⟩ A n ca B k cb) := ⟨_, rfl⟩
  have hb0 : Below w.heap.size w W := by rw [hWdef]; go_grown
  have va : VisAt w.heap.size 0 A n ca B k cb ⟨cl, true, (p, q), x⟩ W := by rw [hWdef]; exact VisAt.new hc
  have MM := Lib.hid (hm.mono hb0); have VA := Lib.hid va; have HH := Lib.hid (Hole.of (N := M) hb0); have DEF := Lib.hid hWdef; have SX := Lib.hid sx
  have L1 := Lib.hid (show m.1.length ≤ 1000000000 by omega); have L2 := Lib.hid (show m.2.length ≤ 1000000000 by omega); have L3 := Lib.hid l2; have L4 := Lib.hid l1
  obtain ⟨b1, h1⟩ : ∃ b1, m.2.all (hasC x) = b1 := ⟨_, rfl⟩
  obtain ⟨b2, h2⟩ : ∃ b2, m.1.all (hasC x) = b2 := ⟨_, rfl⟩
  have H1 := Lib.hid h1; have H2 := Lib.hid h2
  clear hb0 va hWdef hm hc sx l1 l2 h1 h2
  obtain ⟨A1, n1, ca1, B1, m1, cb1, c0, c1, k0, k1, fz, ni⟩ := MM.out
  have C0 := Lib.hid c0; have C1 := Lib.hid c1; have K0 := Lib.hid k0; have K1 := Lib.hid k1; have FZ := Lib.hid fz; have NI := Lib.hid ni
  clear c0 c1 k0 k1 fz ni
  go_enter Try.func12, Try.ntmps12
  go_wp2_with fail
  rw [← DEF.out]
  refine wp_region_M mixed (by kernel_rfl) ?_
  refine MDerR.step (Ob.move Wanted.free Has.oldIs) ?_
  refine MDerR.step (Ob.nilV Wanted.free (Has.new 0 0)) ?_
  refine MDerR.step (Ob.fieldV Wanted.free (Has.new 1 0) (fun w1 => field_mod1)) ?_
  refine MDerR.step (Ob.loadV Wanted.free (Has.new 2 0) (fun w1 hb1 => load_sl hb1 C1.out)) ?_
  refine MDerR.step (Ob.fieldV Wanted.free Has.oldIs (fun w1 => field_vis3)) ?_
  refine MDerR.step (Ob.load (F := IsCon x) Wanted.free (Has.new 4 0) (fun w1 v hb1 hv => VA.out.loadX hb1 hv)) ?_
  refine MDerR.step (Ob.call2 Wanted.free entWithinL (Has.new 3 2) (Has.new 5 0) (fun w1 u v hb1 (hu : Is (.slice B1 m1 cb1) w1 u) (hv : IsCon x w1 v) => withinL hu K1.out hb1 hv b1 H1.out)) ?_
  refine MDerR.step (Ob.not Wanted.free (Has.new 6 0)) ?_
  simp only [MDerR, dstsOf, List.map, EndM, List.reverse_cons, List.reverse_nil, List.nil_append, List.cons_append]
  intro wE hE
  iterate 5 (rintro _ rfl)
  rintro _ _h5
  iterate 2 (rintro _ rfl)
  simp only [Act.put, List.setIfInBounds_toArray, List.set_cons_zero, List.set_cons_succ]
  have MM2 := Lib.hid (MM.out.mono hE); have HH2 := Lib.hid (HH.out.le hE); have VA2 := Lib.hid (VA.out.mono hE)
  clear hE _h5 C0 C1 K0 K1 FZ NI MM HH VA DEF
  have MM := MM2; have HH := HH2; have VA := VA2
  clear MM2 HH2 VA2
  generalize wE = W1 at *
  obtain ⟨A1, n1, ca1, B1, m1, cb1, c0, c1, k0, k1, fz, ni⟩ := MM.out
  have C0 := Lib.hid c0; have C1 := Lib.hid c1; have K0 := Lib.hid k0; have K1 := Lib.hid k1; have FZ := Lib.hid fz; have NI := Lib.hid ni
  clear c0 c1 k0 k1 fz ni
  have H1' := H1.out
  cases b1 with
  | true =>
    have y1 := VA.out.c1
    go_wp2_with fail
    clear y1
    refine wp_region_M mixed (by kernel_rfl) ?_
    refine MDerR.step (Ob.move Wanted.free Has.oldIs) ?_
    refine MDerR.step (Ob.nilV Wanted.free (Has.new 0 0)) ?_
    refine MDerR.step (Ob.fieldV Wanted.free (Has.new 1 0) (fun w1 => field_mod0)) ?_
    refine MDerR.step (Ob.loadV Wanted.free (Has.new 2 0) (fun w1 hb1 => load_sl hb1 C0.out)) ?_
    refine MDerR.step (Ob.fieldV Wanted.free Has.oldIs (fun w1 => field_vis3)) ?_
    refine MDerR.step (Ob.load (F := IsCon x) Wanted.free (Has.new 4 0) (fun w1 v hb1 hv => VA.out.loadX hb1 hv)) ?_
    refine MDerR.step (Ob.call2 Wanted.free entWithinL (Has.new 3 2) (Has.new 5 0) (fun w1 u v hb1 (hu : Is (.slice A1 n1 ca1) w1 u) (hv : IsCon x w1 v) => withinL hu K0.out hb1 hv b2 H2.out)) ?_
    refine MDerR.step (Ob.not Wanted.free (Has.new 6 0)) ?_
    simp only [MDerR, dstsOf, List.map, EndM, List.reverse_cons, List.reverse_nil, List.nil_append, List.cons_append]
    intro wE hE
    iterate 5 (rintro _ rfl)
    rintro _ _h5
    iterate 2 (rintro _ rfl)
    simp only [Act.put, List.setIfInBounds_toArray, List.set_cons_zero, List.set_cons_succ]
    have MM2 := Lib.hid (MM.out.mono hE); have HH2 := Lib.hid (HH.out.le hE); have VA2 := Lib.hid (VA.out.mono hE)
    clear hE _h5 C0 C1 K0 K1 FZ NI MM HH VA
    have MM := MM2; have HH := HH2; have VA := VA2
    clear MM2 HH2 VA2
    generalize wE = W2 at *
    obtain ⟨A1, n1, ca1, B1, m1, cb1, c0, c1, k0, k1, fz, ni⟩ := MM.out
    have C0 := Lib.hid c0; have C1 := Lib.hid c1; have K0 := Lib.hid k0; have K1 := Lib.hid k1; have FZ := Lib.hid fz; have NI := Lib.hid ni
    clear c0 c1 k0 k1 fz ni
    have y1 := VA.out.c1
    have H2' := H2.out
    cases b2
    · skip
      go_wp2_with fail
      refine wp_region_any mixed ?_
      refine take_pure (i := 0) rfl rfl (by kernel_rfl) (fun _ _ _ h => h) (v := .pointer (some ⟨M, 0, none⟩)) (fun w => by simp [execOp, Act.eval]) ?_
      simp only [Act.put, List.setIfInBounds_toArray, List.set_cons_zero, List.set_cons_succ]
      refine wp_left [1, 2, 3, 4, 5, 6, 7, 8, 9, 10, 11, 12] 8 (by kernel_rfl) (by kernel_rfl) (by kernel_rfl) (by kernel_rfl) ?_
      refine MDerT.step (Ob.move Wanted.free Has.oldIs) ?_
      refine MDerT.step (Ob.nilV Wanted.free (Has.new 0 0)) ?_
      refine MDerT.step (Ob.fieldV Wanted.free (Has.new 1 0) (fun w1 => field_mod1)) ?_
      refine MDerT.step (Ob.loadV Wanted.free (Has.new 2 0) (fun w1 hb1 => load_sl (Below.ofDrew hb1) C1.out)) ?_
      refine MDerT.step (Ob.appNilV Wanted.free Try.underlying28 (Has.new 3 0) (fun w1 hb1 => K1.out.mono (Below.ofDrew hb1)) (L2.out)) ?_
      refine MDerT.step (Ob.fieldV Wanted.free Has.oldIs (fun w1 => field_vis2)) ?_
      refine MDerT.step (Ob.loadV Wanted.free (Has.new 5 0) (fun w1 hb1 => load_dot (Below.ofDrew hb1) VA.out.c2 VA.out.c3)) ?_
      refine MDerT.step (Ob.mkDots128 Wanted.free (Has.new 6 0)) ?_
      intro wE hE
      change EndM _ [some 37, some 38, some 39, some 40, some 41, some 42, some 43, some 44] _ _ _
      simp only [EndM, List.reverse_cons, List.reverse_nil, List.nil_append, List.cons_append]
      iterate 4 (rintro _ rfl)
      rintro _ r5
      iterate 2 (rintro _ rfl)
      rintro _ ⟨A8, n8, c8, rfl, d8⟩
      simp only [Act.put, List.setIfInBounds_toArray, List.set_cons_zero, List.set_cons_succ]
      replace hE := Below.ofDrew hE
      have hsz := hE.size
      refine wpList_app (B := W2.heap.size) rfl rfl Try.underlying28 rfl rfl r5 d8 (by have := L3.out; simp; omega) hsz ?_
      intro v' w' hr' hg'
      have b6 : Below W2.heap.size W2 w' := hE.grown hg' hsz (fun q hq => Row.own _ r5 q hq)
      obtain ⟨A9, n9, c9, rfl, d9⟩ := IsRow.dots hr'
      change wpList _ _ _ _ (Act.put _ (some 45) (.slice A9 n9 c9)) w'
      simp only [Act.put, List.setIfInBounds_toArray, List.set_cons_zero, List.set_cons_succ]
      have x1 := cellKeep b6 C1.out
      have fz1 : w'.frozen? ⟨M, 1, none⟩ = false := (b6.frozen (p := ⟨M, 1, none⟩) MM.out.size).trans (FZ.out 1)
      have HHW := Lib.hid (HH.out.le b6)
      have C09 := Lib.hid (cellKeep b6 C0.out); have X1 := Lib.hid x1; have K09 := Lib.hid (K0.out.mono b6); have NI9 := Lib.hid (NI.out.mono b6 MM.out.size); have D9 := Lib.hid d9
      have FZ9 := Lib.hid (show ∀ o, w'.frozen? ⟨M, o, none⟩ = false from fun o => (b6.frozen (p := ⟨M, o, none⟩) MM.out.size).trans (FZ.out o))
      clear hr' hg' r5 d8 hE hsz b6 d9
      refine wpList_nilc (d := 46) (p := ⟨M, 0, none⟩) rfl rfl rfl rfl ?_
      simp only [Act.put, List.setIfInBounds_toArray, List.set_cons_zero, List.set_cons_succ]
      refine wpList_field (d := 47) (r := .pointer (some ⟨M, 1, none⟩)) rfl rfl rfl rfl field_mod1 ?_
      simp only [Act.put, List.setIfInBounds_toArray, List.set_cons_zero, List.set_cons_succ]
      refine wpList_store (p := .pointer (some ⟨M, 1, none⟩)) (v := .slice A9 n9 c9) (w' := w'.setCell ⟨M, 1, none⟩ (.slice A9 n9 c9)) rfl rfl rfl rfl rfl (by simp [go_sem, x1, fz1]) ?_
      refine wpList_nil ?_
      generalize HHW2 : w'.setCell ⟨M, 1, none⟩ (.slice A9 n9 c9) = wS
      have HS := Lib.hid HHW2
      clear HHW2 x1 fz1
      go_wp2
      go_ret
      rw [← HS.out]
      refine ⟨by simp [brokM, *], HHW.out.set_ 1 _, ?_⟩
      exact ⟨A1, n1, ca1, A9, n9, c9, cell_far (by simp) C09.out, cell_set X1.out, K09.out.setO (K09.out.noInt NI9.out) _, D9.out.setO (D9.out.noInt NI9.out) _, fun o => (World.frozen?_setCell _ _ _ _).trans (FZ9.out o), NoInt.set_ X1.out NI9.out⟩
    · skip
      go_wp2_with fail
      refine wp_region_any mixed ?_
      refine take_pure (i := 0) rfl rfl (by kernel_rfl) (fun _ _ _ h => h) (v := .pointer (some ⟨M, 0, none⟩)) (fun w => by simp [execOp, Act.eval]) ?_
      simp only [Act.put, List.setIfInBounds_toArray, List.set_cons_zero, List.set_cons_succ]
      refine wp_left [1, 2, 3, 4, 5, 6, 7, 8, 9, 10, 11, 12] 8 (by kernel_rfl) (by kernel_rfl) (by kernel_rfl) (by kernel_rfl) ?_
      refine MDerT.step (Ob.move Wanted.free Has.oldIs) ?_
      refine MDerT.step (Ob.nilV Wanted.free (Has.new 0 0)) ?_
      refine MDerT.step (Ob.fieldV Wanted.free (Has.new 1 0) (fun w1 => field_mod1)) ?_
      refine MDerT.step (Ob.loadV Wanted.free (Has.new 2 0) (fun w1 hb1 => load_sl (Below.ofDrew hb1) C1.out)) ?_
      refine MDerT.step (Ob.appNilV Wanted.free Try.underlying28 (Has.new 3 0) (fun w1 hb1 => K1.out.mono (Below.ofDrew hb1)) (L2.out)) ?_
      refine MDerT.step (Ob.fieldV Wanted.free Has.oldIs (fun w1 => field_vis2)) ?_
      refine MDerT.step (Ob.loadV Wanted.free (Has.new 5 0) (fun w1 hb1 => load_dot (Below.ofDrew hb1) VA.out.c2 VA.out.c3)) ?_
      refine MDerT.step (Ob.mkDots128 Wanted.free (Has.new 6 0)) ?_
      intro wE hE
      change EndM _ [some 37, some 38, some 39, some 40, some 41, some 42, some 43, some 44] _ _ _
      simp only [EndM, List.reverse_cons, List.reverse_nil, List.nil_append, List.cons_append]
      iterate 4 (rintro _ rfl)
      rintro _ r5
      iterate 2 (rintro _ rfl)
      rintro _ ⟨A8, n8, c8, rfl, d8⟩
      simp only [Act.put, List.setIfInBounds_toArray, List.set_cons_zero, List.set_cons_succ]
      replace hE := Below.ofDrew hE
      have hsz := hE.size
      refine wpList_app (B := W2.heap.size) rfl rfl Try.underlying28 rfl rfl r5 d8 (by have := L3.out; simp; omega) hsz ?_
      intro v' w' hr' hg'
      have b6 : Below W2.heap.size W2 w' := hE.grown hg' hsz (fun q hq => Row.own _ r5 q hq)
      obtain ⟨A9, n9, c9, rfl, d9⟩ := IsRow.dots hr'
      change wpList _ _ _ _ (Act.put _ (some 45) (.slice A9 n9 c9)) w'
      simp only [Act.put, List.setIfInBounds_toArray, List.set_cons_zero, List.set_cons_succ]
      have x1 := cellKeep b6 C1.out
      have fz1 : w'.frozen? ⟨M, 1, none⟩ = false := (b6.frozen (p := ⟨M, 1, none⟩) MM.out.size).trans (FZ.out 1)
      have HHW := Lib.hid (HH.out.le b6)
      have C09 := Lib.hid (cellKeep b6 C0.out); have X1 := Lib.hid x1; have K09 := Lib.hid (K0.out.mono b6); have NI9 := Lib.hid (NI.out.mono b6 MM.out.size); have D9 := Lib.hid d9
      have FZ9 := Lib.hid (show ∀ o, w'.frozen? ⟨M, o, none⟩ = false from fun o => (b6.frozen (p := ⟨M, o, none⟩) MM.out.size).trans (FZ.out o))
      clear hr' hg' r5 d8 hE hsz b6 d9
      refine wpList_nilc (d := 46) (p := ⟨M, 0, none⟩) rfl rfl rfl rfl ?_
      simp only [Act.put, List.setIfInBounds_toArray, List.set_cons_zero, List.set_cons_succ]
      refine wpList_field (d := 47) (r := .pointer (some ⟨M, 1, none⟩)) rfl rfl rfl rfl field_mod1 ?_
      simp only [Act.put, List.setIfInBounds_toArray, List.set_cons_zero, List.set_cons_succ]
      refine wpList_store (p := .pointer (some ⟨M, 1, none⟩)) (v := .slice A9 n9 c9) (w' := w'.setCell ⟨M, 1, none⟩ (.slice A9 n9 c9)) rfl rfl rfl rfl rfl (by simp [go_sem, x1, fz1]) ?_
      refine wpList_nil ?_
      generalize HHW2 : w'.setCell ⟨M, 1, none⟩ (.slice A9 n9 c9) = wS
      have HS := Lib.hid HHW2
      clear HHW2 x1 fz1
      go_wp2
      go_ret
      rw [← HS.out]
      refine ⟨by simp [brokM, *], HHW.out.set_ 1 _, ?_⟩
      exact ⟨A1, n1, ca1, A9, n9, c9, cell_far (by simp) C09.out, cell_set X1.out, K09.out.setO (K09.out.noInt NI9.out) _, D9.out.setO (D9.out.noInt NI9.out) _, fun o => (World.frozen?_setCell _ _ _ _).trans (FZ9.out o), NoInt.set_ X1.out NI9.out⟩
  | false =>
    have y1 := VA.out.c1
    go_wp2_with fail
    clear y1
    refine wp_region_M mixed (by kernel_rfl) ?_
    refine MDerR.step (Ob.move Wanted.free Has.oldIs) ?_
    refine MDerR.step (Ob.nilV Wanted.free (Has.new 0 0)) ?_
    refine MDerR.step (Ob.fieldV Wanted.free (Has.new 1 0) (fun w1 => field_mod0)) ?_
    refine MDerR.step (Ob.loadV Wanted.free (Has.new 2 0) (fun w1 hb1 => load_sl hb1 C0.out)) ?_
    refine MDerR.step (Ob.fieldV Wanted.free Has.oldIs (fun w1 => field_vis3)) ?_
    refine MDerR.step (Ob.load (F := IsCon x) Wanted.free (Has.new 4 0) (fun w1 v hb1 hv => VA.out.loadX hb1 hv)) ?_
    refine MDerR.step (Ob.call2 Wanted.free entWithinL (Has.new 3 2) (Has.new 5 0) (fun w1 u v hb1 (hu : Is (.slice A1 n1 ca1) w1 u) (hv : IsCon x w1 v) => withinL hu K0.out hb1 hv b2 H2.out)) ?_
    refine MDerR.step (Ob.not Wanted.free (Has.new 6 0)) ?_
    simp only [MDerR, dstsOf, List.map, EndM, List.reverse_cons, List.reverse_nil, List.nil_append, List.cons_append]
    intro wE hE
    iterate 5 (rintro _ rfl)
    rintro _ _h5
    iterate 2 (rintro _ rfl)
    simp only [Act.put, List.setIfInBounds_toArray, List.set_cons_zero, List.set_cons_succ]
    have MM2 := Lib.hid (MM.out.mono hE); have HH2 := Lib.hid (HH.out.le hE); have VA2 := Lib.hid (VA.out.mono hE)
    clear hE _h5 C0 C1 K0 K1 FZ NI MM HH VA
    have MM := MM2; have HH := HH2; have VA := VA2
    clear MM2 HH2 VA2
    generalize wE = W2 at *
    obtain ⟨A1, n1, ca1, B1, m1, cb1, c0, c1, k0, k1, fz, ni⟩ := MM.out
    have C0 := Lib.hid c0; have C1 := Lib.hid c1; have K0 := Lib.hid k0; have K1 := Lib.hid k1; have FZ := Lib.hid fz; have NI := Lib.hid ni
    clear c0 c1 k0 k1 fz ni
    have y1 := VA.out.c1
    have H2' := H2.out
    cases b2
    · skip
      go_wp2_with fail
      refine wp_region_any mixed ?_
      refine take_pure (i := 0) rfl rfl (by kernel_rfl) (fun _ _ _ h => h) (v := .pointer (some ⟨M, 0, none⟩)) (fun w => by simp [execOp, Act.eval]) ?_
      simp only [Act.put, List.setIfInBounds_toArray, List.set_cons_zero, List.set_cons_succ]
      refine wp_left [1, 2, 3, 4, 5, 6, 7, 8, 9, 10, 11, 12] 8 (by kernel_rfl) (by kernel_rfl) (by kernel_rfl) (by kernel_rfl) ?_
      refine MDerT.step (Ob.move Wanted.free Has.oldIs) ?_
      refine MDerT.step (Ob.nilV Wanted.free (Has.new 0 0)) ?_
      refine MDerT.step (Ob.fieldV Wanted.free (Has.new 1 0) (fun w1 => field_mod1)) ?_
      refine MDerT.step (Ob.loadV Wanted.free (Has.new 2 0) (fun w1 hb1 => load_sl (Below.ofDrew hb1) C1.out)) ?_
      refine MDerT.step (Ob.appNilV Wanted.free Try.underlying28 (Has.new 3 0) (fun w1 hb1 => K1.out.mono (Below.ofDrew hb1)) (L2.out)) ?_
      refine MDerT.step (Ob.fieldV Wanted.free Has.oldIs (fun w1 => field_vis2)) ?_
      refine MDerT.step (Ob.loadV Wanted.free (Has.new 5 0) (fun w1 hb1 => load_dot (Below.ofDrew hb1) VA.out.c2 VA.out.c3)) ?_
      refine MDerT.step (Ob.mkDots128 Wanted.free (Has.new 6 0)) ?_
      intro wE hE
      change EndM _ [some 37, some 38, some 39, some 40, some 41, some 42, some 43, some 44] _ _ _
      simp only [EndM, List.reverse_cons, List.reverse_nil, List.nil_append, List.cons_append]
      iterate 4 (rintro _ rfl)
      rintro _ r5
      iterate 2 (rintro _ rfl)
      rintro _ ⟨A8, n8, c8, rfl, d8⟩
      simp only [Act.put, List.setIfInBounds_toArray, List.set_cons_zero, List.set_cons_succ]
      replace hE := Below.ofDrew hE
      have hsz := hE.size
      refine wpList_app (B := W2.heap.size) rfl rfl Try.underlying28 rfl rfl r5 d8 (by have := L3.out; simp; omega) hsz ?_
      intro v' w' hr' hg'
      have b6 : Below W2.heap.size W2 w' := hE.grown hg' hsz (fun q hq => Row.own _ r5 q hq)
      obtain ⟨A9, n9, c9, rfl, d9⟩ := IsRow.dots hr'
      change wpList _ _ _ _ (Act.put _ (some 45) (.slice A9 n9 c9)) w'
      simp only [Act.put, List.setIfInBounds_toArray, List.set_cons_zero, List.set_cons_succ]
      have x1 := cellKeep b6 C1.out
      have fz1 : w'.frozen? ⟨M, 1, none⟩ = false := (b6.frozen (p := ⟨M, 1, none⟩) MM.out.size).trans (FZ.out 1)
      have HHW := Lib.hid (HH.out.le b6)
      have C09 := Lib.hid (cellKeep b6 C0.out); have X1 := Lib.hid x1; have K09 := Lib.hid (K0.out.mono b6); have NI9 := Lib.hid (NI.out.mono b6 MM.out.size); have D9 := Lib.hid d9
      have FZ9 := Lib.hid (show ∀ o, w'.frozen? ⟨M, o, none⟩ = false from fun o => (b6.frozen (p := ⟨M, o, none⟩) MM.out.size).trans (FZ.out o))
      clear hr' hg' r5 d8 hE hsz b6 d9
      refine wpList_nilc (d := 46) (p := ⟨M, 0, none⟩) rfl rfl rfl rfl ?_
      simp only [Act.put, List.setIfInBounds_toArray, List.set_cons_zero, List.set_cons_succ]
      refine wpList_field (d := 47) (r := .pointer (some ⟨M, 1, none⟩)) rfl rfl rfl rfl field_mod1 ?_
      simp only [Act.put, List.setIfInBounds_toArray, List.set_cons_zero, List.set_cons_succ]
      refine wpList_store (p := .pointer (some ⟨M, 1, none⟩)) (v := .slice A9 n9 c9) (w' := w'.setCell ⟨M, 1, none⟩ (.slice A9 n9 c9)) rfl rfl rfl rfl rfl (by simp [go_sem, x1, fz1]) ?_
      refine wpList_nil ?_
      generalize HHW2 : w'.setCell ⟨M, 1, none⟩ (.slice A9 n9 c9) = wS
      have HS := Lib.hid HHW2
      clear HHW2 x1 fz1
      go_wp2
      go_ret
      rw [← HS.out]
      refine ⟨by simp [brokM, *], HHW.out.set_ 1 _, ?_⟩
      exact ⟨A1, n1, ca1, A9, n9, c9, cell_far (by simp) C09.out, cell_set X1.out, K09.out.setO (K09.out.noInt NI9.out) _, D9.out.setO (D9.out.noInt NI9.out) _, fun o => (World.frozen?_setCell _ _ _ _).trans (FZ9.out o), NoInt.set_ X1.out NI9.out⟩
    · skip
      go_wp2_with fail
      refine wp_region_any mixed ?_
      refine take_pure (i := 0) rfl rfl (by kernel_rfl) (fun _ _ _ h => h) (v := .pointer (some ⟨M, 0, none⟩)) (fun w => by simp [execOp, Act.eval]) ?_
      simp only [Act.put, List.setIfInBounds_toArray, List.set_cons_zero, List.set_cons_succ]
      refine wp_left [1, 2, 3, 4, 5, 6, 7, 8, 9, 10, 11, 12] 8 (by kernel_rfl) (by kernel_rfl) (by kernel_rfl) (by kernel_rfl) ?_
      refine MDerT.step (Ob.move Wanted.free Has.oldIs) ?_
      refine MDerT.step (Ob.nilV Wanted.free (Has.new 0 0)) ?_
      refine MDerT.step (Ob.fieldV Wanted.free (Has.new 1 0) (fun w1 => field_mod1)) ?_
      refine MDerT.step (Ob.loadV Wanted.free (Has.new 2 0) (fun w1 hb1 => load_sl (Below.ofDrew hb1) C1.out)) ?_
      refine MDerT.step (Ob.appNilV Wanted.free Try.underlying28 (Has.new 3 0) (fun w1 hb1 => K1.out.mono (Below.ofDrew hb1)) (L2.out)) ?_
      refine MDerT.step (Ob.fieldV Wanted.free Has.oldIs (fun w1 => field_vis2)) ?_
      refine MDerT.step (Ob.loadV Wanted.free (Has.new 5 0) (fun w1 hb1 => load_dot (Below.ofDrew hb1) VA.out.c2 VA.out.c3)) ?_
      refine MDerT.step (Ob.mkDots128 Wanted.free (Has.new 6 0)) ?_
      intro wE hE
      change EndM _ [some 37, some 38, some 39, some 40, some 41, some 42, some 43, some 44] _ _ _
      simp only [EndM, List.reverse_cons, List.reverse_nil, List.nil_append, List.cons_append]
      iterate 4 (rintro _ rfl)
      rintro _ r5
      iterate 2 (rintro _ rfl)
      rintro _ ⟨A8, n8, c8, rfl, d8⟩
      simp only [Act.put, List.setIfInBounds_toArray, List.set_cons_zero, List.set_cons_succ]
      replace hE := Below.ofDrew hE
      have hsz := hE.size
      refine wpList_app (B := W2.heap.size) rfl rfl Try.underlying28 rfl rfl r5 d8 (by have := L3.out; simp; omega) hsz ?_
      intro v' w' hr' hg'
      have b6 : Below W2.heap.size W2 w' := hE.grown hg' hsz (fun q hq => Row.own _ r5 q hq)
      obtain ⟨A9, n9, c9, rfl, d9⟩ := IsRow.dots hr'
      change wpList _ _ _ _ (Act.put _ (some 45) (.slice A9 n9 c9)) w'
      simp only [Act.put, List.setIfInBounds_toArray, List.set_cons_zero, List.set_cons_succ]
      have x1 := cellKeep b6 C1.out
      have fz1 : w'.frozen? ⟨M, 1, none⟩ = false := (b6.frozen (p := ⟨M, 1, none⟩) MM.out.size).trans (FZ.out 1)
      have HHW := Lib.hid (HH.out.le b6)
      have C09 := Lib.hid (cellKeep b6 C0.out); have X1 := Lib.hid x1; have K09 := Lib.hid (K0.out.mono b6); have NI9 := Lib.hid (NI.out.mono b6 MM.out.size); have D9 := Lib.hid d9
      have FZ9 := Lib.hid (show ∀ o, w'.frozen? ⟨M, o, none⟩ = false from fun o => (b6.frozen (p := ⟨M, o, none⟩) MM.out.size).trans (FZ.out o))
      clear hr' hg' r5 d8 hE hsz b6 d9
      refine wpList_nilc (d := 46) (p := ⟨M, 0, none⟩) rfl rfl rfl rfl ?_
      simp only [Act.put, List.setIfInBounds_toArray, List.set_cons_zero, List.set_cons_succ]
      refine wpList_field (d := 47) (r := .pointer (some ⟨M, 1, none⟩)) rfl rfl rfl rfl field_mod1 ?_
      simp only [Act.put, List.setIfInBounds_toArray, List.set_cons_zero, List.set_cons_succ]
      refine wpList_store (p := .pointer (some ⟨M, 1, none⟩)) (v := .slice A9 n9 c9) (w' := w'.setCell ⟨M, 1, none⟩ (.slice A9 n9 c9)) rfl rfl rfl rfl rfl (by simp [go_sem, x1, fz1]) ?_
      refine wpList_nil ?_
      generalize HHW2 : w'.setCell ⟨M, 1, none⟩ (.slice A9 n9 c9) = wS
      have HS := Lib.hid HHW2
      clear HHW2 x1 fz1
      go_wp2
      go_ret
      rw [← HS.out]
      refine ⟨by simp [brokM, *], HHW.out.set_ 1 _, ?_⟩
      exact ⟨A1, n1, ca1, A9, n9, c9, cell_far (by simp) C09.out, cell_set X1.out, K09.out.setO (K09.out.noInt NI9.out) _, D9.out.setO (D9.out.noInt NI9.out) _, fun o => (World.frozen?_setCell _ _ _ _).trans (FZ9.out o), NoInt.set_ X1.out NI9.out⟩
set_option maxRecDepth 100000 in
set_option maxHeartbeats 8000000 in
theorem visit_false (M : Nat) (A B : Option Addr) (n ca k cb : Nat) (m : Mo) (cl p q : Int) (x : Ctx) (w : World) (hm : ModAt M m w) (hc : Con w A n ca B k cb x) (sx : smallB x = true) (l1 : m.1.length ≤ 100000) (l2 : m.2.length ≤ 100000) :
    Calls Try.prog 12 #[.pointer (some ⟨M, 0, none⟩), visV ⟨cl, false, (p, q), x⟩ A n ca B k cb] w (VPost M (stepM m ⟨cl, false, (p, q), x⟩) w (brokM m ⟨cl, false, (p, q), x⟩)) := by
  obtain ⟨W, hWdef⟩ : ∃ W, W = w.alloc (visBox ⟨cl, false, (p, q), x⟩ A n ca B k cb) := ⟨_, rfl⟩
  have hb0 : Below w.heap.size w W := by rw [hWdef]; go_grown
  have va : VisAt w.heap.size 0 A n ca B k cb ⟨cl, false, (p, q), x⟩ W := by rw [hWdef]; exact VisAt.new hc
  have MM := Lib.hid (hm.mono hb0); have VA := Lib.hid va; have HH := Lib.hid (Hole.of (N := M) hb0); have DEF := Lib.hid hWdef; have SX := Lib.hid sx
  have L1 := Lib.hid (show m.1.length ≤ 1000000000 by omega); have L2 := Lib.hid (show m.2.length ≤ 1000000000 by omega); have L3 := Lib.hid l2; have L4 := Lib.hid l1
  obtain ⟨b1, h1⟩ : ∃ b1, m.2.all (hasC x) = b1 := ⟨_, rfl⟩
  obtain ⟨b2, h2⟩ : ∃ b2, m.1.all (hasC x) = b2 := ⟨_, rfl⟩
  have H1 := Lib.hid h1; have H2 := Lib.hid h2
  clear hb0 va hWdef hm hc sx l1 l2 h1 h2
  obtain ⟨A1, n1, ca1, B1, m1, cb1, c0, c1, k0, k1, fz, ni⟩ := MM.out
  have C0 := Lib.hid c0; have C1 := Lib.hid c1; have K0 := Lib.hid k0; have K1 := Lib.hid k1; have FZ := Lib.hid fz; have NI := Lib.hid ni
  clear c0 c1 k0 k1 fz ni
  go_enter Try.func12, Try.ntmps12
  go_wp2_with fail
  rw [← DEF.out]
  refine wp_region_M mixed (by kernel_rfl) ?_
  refine MDerR.step (Ob.move Wanted.free Has.oldIs) ?_
  refine MDerR.step (Ob.nilV Wanted.free (Has.new 0 0)) ?_
  refine MDerR.step (Ob.fieldV Wanted.free (Has.new 1 0) (fun w1 => field_mod1)) ?_
  refine MDerR.step (Ob.loadV Wanted.free (Has.new 2 0) (fun w1 hb1 => load_sl hb1 C1.out)) ?_
  refine MDerR.step (Ob.fieldV Wanted.free Has.oldIs (fun w1 => field_vis3)) ?_
  refine MDerR.step (Ob.load (F := IsCon x) Wanted.free (Has.new 4 0) (fun w1 v hb1 hv => VA.out.loadX hb1 hv)) ?_
  refine MDerR.step (Ob.call2 Wanted.free entWithinL (Has.new 3 2) (Has.new 5 0) (fun w1 u v hb1 (hu : Is (.slice B1 m1 cb1) w1 u) (hv : IsCon x w1 v) => withinL hu K1.out hb1 hv b1 H1.out)) ?_
  refine MDerR.step (Ob.not Wanted.free (Has.new 6 0)) ?_
  simp only [MDerR, dstsOf, List.map, EndM, List.reverse_cons, List.reverse_nil, List.nil_append, List.cons_append]
  intro wE hE
  iterate 5 (rintro _ rfl)
  rintro _ _h5
  iterate 2 (rintro _ rfl)
  simp only [Act.put, List.setIfInBounds_toArray, List.set_cons_zero, List.set_cons_succ]
  have MM2 := Lib.hid (MM.out.mono hE); have HH2 := Lib.hid (HH.out.le hE); have VA2 := Lib.hid (VA.out.mono hE)
  clear hE _h5 C0 C1 K0 K1 FZ NI MM HH VA DEF
  have MM := MM2; have HH := HH2; have VA := VA2
  clear MM2 HH2 VA2
  generalize wE = W1 at *
  obtain ⟨A1, n1, ca1, B1, m1, cb1, c0, c1, k0, k1, fz, ni⟩ := MM.out
  have C0 := Lib.hid c0; have C1 := Lib.hid c1; have K0 := Lib.hid k0; have K1 := Lib.hid k1; have FZ := Lib.hid fz; have NI := Lib.hid ni
  clear c0 c1 k0 k1 fz ni
  have H1' := H1.out
  cases b1 with
  | true =>
    have y1 := VA.out.c1
    go_wp2_with fail
    clear y1
    refine wp_region_M mixed (by kernel_rfl) ?_
    refine MDerR.step (Ob.move Wanted.free Has.oldIs) ?_
    refine MDerR.step (Ob.nilV Wanted.free (Has.new 0 0)) ?_
    refine MDerR.step (Ob.fieldV Wanted.free (Has.new 1 0) (fun w1 => field_mod0)) ?_
    refine MDerR.step (Ob.loadV Wanted.free (Has.new 2 0) (fun w1 hb1 => load_sl hb1 C0.out)) ?_
    refine MDerR.step (Ob.fieldV Wanted.free Has.oldIs (fun w1 => field_vis3)) ?_
    refine MDerR.step (Ob.load (F := IsCon x) Wanted.free (Has.new 4 0) (fun w1 v hb1 hv => VA.out.loadX hb1 hv)) ?_
    refine MDerR.step (Ob.call2 Wanted.free entWithinL (Has.new 3 2) (Has.new 5 0) (fun w1 u v hb1 (hu : Is (.slice A1 n1 ca1) w1 u) (hv : IsCon x w1 v) => withinL hu K0.out hb1 hv b2 H2.out)) ?_
    refine MDerR.step (Ob.not Wanted.free (Has.new 6 0)) ?_
    simp only [MDerR, dstsOf, List.map, EndM, List.reverse_cons, List.reverse_nil, List.nil_append, List.cons_append]
    intro wE hE
    iterate 5 (rintro _ rfl)
    rintro _ _h5
    iterate 2 (rintro _ rfl)
    simp only [Act.put, List.setIfInBounds_toArray, List.set_cons_zero, List.set_cons_succ]
    have MM2 := Lib.hid (MM.out.mono hE); have HH2 := Lib.hid (HH.out.le hE); have VA2 := Lib.hid (VA.out.mono hE)
    clear hE _h5 C0 C1 K0 K1 FZ NI MM HH VA
    have MM := MM2; have HH := HH2; have VA := VA2
    clear MM2 HH2 VA2
    generalize wE = W2 at *
    obtain ⟨A1, n1, ca1, B1, m1, cb1, c0, c1, k0, k1, fz, ni⟩ := MM.out
    have C0 := Lib.hid c0; have C1 := Lib.hid c1; have K0 := Lib.hid k0; have K1 := Lib.hid k1; have FZ := Lib.hid fz; have NI := Lib.hid ni
    clear c0 c1 k0 k1 fz ni
    have y1 := VA.out.c1
    have H2' := H2.out
    cases b2
    · skip
      go_wp2_with fail
      refine wp_region_any mixed ?_
      refine take_pure (i := 0) rfl rfl (by kernel_rfl) (fun _ _ _ h => h) (v := .pointer (some ⟨M, 0, none⟩)) (fun w => by simp [execOp, Act.eval]) ?_
      simp only [Act.put, List.setIfInBounds_toArray, List.set_cons_zero, List.set_cons_succ]
      refine wp_left [1, 2, 3, 4, 5, 6, 7, 8, 9, 10, 11, 12] 8 (by kernel_rfl) (by kernel_rfl) (by kernel_rfl) (by kernel_rfl) ?_
      refine MDerT.step (Ob.move Wanted.free Has.oldIs) ?_
      refine MDerT.step (Ob.nilV Wanted.free (Has.new 0 0)) ?_
      refine MDerT.step (Ob.fieldV Wanted.free (Has.new 1 0) (fun w1 => field_mod0)) ?_
      refine MDerT.step (Ob.loadV Wanted.free (Has.new 2 0) (fun w1 hb1 => load_sl (Below.ofDrew hb1) C0.out)) ?_
      refine MDerT.step (Ob.appNilV Wanted.free Try.underlying28 (Has.new 3 0) (fun w1 hb1 => K0.out.mono (Below.ofDrew hb1)) (L1.out)) ?_
      refine MDerT.step (Ob.fieldV Wanted.free Has.oldIs (fun w1 => field_vis3)) ?_
      refine MDerT.step (Ob.load (F := IsCon x) Wanted.free (Has.new 5 0) (fun w1 v hb1 hv => VA.out.loadX (Below.ofDrew hb1) hv)) ?_
      refine MDerT.step (Ob.call1 Wanted.free entDots (Has.new 6 0) (fun w1 u hb1 (hu : IsCon x w1 u) => dotsI (B := W2.heap.size) (Below.ofDrew hb1).size hu SX.out)) ?_
      intro wE hE
      change EndM _ [some 49, some 50, some 51, some 52, some 53, some 54, some 55, some 56] _ _ _
      simp only [EndM, List.reverse_cons, List.reverse_nil, List.nil_append, List.cons_append]
      iterate 4 (rintro _ rfl)
      rintro _ r5
      iterate 1 (rintro _ rfl)
      rintro _ _h7
      rintro _ r8
      simp only [Act.put, List.setIfInBounds_toArray, List.set_cons_zero, List.set_cons_succ]
      replace hE := Below.ofDrew hE
      have hsz := hE.size
      obtain ⟨A8, n8, c8, rfl, d8⟩ := IsRow.dots r8
      refine wpList_app (B := W2.heap.size) rfl rfl Try.underlying28 rfl rfl r5 d8 (by have := L4.out; have := dotsS_len SX.out; omega) hsz ?_
      intro v' w' hr' hg'
      have b6 : Below W2.heap.size W2 w' := hE.grown hg' hsz (fun q hq => Row.own _ r5 q hq)
      obtain ⟨A9, n9, c9, rfl, d9⟩ := IsRow.dots hr'
      change wpList _ _ _ _ (Act.put _ (some 57) (.slice A9 n9 c9)) w'
      simp only [Act.put, List.setIfInBounds_toArray, List.set_cons_zero, List.set_cons_succ]
      have x1 := cellKeep b6 C0.out
      have fz1 : w'.frozen? ⟨M, 0, none⟩ = false := (b6.frozen (p := ⟨M, 0, none⟩) MM.out.size).trans (FZ.out 0)
      have HHW := Lib.hid (HH.out.le b6)
      have C19 := Lib.hid (cellKeep b6 C1.out); have X1 := Lib.hid x1; have K19 := Lib.hid (K1.out.mono b6); have NI9 := Lib.hid (NI.out.mono b6 MM.out.size); have D9 := Lib.hid d9
      have FZ9 := Lib.hid (show ∀ o, w'.frozen? ⟨M, o, none⟩ = false from fun o => (b6.frozen (p := ⟨M, o, none⟩) MM.out.size).trans (FZ.out o))
      clear hr' hg' r5 d8 r8 hE hsz b6 d9 _h7
      refine wpList_nilc (d := 58) (p := ⟨M, 0, none⟩) rfl rfl rfl rfl ?_
      simp only [Act.put, List.setIfInBounds_toArray, List.set_cons_zero, List.set_cons_succ]
      refine wpList_field (d := 59) (r := .pointer (some ⟨M, 0, none⟩)) rfl rfl rfl rfl field_mod0 ?_
      simp only [Act.put, List.setIfInBounds_toArray, List.set_cons_zero, List.set_cons_succ]
      refine wpList_store (p := .pointer (some ⟨M, 0, none⟩)) (v := .slice A9 n9 c9) (w' := w'.setCell ⟨M, 0, none⟩ (.slice A9 n9 c9)) rfl rfl rfl rfl rfl (by simp [go_sem, x1, fz1]) ?_
      refine wpList_nil ?_
      generalize HHW2 : w'.setCell ⟨M, 0, none⟩ (.slice A9 n9 c9) = wS
      have HS := Lib.hid HHW2
      clear HHW2 x1 fz1
      go_wp2
      go_ret
      rw [← HS.out]
      refine ⟨by simp [brokM, *], HHW.out.set_ 0 _, ?_⟩
      exact ⟨A9, n9, c9, B1, m1, cb1, cell_set X1.out, cell_far (by simp) C19.out, D9.out.setO (D9.out.noInt NI9.out) _, K19.out.setO (K19.out.noInt NI9.out) _, fun o => (World.frozen?_setCell _ _ _ _).trans (FZ9.out o), NoInt.set_ X1.out NI9.out⟩
    · skip
      go_wp2_with fail
      refine wp_region_any mixed ?_
      refine take_pure (i := 0) rfl rfl (by kernel_rfl) (fun _ _ _ h => h) (v := .pointer (some ⟨M, 0, none⟩)) (fun w => by simp [execOp, Act.eval]) ?_
      simp only [Act.put, List.setIfInBounds_toArray, List.set_cons_zero, List.set_cons_succ]
      refine wp_left [1, 2, 3, 4, 5, 6, 7, 8, 9, 10, 11, 12] 8 (by kernel_rfl) (by kernel_rfl) (by kernel_rfl) (by kernel_rfl) ?_
      refine MDerT.step (Ob.move Wanted.free Has.oldIs) ?_
      refine MDerT.step (Ob.nilV Wanted.free (Has.new 0 0)) ?_
      refine MDerT.step (Ob.fieldV Wanted.free (Has.new 1 0) (fun w1 => field_mod0)) ?_
      refine MDerT.step (Ob.loadV Wanted.free (Has.new 2 0) (fun w1 hb1 => load_sl (Below.ofDrew hb1) C0.out)) ?_
      refine MDerT.step (Ob.appNilV Wanted.free Try.underlying28 (Has.new 3 0) (fun w1 hb1 => K0.out.mono (Below.ofDrew hb1)) (L1.out)) ?_
      refine MDerT.step (Ob.fieldV Wanted.free Has.oldIs (fun w1 => field_vis3)) ?_
      refine MDerT.step (Ob.load (F := IsCon x) Wanted.free (Has.new 5 0) (fun w1 v hb1 hv => VA.out.loadX (Below.ofDrew hb1) hv)) ?_
      refine MDerT.step (Ob.call1 Wanted.free entDots (Has.new 6 0) (fun w1 u hb1 (hu : IsCon x w1 u) => dotsI (B := W2.heap.size) (Below.ofDrew hb1).size hu SX.out)) ?_
      intro wE hE
      change EndM _ [some 49, some 50, some 51, some 52, some 53, some 54, some 55, some 56] _ _ _
      simp only [EndM, List.reverse_cons, List.reverse_nil, List.nil_append, List.cons_append]
      iterate 4 (rintro _ rfl)
      rintro _ r5
      iterate 1 (rintro _ rfl)
      rintro _ _h7
      rintro _ r8
      simp only [Act.put, List.setIfInBounds_toArray, List.set_cons_zero, List.set_cons_succ]
      replace hE := Below.ofDrew hE
      have hsz := hE.size
      obtain ⟨A8, n8, c8, rfl, d8⟩ := IsRow.dots r8
      refine wpList_app (B := W2.heap.size) rfl rfl Try.underlying28 rfl rfl r5 d8 (by have := L4.out; have := dotsS_len SX.out; omega) hsz ?_
      intro v' w' hr' hg'
      have b6 : Below W2.heap.size W2 w' := hE.grown hg' hsz (fun q hq => Row.own _ r5 q hq)
      obtain ⟨A9, n9, c9, rfl, d9⟩ := IsRow.dots hr'
      change wpList _ _ _ _ (Act.put _ (some 57) (.slice A9 n9 c9)) w'
      simp only [Act.put, List.setIfInBounds_toArray, List.set_cons_zero, List.set_cons_succ]
      have x1 := cellKeep b6 C0.out
      have fz1 : w'.frozen? ⟨M, 0, none⟩ = false := (b6.frozen (p := ⟨M, 0, none⟩) MM.out.size).trans (FZ.out 0)
      have HHW := Lib.hid (HH.out.le b6)
      have C19 := Lib.hid (cellKeep b6 C1.out); have X1 := Lib.hid x1; have K19 := Lib.hid (K1.out.mono b6); have NI9 := Lib.hid (NI.out.mono b6 MM.out.size); have D9 := Lib.hid d9
      have FZ9 := Lib.hid (show ∀ o, w'.frozen? ⟨M, o, none⟩ = false from fun o => (b6.frozen (p := ⟨M, o, none⟩) MM.out.size).trans (FZ.out o))
      clear hr' hg' r5 d8 r8 hE hsz b6 d9 _h7
      refine wpList_nilc (d := 58) (p := ⟨M, 0, none⟩) rfl rfl rfl rfl ?_
      simp only [Act.put, List.setIfInBounds_toArray, List.set_cons_zero, List.set_cons_succ]
      refine wpList_field (d := 59) (r := .pointer (some ⟨M, 0, none⟩)) rfl rfl rfl rfl field_mod0 ?_
      simp only [Act.put, List.setIfInBounds_toArray, List.set_cons_zero, List.set_cons_succ]
      refine wpList_store (p := .pointer (some ⟨M, 0, none⟩)) (v := .slice A9 n9 c9) (w' := w'.setCell ⟨M, 0, none⟩ (.slice A9 n9 c9)) rfl rfl rfl rfl rfl (by simp [go_sem, x1, fz1]) ?_
      refine wpList_nil ?_
      generalize HHW2 : w'.setCell ⟨M, 0, none⟩ (.slice A9 n9 c9) = wS
      have HS := Lib.hid HHW2
      clear HHW2 x1 fz1
      go_wp2
      go_ret
      rw [← HS.out]
      refine ⟨by simp [brokM, *], HHW.out.set_ 0 _, ?_⟩
      exact ⟨A9, n9, c9, B1, m1, cb1, cell_set X1.out, cell_far (by simp) C19.out, D9.out.setO (D9.out.noInt NI9.out) _, K19.out.setO (K19.out.noInt NI9.out) _, fun o => (World.frozen?_setCell _ _ _ _).trans (FZ9.out o), NoInt.set_ X1.out NI9.out⟩
  | false =>
    have y1 := VA.out.c1
    go_wp2_with fail
    clear y1
    refine wp_region_M mixed (by kernel_rfl) ?_
    refine MDerR.step (Ob.move Wanted.free Has.oldIs) ?_
    refine MDerR.step (Ob.nilV Wanted.free (Has.new 0 0)) ?_
    refine MDerR.step (Ob.fieldV Wanted.free (Has.new 1 0) (fun w1 => field_mod0)) ?_
    refine MDerR.step (Ob.loadV Wanted.free (Has.new 2 0) (fun w1 hb1 => load_sl hb1 C0.out)) ?_
    refine MDerR.step (Ob.fieldV Wanted.free Has.oldIs (fun w1 => field_vis3)) ?_
    refine MDerR.step (Ob.load (F := IsCon x) Wanted.free (Has.new 4 0) (fun w1 v hb1 hv => VA.out.loadX hb1 hv)) ?_
    refine MDerR.step (Ob.call2 Wanted.free entWithinL (Has.new 3 2) (Has.new 5 0) (fun w1 u v hb1 (hu : Is (.slice A1 n1 ca1) w1 u) (hv : IsCon x w1 v) => withinL hu K0.out hb1 hv b2 H2.out)) ?_
    refine MDerR.step (Ob.not Wanted.free (Has.new 6 0)) ?_
    simp only [MDerR, dstsOf, List.map, EndM, List.reverse_cons, List.reverse_nil, List.nil_append, List.cons_append]
    intro wE hE
    iterate 5 (rintro _ rfl)
    rintro _ _h5
    iterate 2 (rintro _ rfl)
    simp only [Act.put, List.setIfInBounds_toArray, List.set_cons_zero, List.set_cons_succ]
    have MM2 := Lib.hid (MM.out.mono hE); have HH2 := Lib.hid (HH.out.le hE); have VA2 := Lib.hid (VA.out.mono hE)
    clear hE _h5 C0 C1 K0 K1 FZ NI MM HH VA
    have MM := MM2; have HH := HH2; have VA := VA2
    clear MM2 HH2 VA2
    generalize wE = W2 at *
    obtain ⟨A1, n1, ca1, B1, m1, cb1, c0, c1, k0, k1, fz, ni⟩ := MM.out
    have C0 := Lib.hid c0; have C1 := Lib.hid c1; have K0 := Lib.hid k0; have K1 := Lib.hid k1; have FZ := Lib.hid fz; have NI := Lib.hid ni
    clear c0 c1 k0 k1 fz ni
    have y1 := VA.out.c1
    have H2' := H2.out
    cases b2
    · skip
      go_wp2_with fail
      refine wp_region_any mixed ?_
      refine take_pure (i := 0) rfl rfl (by kernel_rfl) (fun _ _ _ h => h) (v := .pointer (some ⟨M, 0, none⟩)) (fun w => by simp [execOp, Act.eval]) ?_
      simp only [Act.put, List.setIfInBounds_toArray, List.set_cons_zero, List.set_cons_succ]
      refine wp_left [1, 2, 3, 4, 5, 6, 7, 8, 9, 10, 11, 12] 8 (by kernel_rfl) (by kernel_rfl) (by kernel_rfl) (by kernel_rfl) ?_
      refine MDerT.step (Ob.move Wanted.free Has.oldIs) ?_
      refine MDerT.step (Ob.nilV Wanted.free (Has.new 0 0)) ?_
      refine MDerT.step (Ob.fieldV Wanted.free (Has.new 1 0) (fun w1 => field_mod0)) ?_
      refine MDerT.step (Ob.loadV Wanted.free (Has.new 2 0) (fun w1 hb1 => load_sl (Below.ofDrew hb1) C0.out)) ?_
      refine MDerT.step (Ob.appNilV Wanted.free Try.underlying28 (Has.new 3 0) (fun w1 hb1 => K0.out.mono (Below.ofDrew hb1)) (L1.out)) ?_
      refine MDerT.step (Ob.fieldV Wanted.free Has.oldIs (fun w1 => field_vis3)) ?_
      refine MDerT.step (Ob.load (F := IsCon x) Wanted.free (Has.new 5 0) (fun w1 v hb1 hv => VA.out.loadX (Below.ofDrew hb1) hv)) ?_
      refine MDerT.step (Ob.call1 Wanted.free entDots (Has.new 6 0) (fun w1 u hb1 (hu : IsCon x w1 u) => dotsI (B := W2.heap.size) (Below.ofDrew hb1).size hu SX.out)) ?_
      intro wE hE
      change EndM _ [some 49, some 50, some 51, some 52, some 53, some 54, some 55, some 56] _ _ _
      simp only [EndM, List.reverse_cons, List.reverse_nil, List.nil_append, List.cons_append]
      iterate 4 (rintro _ rfl)
      rintro _ r5
      iterate 1 (rintro _ rfl)
      rintro _ _h7
      rintro _ r8
      simp only [Act.put, List.setIfInBounds_toArray, List.set_cons_zero, List.set_cons_succ]
      replace hE := Below.ofDrew hE
      have hsz := hE.size
      obtain ⟨A8, n8, c8, rfl, d8⟩ := IsRow.dots r8
      refine wpList_app (B := W2.heap.size) rfl rfl Try.underlying28 rfl rfl r5 d8 (by have := L4.out; have := dotsS_len SX.out; omega) hsz ?_
      intro v' w' hr' hg'
      have b6 : Below W2.heap.size W2 w' := hE.grown hg' hsz (fun q hq => Row.own _ r5 q hq)
      obtain ⟨A9, n9, c9, rfl, d9⟩ := IsRow.dots hr'
      change wpList _ _ _ _ (Act.put _ (some 57) (.slice A9 n9 c9)) w'
      simp only [Act.put, List.setIfInBounds_toArray, List.set_cons_zero, List.set_cons_succ]
      have x1 := cellKeep b6 C0.out
      have fz1 : w'.frozen? ⟨M, 0, none⟩ = false := (b6.frozen (p := ⟨M, 0, none⟩) MM.out.size).trans (FZ.out 0)
      have HHW := Lib.hid (HH.out.le b6)
      have C19 := Lib.hid (cellKeep b6 C1.out); have X1 := Lib.hid x1; have K19 := Lib.hid (K1.out.mono b6); have NI9 := Lib.hid (NI.out.mono b6 MM.out.size); have D9 := Lib.hid d9
      have FZ9 := Lib.hid (show ∀ o, w'.frozen? ⟨M, o, none⟩ = false from fun o => (b6.frozen (p := ⟨M, o, none⟩) MM.out.size).trans (FZ.out o))
      clear hr' hg' r5 d8 r8 hE hsz b6 d9 _h7
      refine wpList_nilc (d := 58) (p := ⟨M, 0, none⟩) rfl rfl rfl rfl ?_
      simp only [Act.put, List.setIfInBounds_toArray, List.set_cons_zero, List.set_cons_succ]
      refine wpList_field (d := 59) (r := .pointer (some ⟨M, 0, none⟩)) rfl rfl rfl rfl field_mod0 ?_
      simp only [Act.put, List.setIfInBounds_toArray, List.set_cons_zero, List.set_cons_succ]
      refine wpList_store (p := .pointer (some ⟨M, 0, none⟩)) (v := .slice A9 n9 c9) (w' := w'.setCell ⟨M, 0, none⟩ (.slice A9 n9 c9)) rfl rfl rfl rfl rfl (by simp [go_sem, x1, fz1]) ?_
      refine wpList_nil ?_
      generalize HHW2 : w'.setCell ⟨M, 0, none⟩ (.slice A9 n9 c9) = wS
      have HS := Lib.hid HHW2
      clear HHW2 x1 fz1
      go_wp2
      go_ret
      rw [← HS.out]
      refine ⟨by simp [brokM, *], HHW.out.set_ 0 _, ?_⟩
      exact ⟨A9, n9, c9, B1, m1, cb1, cell_set X1.out, cell_far (by simp) C19.out, D9.out.setO (D9.out.noInt NI9.out) _, K19.out.setO (K19.out.noInt NI9.out) _, fun o => (World.frozen?_setCell _ _ _ _).trans (FZ9.out o), NoInt.set_ X1.out NI9.out⟩
    · skip
      go_wp2_with fail
      refine wp_region_any mixed ?_
      refine take_pure (i := 0) rfl rfl (by kernel_rfl) (fun _ _ _ h => h) (v := .pointer (some ⟨M, 0, none⟩)) (fun w => by simp [execOp, Act.eval]) ?_
      simp only [Act.put, List.setIfInBounds_toArray, List.set_cons_zero, List.set_cons_succ]
      refine wp_left [1, 2, 3, 4, 5, 6, 7, 8, 9, 10, 11, 12] 8 (by kernel_rfl) (by kernel_rfl) (by kernel_rfl) (by kernel_rfl) ?_
      refine MDerT.step (Ob.move Wanted.free Has.oldIs) ?_
      refine MDerT.step (Ob.nilV Wanted.free (Has.new 0 0)) ?_
      refine MDerT.step (Ob.fieldV Wanted.free (Has.new 1 0) (fun w1 => field_mod0)) ?_
      refine MDerT.step (Ob.loadV Wanted.free (Has.new 2 0) (fun w1 hb1 => load_sl (Below.ofDrew hb1) C0.out)) ?_
      refine MDerT.step (Ob.appNilV Wanted.free Try.underlying28 (Has.new 3 0) (fun w1 hb1 => K0.out.mono (Below.ofDrew hb1)) (L1.out)) ?_
      refine MDerT.step (Ob.fieldV Wanted.free Has.oldIs (fun w1 => field_vis3)) ?_
      refine MDerT.step (Ob.load (F := IsCon x) Wanted.free (Has.new 5 0) (fun w1 v hb1 hv => VA.out.loadX (Below.ofDrew hb1) hv)) ?_
      refine MDerT.step (Ob.call1 Wanted.free entDots (Has.new 6 0) (fun w1 u hb1 (hu : IsCon x w1 u) => dotsI (B := W2.heap.size) (Below.ofDrew hb1).size hu SX.out)) ?_
      intro wE hE
      change EndM _ [some 49, some 50, some 51, some 52, some 53, some 54, some 55, some 56] _ _ _
      simp only [EndM, List.reverse_cons, List.reverse_nil, List.nil_append, List.cons_append]
      iterate 4 (rintro _ rfl)
      rintro _ r5
      iterate 1 (rintro _ rfl)
      rintro _ _h7
      rintro _ r8
      simp only [Act.put, List.setIfInBounds_toArray, List.set_cons_zero, List.set_cons_succ]
      replace hE := Below.ofDrew hE
      have hsz := hE.size
      obtain ⟨A8, n8, c8, rfl, d8⟩ := IsRow.dots r8
      refine wpList_app (B := W2.heap.size) rfl rfl Try.underlying28 rfl rfl r5 d8 (by have := L4.out; have := dotsS_len SX.out; omega) hsz ?_
      intro v' w' hr' hg'
      have b6 : Below W2.heap.size W2 w' := hE.grown hg' hsz (fun q hq => Row.own _ r5 q hq)
      obtain ⟨A9, n9, c9, rfl, d9⟩ := IsRow.dots hr'
      change wpList _ _ _ _ (Act.put _ (some 57) (.slice A9 n9 c9)) w'
      simp only [Act.put, List.setIfInBounds_toArray, List.set_cons_zero, List.set_cons_succ]
      have x1 := cellKeep b6 C0.out
      have fz1 : w'.frozen? ⟨M, 0, none⟩ = false := (b6.frozen (p := ⟨M, 0, none⟩) MM.out.size).trans (FZ.out 0)
      have HHW := Lib.hid (HH.out.le b6)
      have C19 := Lib.hid (cellKeep b6 C1.out); have X1 := Lib.hid x1; have K19 := Lib.hid (K1.out.mono b6); have NI9 := Lib.hid (NI.out.mono b6 MM.out.size); have D9 := Lib.hid d9
      have FZ9 := Lib.hid (show ∀ o, w'.frozen? ⟨M, o, none⟩ = false from fun o => (b6.frozen (p := ⟨M, o, none⟩) MM.out.size).trans (FZ.out o))
      clear hr' hg' r5 d8 r8 hE hsz b6 d9 _h7
      refine wpList_nilc (d := 58) (p := ⟨M, 0, none⟩) rfl rfl rfl rfl ?_
      simp only [Act.put, List.setIfInBounds_toArray, List.set_cons_zero, List.set_cons_succ]
      refine wpList_field (d := 59) (r := .pointer (some ⟨M, 0, none⟩)) rfl rfl rfl rfl field_mod0 ?_
      simp only [Act.put, List.setIfInBounds_toArray, List.set_cons_zero, List.set_cons_succ]
      refine wpList_store (p := .pointer (some ⟨M, 0, none⟩)) (v := .slice A9 n9 c9) (w' := w'.setCell ⟨M, 0, none⟩ (.slice A9 n9 c9)) rfl rfl rfl rfl rfl (by simp [go_sem, x1, fz1]) ?_
      refine wpList_nil ?_
      generalize HHW2 : w'.setCell ⟨M, 0, none⟩ (.slice A9 n9 c9) = wS
      have HS := Lib.hid HHW2
      clear HHW2 x1 fz1
      go_wp2
      go_ret
      rw [← HS.out]
      refine ⟨by simp [brokM, *], HHW.out.set_ 0 _, ?_⟩
      exact ⟨A9, n9, c9, B1, m1, cb1, cell_set X1.out, cell_far (by simp) C19.out, D9.out.setO (D9.out.noInt NI9.out) _, K19.out.setO (K19.out.noInt NI9.out) _, fun o => (World.frozen?_setCell _ _ _ _).trans (FZ9.out o), NoInt.set_ X1.out NI9.out⟩
end Go.Proofs.Ytjbakmmmgejhlaa

/-
  PLAIN: a session and the statements' model of it.
-/
namespace Go.Proofs.Ytjbakmmmgejhlaa
open Go.RowKit

def szC (c : Ctx) : Nat := c.1.length + c.2.length
theorem fold_total : ∀ (l : List Dot) (s : Ctx), szC (l.foldl stepC s) ≤ szC s + l.length
  | [], s => Nat.le_refl _
  | d :: t, s => by
    rw [List.foldl_cons, List.length_cons]
    have h1 := fold_total t (stepC s d)
    have h2 : szC (stepC s d) ≤ szC s + 1 := by
      unfold stepC szC
      split
      · omega
      · split
        · have := raiseV_length s.1 d; simp only; omega
        · simp only [List.length_append, List.length_cons, List.length_nil]; omega
    omega
theorem pass_total (c : Ctx) : szC (passC c) ≤ szC c := by
  have := fold_total c.2 (c.1, [])
  unfold passC
  unfold szC at *
  simp only [List.length_nil] at this
  omega
theorem union_total (a b : Ctx) : szC (unionC a b) ≤ szC a + szC b := by
  unfold unionC
  rw [compact_pass]
  have h1 := pass_total (mergeV a.1 b.1, unionD a.2 b.2)
  have h3 := mergeV_length b.1 a.1
  have h4 := unionD_length a.2 b.2
  unfold szC at *
  simp only at h1
  omega
theorem add_total (a : Ctx) (l : List Dot) : szC (addC a l) ≤ szC a + l.length := by
  unfold addC
  rw [compact_pass]
  have h1 := pass_total (a.1, unionD a.2 l)
  have h4 := unionD_length a.2 l
  unfold szC at *
  simp only at h1
  omega

/-- A visit that the statements' walks make. -/
structure Good (v : Vis) : Prop where
  ok : badS v = false
  sm : smallB v.x = true
theorem Good.valid {v : Vis} (h : Good v) : validC v.x = true := by
  have := h.ok
  simp only [badS, Bool.or_eq_false_iff, Bool.not_eq_false'] at this
  exact this.1
theorem Good.dot {v : Vis} (h : Good v) (hw : v.w = true) : validD v.d = true ∧ hasC v.x v.d = false := by
  have := h.ok
  simp only [badS, Bool.or_eq_false_iff, hw, Bool.true_and, Bool.not_eq_false'] at this
  exact this.2
theorem Good.size {v : Vis} (h : Good v) : szC v.x ≤ 24 := by
  obtain ⟨h1, h2, _⟩ := small_iff h.sm
  unfold szC; omega
/-- The session is in the state of the model. -/
structure AlikeS (s : St) (m : Mo) : Prop where
  t1 : Tight s.1
  t2 : Tight s.2
  e1 : ∀ d, In s.1 d ↔ d ∈ m.1
  e2 : ∀ d, In s.2 d ↔ d ∈ m.2
theorem tight_nil : Tight ([], []) := tight_iff.1 (by kernel_rfl)
theorem alike0 : AlikeS st0 ([], []) := ⟨tight_nil, tight_nil, fun _ => ⟨fun h => absurd h in_nil, fun h => nomatch h⟩, fun _ => ⟨fun h => absurd h in_nil, fun h => nomatch h⟩⟩
theorem AlikeS.step {s : St} {m : Mo} {v : Vis} (h : AlikeS s m) (g : Good v) : AlikeS (stepS s v) (stepM m v) := by
  unfold stepS stepM
  cases hw : v.w with
  | true =>
    obtain ⟨a1, a2⟩ := add_spec h.t2.ok (valid_one (g.dot hw).1)
    simp only [if_true]
    exact ⟨h.t1, a1, h.e1, fun d => by rw [a2, h.e2]; simp⟩
  | false =>
    have hx := ok_iff.1 g.valid
    obtain ⟨a1, a2⟩ := union_spec h.t1.ok hx
    simp only [Bool.false_eq_true, if_false]
    exact ⟨a1, h.t2, fun d => by rw [a2, h.e1, List.mem_append, mem_dots hx], h.e2⟩
theorem win_all {a x : Ctx} {l : List Dot} (ha : Ok a) (hx : Ok x) (h : ∀ d, In a d ↔ d ∈ l) (g : Int) : winS a x g = if l.all (hasC x) then 0 else g := by
  unfold winS
  have : inC a x = l.all (hasC x) := by
    rw [Bool.eq_iff_iff, inC_iff ha hx, List.all_eq_true]
    exact ⟨fun k d hd => in_iff.2 (k d ((h d).2 hd)), fun k d hd => in_iff.1 (k d ((h d).1 hd))⟩
  rw [this]
theorem AlikeS.brok {s : St} {m : Mo} {v : Vis} (h : AlikeS s m) (g : Good v) : brokS s v = brokM m v := by
  have hx := ok_iff.1 g.valid
  unfold brokS brokM
  cases hw : v.w with
  | true =>
    simp only [if_true]
    rw [win_all h.t1.ok hx h.e1, win_all h.t2.ok hx h.e2, Int.add_comm]
  | false =>
    simp only [Bool.false_eq_true, if_false]
    rw [win_all h.t1.ok hx h.e1, win_all h.t2.ok hx h.e2]
def modOf (l : List Vis) (c : Int) : Mo := (l.filter fun v => v.c == c).foldl stepM ([], [])
theorem modOf_snoc (l : List Vis) (v : Vis) (c : Int) : modOf (l ++ [v]) c = if v.c = c then stepM (modOf l c) v else modOf l c := by
  unfold modOf
  rw [List.filter_append, List.foldl_append]
  by_cases h : v.c = c
  · rw [if_pos h, List.filter_cons_of_pos (by simp [h])]; rfl
  · rw [if_neg h, List.filter_cons_of_neg (by simp [h])]; rfl
theorem fold_alike : ∀ (l : List Vis) (s : St) (m : Mo), AlikeS s m → (∀ v ∈ l, Good v) → AlikeS (l.foldl stepS s) (l.foldl stepM m)
  | [], _, _, h, _ => h
  | v :: t, _, _, h, g => fold_alike t _ _ (h.step (g v (List.mem_cons_self ..))) (fun u hu => g u (List.mem_cons_of_mem _ hu))
theorem alike_of {l : List Vis} (g : ∀ v ∈ l, Good v) (c : Int) : AlikeS (stOf l c) (modOf l c) := fold_alike _ _ _ alike0 (fun v hv => g v ((List.mem_filter.1 hv).1))
theorem fold_szS : ∀ (l : List Vis) (s : St), (∀ v ∈ l, Good v) → szC (l.foldl stepS s).1 ≤ szC s.1 + 24 * l.length ∧ szC (l.foldl stepS s).2 ≤ szC s.2 + 24 * l.length
  | [], _, _ => ⟨Nat.le_refl _, Nat.le_refl _⟩
  | v :: t, s, g => by
    obtain ⟨h1, h2⟩ := fold_szS t (stepS s v) (fun u hu => g u (List.mem_cons_of_mem _ hu))
    have hv := g v (List.mem_cons_self ..)
    have h3 : szC (stepS s v).1 ≤ szC s.1 + 24 ∧ szC (stepS s v).2 ≤ szC s.2 + 24 := by
      unfold stepS
      cases v.w with
      | true =>
        have := add_total s.2 [v.d]
        simp only [if_true]
        simp only [List.length_cons, List.length_nil] at this
        exact ⟨by omega, by omega⟩
      | false =>
        have := union_total s.1 v.x
        have := hv.size
        simp only [Bool.false_eq_true, if_false]
        exact ⟨by omega, by omega⟩
    rw [List.foldl_cons, List.length_cons]
    exact ⟨by omega, by omega⟩
theorem AlikeS.okS {s : St} {m : Mo} (h : AlikeS s m) (l1 : szC s.1 ≤ 1000) (l2 : szC s.2 ≤ 1000) : OkS s := ⟨ok_iff.2 h.t1.ok, ok_iff.2 h.t2.ok, l1, l2⟩
theorem fits_good {l : List Vis} (g : ∀ v ∈ l, Good v) (hn : l.length ≤ 40) : Fits l := fun k c => by
  have gk : ∀ v ∈ l.take k, Good v := fun v hv => g v (List.mem_of_mem_take hv)
  have h1 := alike_of gk c
  have h2 := fold_szS ((l.take k).filter fun v => v.c == c) st0 (fun v hv => gk v ((List.mem_filter.1 hv).1))
  have h3 : ((l.take k).filter fun v => v.c == c).length ≤ l.length := Nat.le_trans (List.length_filter_le _ _) (List.length_take_le' _ _)
  have e : szC st0.1 = 0 ∧ szC st0.2 = 0 := ⟨rfl, rfl⟩
  exact h1.okS (by unfold stOf; omega) (by unfold stOf; omega)
theorem bad_good {l : List Vis} (g : ∀ v ∈ l, Good v) : l.any badS = false := by
  rw [List.any_eq_false]
  intro v hv
  rw [(g v hv).ok]; simp
theorem len_good {l : List Vis} (g : ∀ v ∈ l, Good v) : ∀ v ∈ l, v.x.1.length + v.x.2.length ≤ 1000 := fun v hv => by have := (g v hv).size; unfold szC at this; omega
/-- How long the model's lists grow. -/
theorem fold_mlen : ∀ (l : List Vis) (m : Mo), (∀ v ∈ l, Good v) → (l.foldl stepM m).1.length ≤ m.1.length + 732 * l.length ∧ (l.foldl stepM m).2.length ≤ m.2.length + l.length
  | [], _, _ => ⟨Nat.le_refl _, Nat.le_refl _⟩
  | v :: t, m, g => by
    obtain ⟨h1, h2⟩ := fold_mlen t (stepM m v) (fun u hu => g u (List.mem_cons_of_mem _ hu))
    have h4 := dotsS_len (g v (List.mem_cons_self ..)).sm
    have h3 : (stepM m v).1.length ≤ m.1.length + 732 ∧ (stepM m v).2.length ≤ m.2.length + 1 := by
      unfold stepM
      cases v.w with
      | true => simp only [if_true, List.length_append, List.length_cons, List.length_nil]; exact ⟨by omega, by omega⟩
      | false => simp only [Bool.false_eq_true, if_false, List.length_append]; exact ⟨by omega, by omega⟩
    rw [List.foldl_cons, List.length_cons]
    exact ⟨by omega, by omega⟩
theorem mlen_good {l : List Vis} (g : ∀ v ∈ l, Good v) (hn : l.length ≤ 40) (c : Int) : (modOf l c).1.length ≤ 100000 ∧ (modOf l c).2.length ≤ 100000 := by
  have h2 := fold_mlen (l.filter fun v => v.c == c) ([], []) (fun v hv => g v ((List.mem_filter.1 hv).1))
  have h3 : (l.filter fun v => v.c == c).length ≤ l.length := List.length_filter_le _ _
  have e : (([], []) : Mo).1.length = 0 ∧ (([], []) : Mo).2.length = 0 := ⟨rfl, rfl⟩
  unfold modOf
  exact ⟨by omega, by omega⟩
/-- What the statement finds of visit i, and what Judge finds. -/
def gM (l : List Vis) (i : Nat) (v : Vis) : Int := brokM (modOf (l.take i) v.c) v
theorem gM_eq {l : List Vis} {i : Nat} {v : Vis} (g : ∀ v ∈ l, Good v) (hi : l[i]? = some v) : brokS (stOf (l.take i) v.c) v = gM l i v :=
  (alike_of (fun u hu => g u (List.mem_of_mem_take hu)) v.c).brok (g v (List.mem_of_getElem? hi))
theorem judge_from {l : List Vis} {asked : Int} (g : ∀ v ∈ l, Good v) : ∀ (i : Nat), i ≤ l.length → (∀ j v, j < i → l[j]? = some v → andI (gM l j v) asked = 0) → judgeS asked [] l = judgeS asked (l.take i) (l.drop i)
  | 0, _, _ => rfl
  | i + 1, hi, h => by
    have hl : l[i]? = some l[i] := List.getElem?_eq_getElem (by omega)
    rw [judge_from g i (by omega) (fun j v hj => h j v (by omega)), judge_next hl (by rw [List.drop_eq_getElem_cons (by omega)]) (by rw [gM_eq g hl]; exact h i _ (by omega) hl)]
theorem judge_found {l : List Vis} {asked : Int} (g : ∀ v ∈ l, Good v) {i : Nat} {v : Vis} (hi : l[i]? = some v) (h : ∀ j v, j < i → l[j]? = some v → andI (gM l j v) asked = 0) (hv : ¬ andI (gM l i v) asked = 0) : judgeS asked [] l = ((i : Int), andI (gM l i v) asked) := by
  have hl := (List.getElem?_eq_some_iff.1 hi).1
  have hd : l.drop i = v :: l.drop (i + 1) := by rw [List.drop_eq_getElem_cons hl, (List.getElem?_eq_some_iff.1 hi).2]
  rw [judge_from g i (by omega) h, judge_stop (by omega) hd (by rw [gM_eq g hi]; exact hv), gM_eq g hi]
theorem judge_none {l : List Vis} {asked : Int} (g : ∀ v ∈ l, Good v) (h : ∀ j v, j < l.length → l[j]? = some v → andI (gM l j v) asked = 0) : judgeS asked [] l = (-1, 0) := by
  rw [judge_from g l.length (Nat.le_refl _) h, List.drop_length]; rfl
end Go.Proofs.Ytjbakmmmgejhlaa

/-
  session.Copy.
-/
namespace Go.Proofs.Ytjbakmmmgejhlaa
open Go.RowKit

/-- A session as a value; a pointer to a session in a block of its own. -/
def IsSessV (s : St) (w : World) (v : Value) : Prop := ∃ A n ca B m cb A2 n2 ca2 B2 m2 cb2, v = .agg #[.slice A n ca, .slice B m cb, .slice A2 n2 ca2, .slice B2 m2 cb2] ∧ Con w A n ca B m cb s.1 ∧ Con w A2 n2 ca2 B2 m2 cb2 s.2
instance (s : St) : Grows (IsSessV s) := ⟨fun hb ⟨A, n, ca, B, m, cb, A2, n2, ca2, B2, m2, cb2, e, h, k⟩ => ⟨A, n, ca, B, m, cb, A2, n2, ca2, B2, m2, cb2, e, h.mono hb, k.mono hb⟩⟩
def IsSessP (K : Nat) (s : St) (w : World) (v : Value) : Prop := ∃ N, v = .pointer (some ⟨N, 0, none⟩) ∧ K ≤ N ∧ SessOk N s w
instance (K : Nat) (s : St) : Grows (IsSessP K s) := ⟨fun hb ⟨N, e, h, k⟩ => ⟨N, e, h, k.mono hb⟩⟩
theorem SessAt.of {w : World} {A B A2 B2 : Option Addr} {n ca m cb n2 ca2 m2 cb2 : Nat} {h r : Ctx} (h1 : Con w A n ca B m cb h) (h2 : Con w A2 n2 ca2 B2 m2 cb2 r) :
    SessAt w.heap.size h r (w.alloc (.cells #[.slice A n ca, .slice B m cb, .slice A2 n2 ca2, .slice B2 m2 cb2] 46)) := by
  have hb : Below w.heap.size w (w.alloc (.cells #[.slice A n ca, .slice B m cb, .slice A2 n2 ca2, .slice B2 m2 cb2] 46)) := (Below.refl _ _).alloc (Nat.le_refl _) _
  refine ⟨A, n, ca, B, m, cb, A2, n2, ca2, B2, m2, cb2, by simp [go_sem], by simp [go_sem], by simp [go_sem], by simp [go_sem], h1.mono hb, h2.mono hb, fun o => by simp [go_sem], fun o x e => ?_⟩
  simp only [World.cell?, World.alloc] at e
  simp at e
  match o, e with
  | 0, e => simp at e
  | 1, e => simp at e
  | 2, e => simp at e
  | 3, e => simp at e
  | n + 4, e => simp at e
section
variable {ops : List Oper} {Fs : List VT} {w0 : World} {a0 : Act} {i : Nat} {d : Option Tmp} {ty : TypeId} {pos : String} {after : Array Edge} {g : Option (Nat × Bool)}
theorem Ob.mkSess {x y : Operand} {s : St} (hw : Wanted ops Fs w0 a0 i ⟨d, .build 46 #[(0, x), (1, y)], ty, pos, after, g⟩) (hx : Has ops Fs w0 a0 i ⟨d, .build 46 #[(0, x), (1, y)], ty, pos, after, g⟩ x (IsCon s.1)) (hy : Has ops Fs w0 a0 i ⟨d, .build 46 #[(0, x), (1, y)], ty, pos, after, g⟩ y (IsCon s.2)) :
    Ob Try.prog ops Fs w0 a0 i ⟨d, .build 46 #[(0, x), (1, y)], ty, pos, after, g⟩ (IsSessV s) :=
  Ob.stay hw fun a w cx => by
    obtain ⟨A, n, ca, B, m, cb, h1, k1⟩ := hx a w cx
    obtain ⟨A2, n2, ca2, B2, m2, cb2, h2, k2⟩ := hy a w cx
    refine ⟨.agg #[.slice A n ca, .slice B m cb, .slice A2 n2 ca2, .slice B2 m2 cb2], ?_, A, n, ca, B, m, cb, A2, n2, ca2, B2, m2, cb2, rfl, k1, k2⟩
    generalize a.eval = ρ at h1 h2
    simp [execOp, h1, h2, go_sem]
theorem Ob.boxSess {x : Operand} {s : St} (hw : Wanted ops Fs w0 a0 i ⟨d, .box 46 x, ty, pos, after, g⟩) (hx : Has ops Fs w0 a0 i ⟨d, .box 46 x, ty, pos, after, g⟩ x (IsSessV s)) :
    Ob Try.prog ops Fs w0 a0 i ⟨d, .box 46 x, ty, pos, after, g⟩ (IsSessP w0.heap.size s) :=
  Ob.any hw fun a w cx => by
    obtain ⟨A, n, ca, B, m, cb, A2, n2, ca2, B2, m2, cb2, h1, k1, k2⟩ := hx a w cx
    refine ⟨.pointer (some ⟨w.heap.size, 0, none⟩), w.alloc (.cells #[.slice A n ca, .slice B m cb, .slice A2 n2 ca2, .slice B2 m2 cb2] 46), ?_, (Below.refl _ _).alloc (Nat.le_refl _) _, w.heap.size, rfl, cx.le.size, SessAt.of k1 k2⟩
    generalize a.eval = ρ at h1
    simp [execOp, h1, go_sem]
end
theorem copiedI {c : Ctx} {w : World} {u : Value} (hu : IsCon c w u) (hl : c.1.length + c.2.length ≤ 1000) : Calls Try.prog 42 #[u] w (Ret w (IsCon c)) := by
  obtain ⟨A, n, ca, B, m, cb, rfl, hc⟩ := hu
  exact (lcopied A B n ca m cb c w hc (by have := hc.v.len; unfold Small; omega) (by have := hc.k.len; unfold Small; omega)).mono fun _ _ ⟨v, e, hb, hx⟩ => ⟨v, e, hb, hx.con⟩
set_option maxRecDepth 100000 in
set_option maxHeartbeats 1000000 in
theorem scopy (N : Nat) (s : St) (w : World) (hs : SessOk N s w) (ok : OkS s) : Calls Try.prog 26 #[.pointer (some ⟨N, 0, none⟩)] w (Ret w (IsSessP w.heap.size s)) := by
  have SS := Lib.hid hs; have OK := Lib.hid ok
  clear hs ok
  go_enter Try.func26, Try.ntmps26
  go_wp2_with fail
  refine wp_region_M mixed (by kernel_rfl) ?_
  refine MDerR.step (Ob.move Wanted.free Has.oldIs) ?_
  refine MDerR.step (Ob.nilV Wanted.free (Has.new 0 0)) ?_
  refine MDerR.step (Ob.fieldV Wanted.free (Has.new 1 0) (fun w1 => field_sess0)) ?_
  refine MDerR.step (Ob.load (F := IsCon s.1) Wanted.free (Has.new 2 0) (fun w1 v hb1 hv => SS.out.load0 hb1 hv)) ?_
  refine MDerR.step (Ob.call1 Wanted.free entCopied (Has.new 3 0) (fun w1 u hb1 (hu : IsCon s.1 w1 u) => copiedI hu OK.out.l1)) ?_
  refine MDerR.step (Ob.move Wanted.free Has.oldIs) ?_
  refine MDerR.step (Ob.nilV Wanted.free (Has.new 5 0)) ?_
  refine MDerR.step (Ob.fieldV Wanted.free (Has.new 6 0) (fun w1 => field_sess1)) ?_
  refine MDerR.step (Ob.load (F := IsCon s.2) Wanted.free (Has.new 7 0) (fun w1 v hb1 hv => SS.out.load1 hb1 hv)) ?_
  refine MDerR.step (Ob.call1 Wanted.free entCopied (Has.new 8 0) (fun w1 u hb1 (hu : IsCon s.2 w1 u) => copiedI hu OK.out.l2)) ?_
  refine MDerR.step (Ob.mkSess Wanted.free (Has.new 4 5) (Has.new 9 0)) ?_
  refine MDerR.step (Ob.boxSess Wanted.free (Has.new 10 0)) ?_
  refine MDerR.step (Ob.assign Wanted.free (Has.new 11 0)) ?_
  simp only [MDerR, dstsOf, List.map, EndM, List.reverse_cons, List.reverse_nil, List.nil_append, List.cons_append]
  intro wE hE
  iterate 3 (rintro _ rfl)
  rintro _ _h3
  rintro _ _h4
  iterate 3 (rintro _ rfl)
  rintro _ _h8
  rintro _ _h9
  rintro _ _h10
  rintro _ _h11
  rintro _ ⟨N1, rfl, hN1, hs1⟩
  simp only [Act.put, List.setIfInBounds_toArray, List.set_cons_zero, List.set_cons_succ]
  have HE := Lib.hid hE; have HS1 := Lib.hid hs1; have HN1 := Lib.hid hN1
  clear hE hs1 hN1 _h11 _h3 _h4 _h8 _h9 _h10
  go_wp2
  go_ret
  exact ⟨_, rfl, HE.out, N1, rfl, HN1.out, HS1.out⟩
end Go.Proofs.Ytjbakmmmgejhlaa

/-
  ContextLooks: what its two loops want, that write into what was returned.
-/
namespace Go.Proofs.Ytjbakmmmgejhlaa
open Go.RowKit

theorem isNil2 (w : World) : IsCon ([], []) w (.agg #[.slice none 0 0, .slice none 0 0]) := ⟨none, 0, 0, none, 0, 0, rfl, ⟨Dots.nil_, Dots.nil_⟩⟩
theorem compR_no {c : Ctx} (h : validC c = false) : (eqC (compR c).1 ([], []) && ((compR c).2 == 2)) = true := by
  unfold compR
  rw [if_neg (by rw [h]; simp)]
  rfl
theorem dcells_put : ∀ (l : List Dot) (i : Nat) (z : Int), i < l.length → ∃ l' : List Dot, l'.length = l.length ∧ (dcells l).set (i * 2 + 1) (.int .i64 z) = dcells l'
  | [], i, z, h => by simp at h
  | d :: l, 0, z, _ => ⟨(d.1, z) :: l, rfl, rfl⟩
  | d :: l, i + 1, z, h => by
    obtain ⟨l', h1, h2⟩ := dcells_put l i z (by simpa using h)
    refine ⟨d :: l', by simp [h1], ?_⟩
    rw [dcells_cons, dcells_cons, show (i + 1) * 2 + 1 = i * 2 + 1 + 1 + 1 by omega, List.set_cons_succ, List.set_cons_succ, h2]
/-- A count of a row of the call's own: where it lies, and the row behind a store. -/
theorem Row.count {w : World} {B : Nat} {A : Option Addr} {n c i : Nat} {l : List Dot} (h : Row w B (.slice A n c) l) (hi : i < n) :
    ∃ g y, A = some ⟨g, 0, none⟩ ∧ B ≤ g ∧ g < w.heap.size ∧ w.cell? ⟨g, i * 2 + 1, none⟩ = some (.int .i64 y) ∧ w.frozen? ⟨g, i * 2 + 1, none⟩ = false ∧ ∀ z, ∃ l', Row (w.setCell ⟨g, i * 2 + 1, none⟩ (.int .i64 z)) B (.slice A n c) l' := by
  obtain ⟨A', c', e, hd⟩ := Row.dots h
  cases e
  obtain ⟨g, e, hB, hg⟩ : ∃ g, A = some ⟨g, 0, none⟩ ∧ B ≤ g ∧ g < w.heap.size := by
    rcases h.2 with ⟨_, h0⟩ | ⟨g, cap, cur, e, hB, hh, _⟩
    · omega
    · cases e
      exact ⟨g, rfl, hB, (Array.getElem?_eq_some_iff.1 hh).1⟩
  subst e
  obtain ⟨b, o, x, y, e, _, _, _, _, k2⟩ := hd.at_ hi
  cases e
  rw [Nat.zero_add] at k2
  refine ⟨g, y, rfl, hB, hg, k2, World.ownsRow.frozenAt h _, fun z => ?_⟩
  obtain ⟨l', h1, h2⟩ := dcells_put l i z hi
  refine ⟨l', ?_⟩
  have h3 := (World.ownsRow.stored h (i * 2 + 1) (.int .i64 z)).1
  rw [h2, ← h1] at h3
  rw [← h1]
  exact h3
/-- What holds at the heads of both loops. -/
structure LookAt (b N : Nat) (W : World) (A B : Option Addr) (n ca m cb : Nat) (wr : World) : Prop where
  c0 : wr.cell? ⟨N, 0, none⟩ = some (.slice A n ca)
  c1 : wr.cell? ⟨N, 1, none⟩ = some (.slice B m cb)
  below : Below b W wr
  r1 : ∃ l, Row wr b (.slice A n ca) l
  r2 : ∃ l, Row wr b (.slice B m cb) l
  o1 : ∀ k, (Value.slice A n ca).ownBlock = some k → k ≠ N
  o2 : ∀ k, (Value.slice B m cb).ownBlock = some k → k ≠ N
  apart : ∀ k, (Value.slice A n ca).ownBlock = some k → (Value.slice B m cb).ownBlock ≠ some k
section
variable {b N : Nat} {W wr : World} {A B : Option Addr} {n ca m cb i : Nat}
theorem LookAt.first (h : LookAt b N W A B n ca m cb wr) (hi : i < n) : ∃ g y, A = some ⟨g, 0, none⟩ ∧ g < wr.heap.size ∧ wr.cell? ⟨g, i * 2 + 1, none⟩ = some (.int .i64 y) ∧ wr.frozen? ⟨g, i * 2 + 1, none⟩ = false ∧
    ∀ z, LookAt b N W A B n ca m cb (wr.setCell ⟨g, i * 2 + 1, none⟩ (.int .i64 z)) := by
  obtain ⟨l, r⟩ := h.r1
  obtain ⟨g, y, e, hb, hg, h1, h2, h3⟩ := r.count hi
  have hN : g ≠ N := h.o1 g (by rw [e]; rfl)
  have hne : ∀ o v, (⟨g, i * 2 + 1, none⟩ : Addr) ≠ ⟨N, o, v⟩ := fun o v e => hN (by cases e; rfl)
  refine ⟨g, y, e, hg, h1, h2, fun z => ⟨cell_far (hne _ _) h.c0, cell_far (hne _ _) h.c1, h.below.setCell (p := ⟨g, i * 2 + 1, none⟩) hb _, h3 z, ?_, h.o1, h.o2, h.apart⟩⟩
  obtain ⟨l2, r2⟩ := h.r2
  exact ⟨l2, Row.set_ r2 (fun k hk e2 => h.apart g (by rw [e]; rfl) (by rw [hk, e2])) _⟩
theorem LookAt.second (h : LookAt b N W A B n ca m cb wr) (hi : i < m) : ∃ g y, B = some ⟨g, 0, none⟩ ∧ g < wr.heap.size ∧ wr.cell? ⟨g, i * 2 + 1, none⟩ = some (.int .i64 y) ∧ wr.frozen? ⟨g, i * 2 + 1, none⟩ = false ∧
    ∀ z, LookAt b N W A B n ca m cb (wr.setCell ⟨g, i * 2 + 1, none⟩ (.int .i64 z)) := by
  obtain ⟨l, r⟩ := h.r2
  obtain ⟨g, y, e, hb, hg, h1, h2, h3⟩ := r.count hi
  have hN : g ≠ N := h.o2 g (by rw [e]; rfl)
  have hne : ∀ o v, (⟨g, i * 2 + 1, none⟩ : Addr) ≠ ⟨N, o, v⟩ := fun o v e => hN (by cases e; rfl)
  refine ⟨g, y, e, hg, h1, h2, fun z => ⟨cell_far (hne _ _) h.c0, cell_far (hne _ _) h.c1, h.below.setCell (p := ⟨g, i * 2 + 1, none⟩) hb _, ?_, h3 z, h.o1, h.o2, h.apart⟩⟩
  obtain ⟨l2, r2⟩ := h.r1
  exact ⟨l2, Row.set_ r2 (fun k hk e2 => h.apart k hk (by rw [e]; exact congrArg some e2.symm)) _⟩
def LookRel (b N : Nat) (W : World) (A B : Option Addr) (n ca m cb lim : Nat) (i : Value) (wr : World) : Prop := ∃ k : Nat, i = .int .i64 k ∧ k ≤ lim ∧ LookAt b N W A B n ca m cb wr
theorem LookAt.len1 (h : LookAt b N W A B n ca m cb wr) : n ≤ 9223372036854775807 := h.r1.elim fun _ r => r.asDots.big
theorem LookAt.len2 (h : LookAt b N W A B n ca m cb wr) : m ≤ 9223372036854775807 := h.r2.elim fun _ r => r.asDots.big
end
end Go.Proofs.Ytjbakmmmgejhlaa

/-
  The statements' helper: alike.
-/
namespace Go.Proofs.Ytjbakmmmgejhlaa
open Go.RowKit

/-- What holds at the heads of alike's loops. -/
structure AlkAt (W0 : World) (K1 K bH bW bA bB : Nat) (A1 : Option Addr) (n1 c1 : Nat) (B2 : Option Addr) (m2 d2 : Nat) (Aa : Option Addr) (na ca : Nat) (Ba : Option Addr) (ma da : Nat) (Ab : Option Addr) (nb cb : Nat) (Bb : Option Addr) (mb db : Nat) (x y : Ctx) (wr : World) : Prop where
  below : Below W0.heap.size W0 wr
  h0 : wr.cell? ⟨bH, 0, none⟩ = some (.slice A1 n1 c1)
  w1 : wr.cell? ⟨bW, 1, none⟩ = some (.slice B2 m2 d2)
  r1 : ∃ l, Row wr W0.heap.size (.slice A1 n1 c1) l
  r2 : ∃ l, Row wr W0.heap.size (.slice B2 m2 d2) l
  o1 : ∀ k, (Value.slice A1 n1 c1).ownBlock = some k → k < K1
  o2 : ∀ k, (Value.slice B2 m2 d2).ownBlock = some k → K1 ≤ k ∧ k < K
  a0 : wr.cell? ⟨bA, 0, none⟩ = some (.slice Aa na ca)
  a1 : wr.cell? ⟨bA, 1, none⟩ = some (.slice Ba ma da)
  ra1 : Row wr K (.slice Aa na ca) x.1
  ra2 : Row wr K (.slice Ba ma da) x.2
  b0 : wr.cell? ⟨bB, 0, none⟩ = some (.slice Ab nb cb)
  b1 : wr.cell? ⟨bB, 1, none⟩ = some (.slice Bb mb db)
  rb1 : Row wr K (.slice Ab nb cb) y.1
  rb2 : Row wr K (.slice Bb mb db) y.2
  kk : K1 ≤ K
  kH : K ≤ bH
  kW : K ≤ bW
  kA : K ≤ bA
  kB : K ≤ bB
section
variable {W0 wr : World} {K1 K bH bW bA bB : Nat} {A1 : Option Addr} {n1 c1 : Nat} {B2 : Option Addr} {m2 d2 : Nat} {Aa : Option Addr} {na ca : Nat} {Ba : Option Addr} {ma da : Nat} {Ab : Option Addr} {nb cb : Nat} {Bb : Option Addr} {mb db : Nat} {x y : Ctx} {i : Nat}
theorem AlkAt.store (h : AlkAt W0 K1 K bH bW bA bB A1 n1 c1 B2 m2 d2 Aa na ca Ba ma da Ab nb cb Bb mb db x y wr) {g o : Nat} {z : Int} (hg : g < K) (hB : W0.heap.size ≤ g) (r1 : ∃ l, Row (wr.setCell ⟨g, o, none⟩ (.int .i64 z)) W0.heap.size (.slice A1 n1 c1) l) (r2 : ∃ l, Row (wr.setCell ⟨g, o, none⟩ (.int .i64 z)) W0.heap.size (.slice B2 m2 d2) l) :
    AlkAt W0 K1 K bH bW bA bB A1 n1 c1 B2 m2 d2 Aa na ca Ba ma da Ab nb cb Bb mb db x y (wr.setCell ⟨g, o, none⟩ (.int .i64 z)) := by
  have ne : ∀ {b : Nat} (o' : Nat), K ≤ b → (⟨g, o, none⟩ : Addr) ≠ ⟨b, o', none⟩ := fun {b} o' hb e => by
    have := congrArg Addr.block e
    have : g = b := this
    omega
  have rw_ : ∀ {v : Value} {l : List Dot}, Row wr K v l → Row (wr.setCell ⟨g, o, none⟩ (.int .i64 z)) K v l := fun hr => Row.set_ hr (fun k hk e => by
    have := Row.own _ hr k hk
    have e : k = g := e
    omega) _
  exact ⟨h.below.setCell (p := ⟨g, o, none⟩) hB _, cell_far (ne _ h.kH) h.h0, cell_far (ne _ h.kW) h.w1, r1, r2, h.o1, h.o2, cell_far (ne _ h.kA) h.a0, cell_far (ne _ h.kA) h.a1, rw_ h.ra1, rw_ h.ra2, cell_far (ne _ h.kB) h.b0, cell_far (ne _ h.kB) h.b1, rw_ h.rb1, rw_ h.rb2, h.kk, h.kH, h.kW, h.kA, h.kB⟩
theorem AlkAt.first (h : AlkAt W0 K1 K bH bW bA bB A1 n1 c1 B2 m2 d2 Aa na ca Ba ma da Ab nb cb Bb mb db x y wr) (hi : i < n1) : ∃ g y', A1 = some ⟨g, 0, none⟩ ∧ wr.cell? ⟨g, i * 2 + 1, none⟩ = some (.int .i64 y') ∧ wr.frozen? ⟨g, i * 2 + 1, none⟩ = false ∧
    ∀ z, AlkAt W0 K1 K bH bW bA bB A1 n1 c1 B2 m2 d2 Aa na ca Ba ma da Ab nb cb Bb mb db x y (wr.setCell ⟨g, i * 2 + 1, none⟩ (.int .i64 z)) := by
  obtain ⟨l, r⟩ := h.r1
  obtain ⟨g, y', e, hb, hg, k1, k2, k3⟩ := r.count hi
  have hgk := h.o1 g (by rw [e]; rfl)
  refine ⟨g, y', e, k1, k2, fun z => h.store (by have := h.kk; omega) hb (k3 z) ?_⟩
  obtain ⟨l2, r2⟩ := h.r2
  exact ⟨l2, Row.set_ r2 (fun k hk e2 => by
    have := (h.o2 k hk).1
    have e2 : k = g := e2
    omega) _⟩
theorem AlkAt.second (h : AlkAt W0 K1 K bH bW bA bB A1 n1 c1 B2 m2 d2 Aa na ca Ba ma da Ab nb cb Bb mb db x y wr) (hi : i < m2) : ∃ g y', B2 = some ⟨g, 0, none⟩ ∧ wr.cell? ⟨g, i * 2 + 1, none⟩ = some (.int .i64 y') ∧ wr.frozen? ⟨g, i * 2 + 1, none⟩ = false ∧
    ∀ z, AlkAt W0 K1 K bH bW bA bB A1 n1 c1 B2 m2 d2 Aa na ca Ba ma da Ab nb cb Bb mb db x y (wr.setCell ⟨g, i * 2 + 1, none⟩ (.int .i64 z)) := by
  obtain ⟨l, r⟩ := h.r2
  obtain ⟨g, y', e, hb, hg, k1, k2, k3⟩ := r.count hi
  have hgk := h.o2 g (by rw [e]; rfl)
  refine ⟨g, y', e, k1, k2, fun z => h.store hgk.2 hb ?_ (k3 z)⟩
  obtain ⟨l2, r2⟩ := h.r1
  exact ⟨l2, Row.set_ r2 (fun k hk e2 => by
    have := h.o1 k hk
    have e2 : k = g := e2
    omega) _⟩
theorem AlkAt.mono (h : AlkAt W0 K1 K bH bW bA bB A1 n1 c1 B2 m2 d2 Aa na ca Ba ma da Ab nb cb Bb mb db x y wr) {w' : World} (b : Below wr.heap.size wr w') : AlkAt W0 K1 K bH bW bA bB A1 n1 c1 B2 m2 d2 Aa na ca Ba ma da Ab nb cb Bb mb db x y w' :=
  ⟨h.below.le b, cellKeep b h.h0, cellKeep b h.w1, h.r1.imp fun _ r => r.mono b, h.r2.imp fun _ r => r.mono b, h.o1, h.o2, cellKeep b h.a0, cellKeep b h.a1, h.ra1.mono b, h.ra2.mono b, cellKeep b h.b0, cellKeep b h.b1, h.rb1.mono b, h.rb2.mono b, h.kk, h.kH, h.kW, h.kA, h.kB⟩
theorem AlkAt.len1 (h : AlkAt W0 K1 K bH bW bA bB A1 n1 c1 B2 m2 d2 Aa na ca Ba ma da Ab nb cb Bb mb db x y wr) : n1 ≤ 9223372036854775807 := h.r1.elim fun _ r => r.asDots.big
theorem AlkAt.len2 (h : AlkAt W0 K1 K bH bW bA bB A1 n1 c1 B2 m2 d2 Aa na ca Ba ma da Ab nb cb Bb mb db x y wr) : m2 ≤ 9223372036854775807 := h.r2.elim fun _ r => r.asDots.big
theorem AlkAt.boxA (h : AlkAt W0 K1 K bH bW bA bB A1 n1 c1 B2 m2 d2 Aa na ca Ba ma da Ab nb cb Bb mb db x y wr) : Boxed bA Aa Ba na ca ma da x wr := ⟨h.a0, h.a1, h.ra1.asDots, h.ra2.asDots⟩
theorem AlkAt.boxB (h : AlkAt W0 K1 K bH bW bA bB A1 n1 c1 B2 m2 d2 Aa na ca Ba ma da Ab nb cb Bb mb db x y wr) : Boxed bB Ab Bb nb cb mb db y wr := ⟨h.b0, h.b1, h.rb1.asDots, h.rb2.asDots⟩
def AlkRel (W0 : World) (K1 K bH bW bA bB : Nat) (A1 : Option Addr) (n1 c1 : Nat) (B2 : Option Addr) (m2 d2 : Nat) (Aa : Option Addr) (na ca : Nat) (Ba : Option Addr) (ma da : Nat) (Ab : Option Addr) (nb cb : Nat) (Bb : Option Addr) (mb db : Nat) (x y : Ctx) (lim : Nat) (i : Value) (wr : World) : Prop :=
  ∃ k : Nat, i = .int .i64 k ∧ k ≤ lim ∧ AlkAt W0 K1 K bH bW bA bB A1 n1 c1 B2 m2 d2 Aa na ca Ba ma da Ab nb cb Bb mb db x y wr
end
/-- What Of makes of the model's list. -/
theorem of_alike {a : Ctx} {l : List Dot} (ht : Tight a) (h : ∀ d, In a d ↔ d ∈ l) : addR ([], []) l = (a, 0) := by
  have hv : validL l = true := validL_of fun d hd => ((h d).2 hd).1
  unfold addR
  rw [if_pos (by rw [hv]; rfl)]
  obtain ⟨t, k⟩ := add_spec tight_nil.ok hv
  have : addC ([], []) l = a := tight_ext t ht fun d => by rw [k, h]; exact ⟨fun e => e.elim (fun e => absurd e in_nil) id, .inr⟩
  rw [this]
theorem iofM {C : Option Addr} {k ck : Nat} {l : List Dot} {a : Ctx} {w : World} (hl : Dots w C k ck l) (hs : l.length ≤ 100000) (ht : Tight a) (h : ∀ d, In a d ↔ d ∈ l) : Calls Try.prog 45 #[.slice C k ck] w (Ret w (IsPair (IsConA w.heap.size a) 0)) := by
  have := iofR C k ck l w hl (by have := hl.len; unfold Small; omega)
  rw [of_alike ht h] at this
  exact this
theorem hasL {N : Nat} {s : St} {w w0 : World} {u : Value} (hs : SessOk N s w0) (ok : OkS s) (hb : Below w0.heap.size w0 w) (hu : Is (.pointer (some ⟨N, 0, none⟩)) w u) : Calls Try.prog 21 #[u] w (Ret w (IsCon s.1)) := by
  cases hu
  exact (sHas N s.1 s.2 w (hs.mono hb) ok.l1).mono fun _ _ ⟨v, e, b, h⟩ => ⟨v, e, b, h.con⟩
theorem wroteL {N : Nat} {s : St} {w w0 : World} {u : Value} (hs : SessOk N s w0) (ok : OkS s) (hb : Below w0.heap.size w0 w) (hu : Is (.pointer (some ⟨N, 0, none⟩)) w u) : Calls Try.prog 22 #[u] w (Ret w (IsCon s.2)) := by
  cases hu
  exact (sWrote N s.1 s.2 w (hs.mono hb) ok.l2).mono fun _ _ ⟨v, e, b, h⟩ => ⟨v, e, b, h.con⟩
set_option maxRecDepth 100000 in
set_option maxHeartbeats 8000000 in
theorem salike (N M : Nat) (A B : Option Addr) (n ca m cb : Nat) (s : St) (mo : Mo) (p : Ctx) (w : World) (hs : SessOk N s w) (ok : OkS s) (hm : ModAt M mo w) (al : AlikeS s mo) (l1 : mo.1.length ≤ 100000) (l2 : mo.2.length ≤ 100000) (hp : Con w A n ca B m cb p) (lp : p.1.length + p.2.length ≤ 1000) :
    Calls Try.prog 27 #[.pointer (some ⟨N, 0, none⟩), .pointer (some ⟨M, 0, none⟩), .agg #[.slice A n ca, .slice B m cb]] w (Ret w (IsB true)) := by
  obtain ⟨W0, hW0⟩ : ∃ W0, W0 = w.alloc (conBox A n ca B m cb) := ⟨_, rfl⟩
  have hb0 : Below w.heap.size w W0 := by rw [hW0]; go_grown
  have bp : Boxed w.heap.size A B n ca m cb p W0 := by rw [hW0]; exact Boxed.new hp
  have DEF := Lib.hid hW0; have HB := Lib.hid hb0; have BP := Lib.hid bp; have SS := Lib.hid (hs.mono hb0); have OK := Lib.hid ok; have MM := Lib.hid (hm.mono hb0); have AL := Lib.hid al; have L1 := Lib.hid l1; have L2 := Lib.hid l2; have LP := Lib.hid lp
  clear hW0 hb0 bp hs ok hm al l1 l2 hp lp
  go_enter Try.func27, Try.ntmps27
  go_wp2_with fail
  rw [← DEF.out]
  refine (sHas N s.1 s.2 W0 SS.out OK.out.l1).mono ?_
  rintro _ w1 ⟨_, rfl, hb1, A1, n1, c1, B1, m1, d1, rfl, hc1, r1, r1'⟩
  have HB1 := Lib.hid hb1; have C1 := Lib.hid hc1; have R1 := Lib.hid r1
  clear hb1 hc1 r1 r1' DEF
  go_wp2_with fail
  refine (sWrote N s.1 s.2 w1 (SS.out.mono HB1.out) OK.out.l2).mono ?_
  rintro _ w2 ⟨_, rfl, hb2, A2, n2, c2, B2, m2, d2, rfl, hc2, r2', r2⟩
  have HB2 := Lib.hid (HB1.out.le hb2); have C12 := Lib.hid (C1.out.mono hb2); have C2 := Lib.hid hc2; have R12 := Lib.hid (R1.out.mono hb2); have R2 := Lib.hid r2
  have O1 := Lib.hid (show ∀ k, (Value.slice A1 n1 c1).ownBlock = some k → k < w1.heap.size from fun k hk => (World.ownsRow.lt R1.out k hk).2)
  have O2 := Lib.hid (show ∀ k, (Value.slice B2 m2 d2).ownBlock = some k → w1.heap.size ≤ k ∧ k < w2.heap.size from fun k hk => World.ownsRow.lt r2 k hk)
  have KK := Lib.hid hb2.size
  have K0 := Lib.hid HB1.out.size
  clear hb2 hc2 r2 r2' HB1 C1 R1
  obtain ⟨Wa, hWa⟩ : ∃ Wa, Wa = (w2.alloc (conBox A1 n1 c1 B1 m1 d1)).alloc (conBox A2 n2 c2 B2 m2 d2) := ⟨_, rfl⟩
  have hba : Below w2.heap.size w2 Wa := by rw [hWa]; go_grown
  have bh : Boxed w2.heap.size A1 B1 n1 c1 m1 d1 s.1 Wa := ⟨by rw [hWa]; simp [go_sem], by rw [hWa]; simp [go_sem], C12.out.mono hba⟩
  have bw : Boxed (w2.heap.size + 1) A2 B2 n2 c2 m2 d2 s.2 Wa := ⟨by rw [hWa]; simp [go_sem], by rw [hWa]; simp [go_sem], C2.out.mono hba⟩
  have DEFA := Lib.hid hWa; have HBA := Lib.hid (HB2.out.le hba); have BH := Lib.hid bh; have BW := Lib.hid bw; have RA1 := Lib.hid (R12.out.mono hba); have RA2 := Lib.hid (R2.out.mono hba); have KA := Lib.hid hba.size
  have MA := MM.out.mono HBA.out
  obtain ⟨X1, x1, y1, X2, x2, y2, q0, q1, qd0, qd1, _, _⟩ := MA
  have QD0 := Lib.hid qd0; have QD1 := Lib.hid qd1; have Q0 := Lib.hid q0; have Q1 := Lib.hid q1
  rw [hWa] at q0 q1
  clear hba bh bw hWa qd0 qd1 C12 C2 R12 R2 HB2
  go_wp2_with fail
  rw [← DEFA.out]
  refine (iofM QD0.out L1.out AL.out.t1 AL.out.e1).mono ?_
  rintro _ w3 ⟨_, rfl, hb3, _, rfl, Aa, na, ca', Ba, ma, da, rfl, ra1, ra2, _⟩
  have HB3 := Lib.hid (HBA.out.le hb3); have BH3 := Lib.hid (BH.out.mono hb3); have BW3 := Lib.hid (BW.out.mono hb3); have RH3 := Lib.hid (RA1.out.mono hb3); have RW3 := Lib.hid (RA2.out.mono hb3); have K3 := Lib.hid (Nat.le_trans KA.out hb3.size)
  have A13 := Lib.hid ra1; have A23 := Lib.hid ra2
  have QD13 := Lib.hid (QD1.out.mono hb3)
  have q1 := cellKeep hb3 Q1.out
  clear hb3 ra1 ra2 QD0 QD1 Q0 q0 BH BW RA1 RA2 HBA DEFA
  obtain ⟨W3, hW3⟩ : ∃ W3, W3 = w3.alloc (conBox Aa na ca' Ba ma da) := ⟨_, rfl⟩
  have hb3 : Below w3.heap.size w3 W3 := by rw [hW3]; go_grown
  have z0 : W3.cell? ⟨w3.heap.size, 0, none⟩ = some (.slice Aa na ca') := by rw [hW3]; simp [go_sem]
  have z1 : W3.cell? ⟨w3.heap.size, 1, none⟩ = some (.slice Ba ma da) := by rw [hW3]; simp [go_sem]
  have HBW3 := Lib.hid (HB3.out.le hb3); have BH4 := Lib.hid (BH3.out.mono hb3); have BW4 := Lib.hid (BW3.out.mono hb3); have RH4 := Lib.hid (RH3.out.mono hb3); have RW4 := Lib.hid (RW3.out.mono hb3)
  have A14 := Lib.hid (A13.out.mono hb3); have A24 := Lib.hid (A23.out.mono hb3); have Z0 := Lib.hid z0; have Z1 := Lib.hid z1
  have QD14 := Lib.hid (QD13.out.mono hb3); have DEF3 := Lib.hid hW3; have K4 := Lib.hid (Nat.le_trans K3.out hb3.size)
  have q2 := cellKeep hb3 q1
  rw [hW3] at q2
  clear q1
  clear hb3 z0 z1 hW3 HB3 BH3 BW3 RH3 RW3 A13 A23 QD13
  go_wp2_with fail
  rw [← DEF3.out]
  refine (iofM QD14.out L2.out AL.out.t2 AL.out.e2).mono ?_
  rintro _ w5 ⟨_, rfl, hb5, _, rfl, Ab, nb, cb', Bb, mb, db, rfl, rb1, rb2, _⟩
  obtain ⟨W5, hW5⟩ : ∃ W5, W5 = w5.alloc (conBox Ab nb cb' Bb mb db) := ⟨_, rfl⟩
  have hb6 : Below w5.heap.size w5 W5 := by rw [hW5]; go_grown
  have hb56 := hb5.le hb6
  have at5 : AlkAt W0 w1.heap.size w2.heap.size w2.heap.size (w2.heap.size + 1) w3.heap.size w5.heap.size A1 n1 c1 B2 m2 d2 Aa na ca' Ba ma da Ab nb cb' Bb mb db s.1 s.2 W5 :=
    ⟨HBW3.out.le hb56, (BH4.out.mono hb56).c0, (BW4.out.mono hb56).c1, ⟨_, RH4.out.mono hb56⟩, ⟨_, Row.low (RW4.out.mono hb56) K0.out⟩, O1.out, O2.out, cellKeep hb56 Z0.out, cellKeep hb56 Z1.out, Row.low (A14.out.mono hb56) KA.out, Row.low (A24.out.mono hb56) KA.out, by rw [hW5]; simp [go_sem], by rw [hW5]; simp [go_sem], Row.low (rb1.mono hb6) K4.out, Row.low (rb2.mono hb6) K4.out, KK.out, Nat.le_refl _, by omega, K3.out, Nat.le_trans K4.out hb5.size⟩
  have AT := Lib.hid at5; have DEF5 := Lib.hid hW5
  have BH6 := Lib.hid (BH4.out.mono hb56); have BW6 := Lib.hid (BW4.out.mono hb56)
  clear at5 hW5 hb56 hb6 hb5 rb1 rb2 q2 QD14 A14 A24 RH4 RW4 BH4 BW4 HBW3 K4 K3 Z0 Z1 DEF3 O1 O2
  have x0 := BH6.out.c0; have x1 := BH6.out.c1; have x2 := AT.out.a0; have x3 := AT.out.a1
  have x4 := BW6.out.c0; have x5 := BW6.out.c1; have x6 := AT.out.b0; have x7 := AT.out.b1
  rw [DEF5.out] at x0 x1 x2 x3 x4 x5 x6 x7
  go_wp2_with fail
  clear x0 x1 x2 x3 x4 x5 x6 x7
  rw [← DEF5.out]
  refine (ceqI BH6.out.is AT.out.boxA.is true (eqC_self s.1)).mono ?_
  rintro _ w7 ⟨_, rfl, hb7, rfl⟩
  have AT7 := Lib.hid (AT.out.mono hb7); have BW7 := Lib.hid (BW6.out.mono hb7)
  have x4 := BW7.out.c0; have x5 := BW7.out.c1; have x6 := AT7.out.b0; have x7 := AT7.out.b1
  clear hb7 AT BH6 BW6 DEF5
  go_wp2_with fail
  clear x4 x5 x6 x7
  refine (ceqI BW7.out.is AT7.out.boxB.is true (eqC_self s.2)).mono ?_
  rintro _ w8 ⟨_, rfl, hb8, rfl⟩
  have AT8 := Lib.hid (AT7.out.mono hb8)
  have ln1 := AT8.out.len1; have ln2 := AT8.out.len2
  clear hb8 AT7 BW7
  go_wp2
  generalize w1.heap.size = K1 at *
  generalize w3.heap.size = bA at *
  generalize w5.heap.size = bB at *
  generalize w2.heap.size + 1 = bW at *
  generalize w2.heap.size = K at *
  go_loopw [13] (fun i wr => AlkRel W0 K1 K K bW bA bB A1 n1 c1 B2 m2 d2 Aa na ca' Ba ma da Ab nb cb' Bb mb db s.1 s.2 n1 i wr) (fun i _ => n1 - (intOf i).toNat)
  case atStart => exact ⟨0, rfl, Nat.zero_le _, AT8.out⟩
  case round =>
    clear AT8
    obtain ⟨k, rfl, hk, hat⟩ := hrel
    have AT := Lib.hid hat
    by_cases hlt : k < n1
    · obtain ⟨g, y', rfl, k1, k2, st⟩ := hat.first hlt
      have ST := Lib.hid st
      have h0 := hat.h0
      clear hat st
      go_wp2
      go_roundw
      case rel => exact ⟨k + 1, by simp, hlt, ST.out _⟩
      case measure => simp [intOf]; omega
    · have h0 := hat.h0
      clear hat
      go_wp2
      clear h0
      go_loopw [14] (fun i wr => AlkRel W0 K1 K K bW bA bB A1 n1 c1 B2 m2 d2 Aa na ca' Ba ma da Ab nb cb' Bb mb db s.1 s.2 m2 i wr) (fun i _ => m2 - (intOf i).toNat)
      case atStart => exact ⟨0, rfl, Nat.zero_le _, AT.out⟩
      case round =>
        clear AT
        obtain ⟨k', rfl, hk', hat⟩ := hrel
        have AT := Lib.hid hat
        by_cases hlt' : k' < m2
        · obtain ⟨g, y', rfl, k1, k2, st⟩ := hat.second hlt'
          have ST := Lib.hid st
          have h0 := hat.w1
          clear hat st
          go_wp2
          go_roundw
          case rel => exact ⟨k' + 1, by simp, hlt', ST.out _⟩
          case measure => simp [intOf]; omega
        · have h0 := hat.w1
          have SS1 := Lib.hid (SS.out.mono hat.below); have MM1 := Lib.hid (MM.out.mono hat.below); have BP1 := Lib.hid (BP.out.mono hat.below); have HBr := Lib.hid (HB.out.le hat.below)
          clear hat
          go_wp2_with fail
          clear h0
          refine wp_region_M mixed (by kernel_rfl) ?_
          refine MDerR.step (Ob.move Wanted.free Has.oldIs) ?_
          refine MDerR.step (Ob.call1 Wanted.free entSHas (Has.new 0 0) (fun w1 u hb1 (hu : Is (.pointer (some ⟨N, 0, none⟩)) w1 u) => hasL SS1.out OK.out hb1 hu)) ?_
          refine MDerR.step (Ob.load (F := IsCon s.1) Wanted.free Has.oldIs (fun w1 v hb1 hv => AT.out.boxA.loadI hb1 hv)) ?_
          refine MDerR.step (Ob.call2 Wanted.free entCeq (Has.new 1 1) (Has.new 2 0) (fun w1 u v hb1 (hu : IsCon s.1 w1 u) (hv : IsCon s.1 w1 v) => ceqI hu hv true (eqC_self s.1))) ?_
          refine MDerR.step (Ob.not Wanted.free (Has.new 3 0)) ?_
          refine MDerR.step (Ob.move Wanted.free (Has.new 4 0)) ?_
          refine MDerR.step (Ob.move (Wanted.on 5 0) Has.oldIs) ?_
          refine MDerR.step (Ob.call1 (Wanted.on 5 1) entWrote (Has.new 6 0) (fun w1 u hb1 (hu : Is (.pointer (some ⟨N, 0, none⟩)) w1 u) => wroteL SS1.out OK.out hb1 hu)) ?_
          refine MDerR.step (Ob.load (F := IsCon s.2) (Wanted.on 5 2) Has.oldIs (fun w1 v hb1 hv => AT.out.boxB.loadI hb1 hv)) ?_
          refine MDerR.step (Ob.call2 (Wanted.on 5 3) entCeq (Has.new 7 1) (Has.new 8 0) (fun w1 u v hb1 (hu : IsCon s.2 w1 u) (hv : IsCon s.2 w1 v) => ceqI hu hv true (eqC_self s.2))) ?_
          refine MDerR.step (Ob.not (Wanted.on 5 4) (Has.new 9 0)) ?_
          refine MDerR.step (Ob.pickF Wanted.free (Has.new 5 5) (Has.new 10 0)) ?_
          simp only [MDerR, dstsOf, List.map, EndM, List.reverse_cons, List.reverse_nil, List.nil_append, List.cons_append]
          intro wE hE
          iterate 1 (rintro _ rfl)
          rintro _ _h1
          rintro _ _h2
          iterate 4 (rintro _ rfl)
          rintro _ _h7
          rintro _ _h8
          iterate 3 (rintro _ rfl)
          simp only [Act.put, List.setIfInBounds_toArray, List.set_cons_zero, List.set_cons_succ]
          have SS2 := Lib.hid (SS1.out.mono hE); have MM2 := Lib.hid (MM1.out.mono hE); have BP2 := Lib.hid (BP1.out.mono hE); have HB2 := Lib.hid (HBr.out.le hE)
          clear hE _h1 _h2 _h7 _h8 SS1 MM1 BP1 HBr AT SS MM BP HB
          generalize wE = w9 at *
          have x0 := BP2.out.c0; have x1 := BP2.out.c1
          cases hvp : validC p with
          | false =>
            have HVP := Lib.hid hvp
            clear hvp
            go_wp2_with fail
            refine (cvalidI BP2.out.is false HVP.out).mono ?_
            rintro _ wa ⟨_, rfl, hba, rfl⟩
            have BP3 := Lib.hid (BP2.out.mono hba); have HB3 := Lib.hid (HB2.out.le hba)
            clear x0 x1 hba BP2 HB2
            have x0 := BP3.out.c0; have x1 := BP3.out.c1
            go_wp2_with fail
            refine (krefusedS BP3.out.con HVP.out).mono ?_
            rintro _ wb ⟨_, rfl, hbb, rfl⟩
            have HB4 := Lib.hid (HB3.out.le hbb)
            clear hbb x0 x1
            go_wp2
            go_ret
            exact retB rfl HB4.out
          | true =>
            have HVP := Lib.hid hvp
            clear hvp
            have OKP := ok_iff.1 HVP.out
            have W1 := Lib.hid (win_all AL.out.t1.ok OKP AL.out.e1 6); have W2 := Lib.hid (win_all AL.out.t2.ok OKP AL.out.e2 9)
            clear OKP
            obtain ⟨b1, hb1⟩ : ∃ b1, mo.2.all (hasC p) = b1 := ⟨_, rfl⟩
            obtain ⟨b2, hb2⟩ : ∃ b2, mo.1.all (hasC p) = b2 := ⟨_, rfl⟩
            rw [hb2] at W1
            rw [hb1] at W2
            have H1 := Lib.hid hb1; have H2 := Lib.hid hb2
            clear hb1 hb2
            go_wp2_with fail
            refine (cvalidI BP2.out.is true HVP.out).mono ?_
            rintro _ wa ⟨_, rfl, hba, rfl⟩
            have BP3 := Lib.hid (BP2.out.mono hba); have HB3 := Lib.hid (HB2.out.le hba); have SS3 := Lib.hid (SS2.out.mono hba); have MM3 := Lib.hid (MM2.out.mono hba)
            clear x0 x1 hba BP2 HB2 SS2 MM2
            obtain ⟨X1, x1, y1, X2, x2, y2, q0, q1, qd0, qd1, _, _⟩ := MM3.out
            have QD0 := Lib.hid qd0; have QD1 := Lib.hid qd1; have Q0 := Lib.hid q0; have Q1 := Lib.hid q1
            clear q0 q1 qd0 qd1
            go_wp2_with fail
            refine wp_region_M mixed (by kernel_rfl) ?_
            refine MDerR.step (Ob.move Wanted.free Has.oldIs) ?_
            refine MDerR.step (Ob.nilV Wanted.free (Has.new 0 0)) ?_
            refine MDerR.step (Ob.fieldV Wanted.free (Has.new 1 0) (fun w1 => field_mod1)) ?_
            refine MDerR.step (Ob.loadV Wanted.free (Has.new 2 0) (fun w1 hb1 => load_sl hb1 Q1.out)) ?_
            refine MDerR.step (Ob.load (F := IsCon p) Wanted.free Has.oldIs (fun w1 v hb1 hv => BP3.out.loadI hb1 hv)) ?_
            refine MDerR.step (Ob.call2 Wanted.free entWithinL (Has.new 3 1) (Has.new 4 0) (fun w1 u v hb1 (hu : Is (.slice X2 x2 y2) w1 u) (hv : IsCon p w1 v) => withinL hu QD1.out hb1 hv b1 H1.out)) ?_
            simp only [MDerR, dstsOf, List.map, EndM, List.reverse_cons, List.reverse_nil, List.nil_append, List.cons_append]
            intro wE hE
            iterate 4 (rintro _ rfl)
            rintro _ _h4
            iterate 1 (rintro _ rfl)
            simp only [Act.put, List.setIfInBounds_toArray, List.set_cons_zero, List.set_cons_succ]
            have BP4 := Lib.hid (BP3.out.mono hE); have HB4 := Lib.hid (HB3.out.le hE); have SS4 := Lib.hid (SS3.out.mono hE)
            have Q04 := Lib.hid (cellKeep hE Q0.out); have QD04 := Lib.hid (QD0.out.mono hE)
            clear hE _h4 BP3 HB3 SS3 MM3 Q0 Q1 QD0 QD1
            generalize wE = w10 at *
            cases b1
            · skip
              go_wp2_with fail
              refine wp_region_M mixed (by kernel_rfl) ?_
              refine MDerR.step (Ob.move Wanted.free Has.oldIs) ?_
              refine MDerR.step (Ob.nilV Wanted.free (Has.new 0 0)) ?_
              refine MDerR.step (Ob.fieldV Wanted.free (Has.new 1 0) (fun w1 => field_mod0)) ?_
              refine MDerR.step (Ob.loadV Wanted.free (Has.new 2 0) (fun w1 hb1 => load_sl hb1 Q04.out)) ?_
              refine MDerR.step (Ob.load (F := IsCon p) Wanted.free Has.oldIs (fun w1 v hb1 hv => BP4.out.loadI hb1 hv)) ?_
              refine MDerR.step (Ob.call2 Wanted.free entWithinL (Has.new 3 1) (Has.new 4 0) (fun w1 u v hb1 (hu : Is (.slice X1 x1 y1) w1 u) (hv : IsCon p w1 v) => withinL hu QD04.out hb1 hv b2 H2.out)) ?_
              simp only [MDerR, dstsOf, List.map, EndM, List.reverse_cons, List.reverse_nil, List.nil_append, List.cons_append]
              intro wE hE
              iterate 4 (rintro _ rfl)
              rintro _ _h4
              iterate 1 (rintro _ rfl)
              simp only [Act.put, List.setIfInBounds_toArray, List.set_cons_zero, List.set_cons_succ]
              have BP5 := Lib.hid (BP4.out.mono hE); have HB5 := Lib.hid (HB4.out.le hE); have SS5 := Lib.hid (SS4.out.mono hE)
              clear hE _h4
              generalize wE = w11 at *
              have x0 := BP5.out.c0; have x1 := BP5.out.c1
              cases b2
              · skip
                go_wp2_with fail
                refine (ksafe SS5.out OK.out BP5.out.con LP.out HVP.out _ (by rw [W1.out, W2.out]; rfl)).mono ?_
                rintro _ wb ⟨_, rfl, hbb, rfl⟩
                have HB6 := Lib.hid (HB5.out.le hbb)
                clear hbb x0 x1
                go_wp2
                go_ret
                exact retB rfl HB6.out
              · skip
                go_wp2_with fail
                refine (ksafe SS5.out OK.out BP5.out.con LP.out HVP.out _ (by rw [W1.out, W2.out]; rfl)).mono ?_
                rintro _ wb ⟨_, rfl, hbb, rfl⟩
                have HB6 := Lib.hid (HB5.out.le hbb)
                clear hbb x0 x1
                go_wp2
                go_ret
                exact retB rfl HB6.out
            · skip
              go_wp2_with fail
              refine wp_region_M mixed (by kernel_rfl) ?_
              refine MDerR.step (Ob.move Wanted.free Has.oldIs) ?_
              refine MDerR.step (Ob.nilV Wanted.free (Has.new 0 0)) ?_
              refine MDerR.step (Ob.fieldV Wanted.free (Has.new 1 0) (fun w1 => field_mod0)) ?_
              refine MDerR.step (Ob.loadV Wanted.free (Has.new 2 0) (fun w1 hb1 => load_sl hb1 Q04.out)) ?_
              refine MDerR.step (Ob.load (F := IsCon p) Wanted.free Has.oldIs (fun w1 v hb1 hv => BP4.out.loadI hb1 hv)) ?_
              refine MDerR.step (Ob.call2 Wanted.free entWithinL (Has.new 3 1) (Has.new 4 0) (fun w1 u v hb1 (hu : Is (.slice X1 x1 y1) w1 u) (hv : IsCon p w1 v) => withinL hu QD04.out hb1 hv b2 H2.out)) ?_
              simp only [MDerR, dstsOf, List.map, EndM, List.reverse_cons, List.reverse_nil, List.nil_append, List.cons_append]
              intro wE hE
              iterate 4 (rintro _ rfl)
              rintro _ _h4
              iterate 1 (rintro _ rfl)
              simp only [Act.put, List.setIfInBounds_toArray, List.set_cons_zero, List.set_cons_succ]
              have BP5 := Lib.hid (BP4.out.mono hE); have HB5 := Lib.hid (HB4.out.le hE); have SS5 := Lib.hid (SS4.out.mono hE)
              clear hE _h4
              generalize wE = w11 at *
              have x0 := BP5.out.c0; have x1 := BP5.out.c1
              cases b2
              · skip
                go_wp2_with fail
                refine (ksafe SS5.out OK.out BP5.out.con LP.out HVP.out _ (by rw [W1.out, W2.out]; rfl)).mono ?_
                rintro _ wb ⟨_, rfl, hbb, rfl⟩
                have HB6 := Lib.hid (HB5.out.le hbb)
                clear hbb x0 x1
                go_wp2
                go_ret
                exact retB rfl HB6.out
              · skip
                go_wp2_with fail
                refine (ksafe SS5.out OK.out BP5.out.con LP.out HVP.out _ (by rw [W1.out, W2.out]; rfl)).mono ?_
                rintro _ wb ⟨_, rfl, hbb, rfl⟩
                have HB6 := Lib.hid (HB5.out.le hbb)
                clear hbb x0 x1
                go_wp2
                go_ret
                exact retB rfl HB6.out
theorem entAlike : Enters Try.prog 27 := enters_of Try.func27 (by kernel_rfl) rfl
end Go.Proofs.Ytjbakmmmgejhlaa

/-
  session.Read, session.Write, once more: where the contexts' dots lie. (Printed by s26.py from XS3, XS4, XS18.)
-/
namespace Go.Proofs.Ytjbakmmmgejhlaa
open Go.RowKit

/-- A session whose dots lie in blocks of which p holds. -/
def SessAtP (p : Nat → Prop) (N : Nat) (h r : Ctx) (w : World) : Prop := ∃ A n ca B m cb A2 n2 ca2 B2 m2 cb2, w.cell? ⟨N, 0, none⟩ = some (.slice A n ca) ∧ w.cell? ⟨N, 1, none⟩ = some (.slice B m cb) ∧ w.cell? ⟨N, 2, none⟩ = some (.slice A2 n2 ca2) ∧ w.cell? ⟨N, 3, none⟩ = some (.slice B2 m2 cb2) ∧
  Con w A n ca B m cb h ∧ Con w A2 n2 ca2 B2 m2 cb2 r ∧ (∀ o, w.frozen? ⟨N, o, none⟩ = false) ∧ NoInt w N ∧ Off p A h.1 ∧ Off p B h.2 ∧ Off p A2 r.1 ∧ Off p B2 r.2
section
variable {p q : Nat → Prop} {N M : Nat} {h r : Ctx} {w w1 : World} {v : Value}
theorem SessAtP.sess (s : SessAtP p N h r w) : SessAt N h r w := by
  obtain ⟨A, n, ca, B, m, cb, A2, n2, ca2, B2, m2, cb2, c0, c1, c2, c3, k1, k2, f, ni, _⟩ := s
  exact ⟨A, n, ca, B, m, cb, A2, n2, ca2, B2, m2, cb2, c0, c1, c2, c3, k1, k2, f, ni⟩
theorem SessAtP.size (s : SessAtP p N h r w) : N < w.heap.size := s.sess.size
theorem SessAtP.ni (s : SessAtP p N h r w) : NoInt w N := s.sess.ni
theorem SessAtP.mono (s : SessAtP p N h r w) (hb : Below w.heap.size w w1) : SessAtP p N h r w1 := by
  have hz := s.size
  obtain ⟨A, n, ca, B, m, cb, A2, n2, ca2, B2, m2, cb2, c0, c1, c2, c3, k1, k2, f, ni, o⟩ := s
  exact ⟨A, n, ca, B, m, cb, A2, n2, ca2, B2, m2, cb2, cellKeep hb c0, cellKeep hb c1, cellKeep hb c2, cellKeep hb c3, k1.mono hb, k2.mono hb, fun o => (hb.frozen (p := ⟨N, o, none⟩) hz).trans (f o), ni.mono hb hz, o⟩
theorem SessAtP.hole (s : SessAtP p M h r w) (ni : NoInt w N) (hh : Hole N w w1) (hn : M ≠ N) : SessAtP p M h r w1 := by
  have hz := s.size
  obtain ⟨A, n, ca, B, m, cb, A2, n2, ca2, B2, m2, cb2, c0, c1, c2, c3, k1, k2, f, nM, o⟩ := s
  exact ⟨A, n, ca, B, m, cb, A2, n2, ca2, B2, m2, cb2, hh.keep (p := ⟨M, 0, none⟩) hn c0, hh.keep (p := ⟨M, 1, none⟩) hn c1, hh.keep (p := ⟨M, 2, none⟩) hn c2, hh.keep (p := ⟨M, 3, none⟩) hn c3, k1.hole ni hh, k2.hole ni hh, fun o => (hh.frozen (p := ⟨M, o, none⟩) hz hn).trans (f o), nM.hole hh hz hn, o⟩
theorem SessAtP.load0 (s : SessAtP p N h r w) (hb : Below w.heap.size w w1) (hv : Is (.pointer (some ⟨N, 0, none⟩)) w1 v) : ∃ u, (Instr.loadAt 31 v).run Try.prog w1 = .ok u w1 ∧ IsCon h w1 u := s.sess.load0 hb hv
theorem SessAtP.load1 (s : SessAtP p N h r w) (hb : Below w.heap.size w w1) (hv : Is (.pointer (some ⟨N, 2, none⟩)) w1 v) : ∃ u, (Instr.loadAt 31 v).run Try.prog w1 = .ok u w1 ∧ IsCon r w1 u := s.sess.load1 hb hv
theorem Dots.offAny {A : Option Addr} {n c : Nat} {l : List Dot} (d : Dots w A n c l) (hp : ∀ b, b < w.heap.size → p b) : Off p A l := fun hl a ha => hp _ (d.lt hl a ha)
/-- Dots that were there lie where anything that was there may lie. -/
theorem SessAt.anyP (s : SessAt N h r w) (hp : ∀ b, b < w.heap.size → p b) : SessAtP p N h r w := by
  obtain ⟨A, n, ca, B, m, cb, A2, n2, ca2, B2, m2, cb2, c0, c1, c2, c3, k1, k2, f, ni⟩ := s
  exact ⟨A, n, ca, B, m, cb, A2, n2, ca2, B2, m2, cb2, c0, c1, c2, c3, k1, k2, f, ni, k1.v.offAny hp, k1.k.offAny hp, k2.v.offAny hp, k2.k.offAny hp⟩
/-- An append to a row in which its dots do not lie. -/
theorem SessAtP.grown {row : Option Nat} (s : SessAtP (fun b => some b ≠ row) N h r w) (hg : w.grownBy w1 row) (hn : some N ≠ row) : SessAtP (fun b => some b ≠ row) N h r w1 := by
  have hz := s.size
  obtain ⟨A, n, ca, B, m, cb, A2, n2, ca2, B2, m2, cb2, c0, c1, c2, c3, k1, k2, f, ni, o1, o2, o3, o4⟩ := s
  have hbl : w1.heap[N]? = w.heap[N]? := hg.block N hz hn
  exact ⟨A, n, ca, B, m, cb, A2, n2, ca2, B2, m2, cb2, hg.cell c0 hn, hg.cell c1 hn, hg.cell c2 hn, hg.cell c3 hn, ⟨k1.v.grownO hg o1, k1.k.grownO hg o2⟩, ⟨k2.v.grownO hg o3, k2.k.grownO hg o4⟩, fun o => (World.frozen?_of_block (w := w) (a := ⟨N, o, none⟩) hbl).trans (f o), fun o x e => ni o x ((World.cell?_of_block (w := w) (a := ⟨N, o, none⟩) hbl).symm.trans e), o1, o2, o3, o4⟩
end
def SPostP (p : Nat → Prop) (N : Nat) (h r : Ctx) (w : World) (g e : Int) (en : Ending) (w' : World) : Prop := en = .returned (.tuple #[.int .i64 g, .int .i64 e]) ∧ Hole N w w' ∧ SessAtP p N h r w'
set_option maxRecDepth 100000 in
set_option maxHeartbeats 4000000 in
theorem sreadP (p : Nat → Prop) (N : Nat) (A B : Option Addr) (n ca m cb : Nat) (h r c : Ctx) (w : World) (hs : SessAtP p N h r w) (hp : ∀ b, w.heap.size ≤ b → p b) (hc : Con w A n ca B m cb c) (lh : h.1.length + h.2.length ≤ 1000) (lr : r.1.length + r.2.length ≤ 1000) (lc : c.1.length + c.2.length ≤ 1000) (vh : validC h = true) (vr : validC r = true) (vc : validC c = true) :
    Calls Try.prog 16 #[.pointer (some ⟨N, 0, none⟩), .agg #[.slice A n ca, .slice B m cb]] w (SPostP p N (unionC h c) r w (winS r c 1 + winS h c 2) 0) := by
  obtain ⟨W, hWdef⟩ : ∃ W, W = w.alloc (conBox A n ca B m cb) := ⟨_, rfl⟩
  have hb0 : Below w.heap.size w W := by rw [hWdef]; go_grown
  have bc : Boxed w.heap.size A B n ca m cb c W := by rw [hWdef]; exact Boxed.new hc
  have HPP := Lib.hid hp
  clear hp
  have DEF := Lib.hid hWdef; have HB := Lib.hid hb0; have BC := Lib.hid bc; have SS := Lib.hid (hs.mono hb0)
  have LH := Lib.hid lh; have LR := Lib.hid lr; have LC := Lib.hid lc; have VH := Lib.hid vh; have VR := Lib.hid vr; have VC := Lib.hid vc
  clear hWdef hb0 bc hs hc lh lr lc vh vr vc
  go_enter Try.func16, Try.ntmps16
  go_wp2_with fail
  rw [← DEF.out]
  refine (cvalidI BC.out.is true VC.out).mono ?_
  rintro _ w1 ⟨_, rfl, hb1, rfl⟩
  have HB1 := Lib.hid (HB.out.le hb1); have BC1 := Lib.hid (BC.out.mono hb1); have SS1 := Lib.hid (SS.out.mono hb1)
  clear hb1 HB BC SS DEF
  go_wp2_with fail
  refine wp_region_M mixed (by kernel_rfl) ?_
  refine MDerR.step (Ob.move Wanted.free Has.oldIs) ?_
  refine MDerR.step (Ob.nilV Wanted.free (Has.new 0 0)) ?_
  refine MDerR.step (Ob.fieldV Wanted.free (Has.new 1 0) (fun w1 => field_sess1)) ?_
  refine MDerR.step (Ob.load (F := IsCon r) Wanted.free (Has.new 2 0) (fun w1 v hb1 hv => SS1.out.load1 hb1 hv)) ?_
  refine MDerR.step (Ob.load (F := IsCon c) Wanted.free Has.oldIs (fun w1 v hb1 hv => BC1.out.loadI hb1 hv)) ?_
  refine MDerR.step (Ob.call3 Wanted.free entWithout (Has.cst _) (Has.new 3 1) (Has.new 4 0) (fun w1 q u v hb1 (hq : Is (.int .i64 1) w1 q) (hu : IsCon r w1 u) (hv : IsCon c w1 v) => withoutI hq hu hv LR.out LC.out VR.out VC.out (winS r c 1) rfl)) ?_
  refine MDerR.step (Ob.move Wanted.free Has.oldIs) ?_
  refine MDerR.step (Ob.nilV Wanted.free (Has.new 6 0)) ?_
  refine MDerR.step (Ob.fieldV Wanted.free (Has.new 7 0) (fun w1 => field_sess0)) ?_
  refine MDerR.step (Ob.load (F := IsCon h) Wanted.free (Has.new 8 0) (fun w1 v hb1 hv => SS1.out.load0 hb1 hv)) ?_
  refine MDerR.step (Ob.load (F := IsCon c) Wanted.free Has.oldIs (fun w1 v hb1 hv => BC1.out.loadI hb1 hv)) ?_
  refine MDerR.step (Ob.call3 Wanted.free entWithout (Has.cst _) (Has.new 9 1) (Has.new 10 0) (fun w1 q u v hb1 (hq : Is (.int .i64 2) w1 q) (hu : IsCon h w1 u) (hv : IsCon c w1 v) => withoutI hq hu hv LH.out LC.out VH.out VC.out (winS h c 2) rfl)) ?_
  refine MDerR.step (Ob.binV Wanted.free (Has.new 5 6) (Has.new 11 0) (fun w1 => bit_read)) ?_
  refine MDerR.step (Ob.assign Wanted.free (Has.new 12 0)) ?_
  simp only [MDerR, dstsOf, List.map, EndM, List.reverse_cons, List.reverse_nil, List.nil_append, List.cons_append]
  intro wE hE
  iterate 3 (rintro _ rfl)
  rintro _ _h3
  rintro _ _h4
  iterate 4 (rintro _ rfl)
  rintro _ _h9
  rintro _ _h10
  iterate 3 (rintro _ rfl)
  simp only [Act.put, List.setIfInBounds_toArray, List.set_cons_zero, List.set_cons_succ]
  have HB2 := Lib.hid (HB1.out.le hE); have BC2 := Lib.hid (BC1.out.mono hE); have SS2 := Lib.hid (SS1.out.mono hE)
  clear hE HB1 BC1 SS1
  generalize wE = w2 at *
  generalize winS r c 1 + winS h c 2 = gg at *
  go_wp2_with fail
  refine wp_region_MU [0, 1, 2, 3, 4, 5, 6, 7, 8, 9, 10, 11] 10 8 rfl (by kernel_rfl) mixed (by kernel_rfl) (by kernel_rfl) (by kernel_rfl) (by decide) (by kernel_rfl) (by kernel_rfl) (fun _ d _ _ _ h => by cases d <;> exact h) ?_
  refine MDerL.step (Ob.move Wanted.free Has.oldIs) ?_
  refine MDerL.step (Ob.nilV Wanted.free (Has.new 0 0)) ?_
  refine MDerL.step (Ob.fieldV Wanted.free (Has.new 1 0) (fun w1 => field_sess0)) ?_
  refine MDerL.step (Ob.load (F := IsCon h) Wanted.free (Has.new 2 0) (fun w1 v hb1 hv => SS2.out.load0 hb1 hv)) ?_
  refine MDerL.step (Ob.load (F := IsCon c) Wanted.free Has.oldIs (fun w1 v hb1 hv => BC2.out.loadI hb1 hv)) ?_
  refine MDerL.step (Ob.call2 Wanted.free entSUnion (Has.new 3 1) (Has.new 4 0) (fun w1 u v hb1 (hu : IsCon h w1 u) (hv : IsCon c w1 v) => unionB (B := w2.heap.size) hu hv hb1.size LH.out LC.out VH.out VC.out)) ?_
  refine MDerL.step (Ob.move Wanted.free (Has.new 5 0)) ?_
  refine MDerL.step (Ob.extract (F := IsConA w2.heap.size (unionC h c)) Wanted.free (Has.new 6 0) (fun w1 v hb1 hv => ext0 (F := IsConA w2.heap.size (unionC h c)) hv)) ?_
  refine MDerL.step (Ob.extract (F := IsI 0) Wanted.free (Has.new 6 1) (fun w1 v hb1 hv => ext1 (F := IsConA w2.heap.size (unionC h c)) hv)) ?_
  refine MDerL.step (Ob.allocCon Wanted.free) ?_
  intro wE hE
  change EndM _ [some 30, some 31, some 32, some 33, some 34, some 35, some 29, some 36, some 37, some 7] _ _ _
  simp only [EndM, List.reverse_cons, List.reverse_nil, List.nil_append, List.cons_append]
  iterate 3 (rintro _ rfl)
  rintro _ _g3
  rintro _ _g4
  rintro _ _g5
  rintro _ _g6
  rintro _ ⟨A7, n7, ca7, B7, m7, cb7, rfl, r1, r2, _g7⟩
  iterate 1 (rintro _ rfl)
  rintro _ ⟨N7, rfl, hN7, hs7, p0, p1, pf, pn⟩
  simp only [Act.put, List.setIfInBounds_toArray, List.set_cons_zero, List.set_cons_succ]
  have OF1 := Lib.hid (show Off p A7 (unionC h c).1 from fun _ a ha => HPP.out _ (Nat.le_trans HB2.out.size (Row.from_ r1 a ha)))
  have OF2 := Lib.hid (show Off p B7 (unionC h c).2 from fun _ a ha => HPP.out _ (Nat.le_trans HB2.out.size (Row.from_ r2 a ha)))
  have pf0 := pf 0; have pf1 := pf 1
  refine wpAny_next (i := 10) (by kernel_rfl) rfl rfl ?_
  refine wp_store_to (p := .pointer (some ⟨N7, 0, none⟩)) (v := .agg #[.slice A7 n7 ca7, .slice B7 m7 cb7]) (w' := (wE.setCell ⟨N7, 0, none⟩ (.slice A7 n7 ca7)).setCell ⟨N7, 1, none⟩ (.slice B7 m7 cb7)) rfl rfl rfl rfl (by simp [go_sem, p0, p1, pf0, pf1]) ?_
  refine wpAny_next (i := 11) (by kernel_rfl) rfl rfl ?_
  refine wp_assign_to (d := 8) (v := .int .i64 0) rfl rfl rfl ?_
  simp only [Act.put, List.setIfInBounds_toArray, List.set_cons_zero, List.set_cons_succ]
  refine ⟨by kernel_rfl, ?_⟩
  have hE2 : Below w2.heap.size w2 ((wE.setCell ⟨N7, 0, none⟩ (.slice A7 n7 ca7)).setCell ⟨N7, 1, none⟩ (.slice B7 m7 cb7)) := (hE.setCell (p := ⟨N7, 0, none⟩) hN7 _).setCell (p := ⟨N7, 1, none⟩) hN7 _
  have k7 : Con wE A7 n7 ca7 B7 m7 cb7 (unionC h c) := ⟨r1.asDots, r2.asDots⟩
  have bx : Boxed N7 A7 B7 n7 ca7 m7 cb7 (unionC h c) ((wE.setCell ⟨N7, 0, none⟩ (.slice A7 n7 ca7)).setCell ⟨N7, 1, none⟩ (.slice B7 m7 cb7)) := ⟨cell_far (by simp) (cell_set p0), cell_set (cell_far (by simp) p1), k7.setNN pn p0 rfl⟩
  have BX := Lib.hid bx; have SS3 := Lib.hid (SS2.out.mono hE2); have HB3 := Lib.hid (HB2.out.le hE2)
  clear bx k7 hE2 hE r1 r2 p0 p1 pf pf0 pf1 pn hs7 hN7 SS2 BC2 HB2
  generalize (wE.setCell ⟨N7, 0, none⟩ (.slice A7 n7 ca7)).setCell ⟨N7, 1, none⟩ (.slice B7 m7 cb7) = w3 at *
  obtain ⟨A1, n1, ca1, B1, m1, cb1, A2, n2, ca2, B2, m2, cb2, s0, s1, s2, s3, k1, k2, sf, sn, o1, o2, o3, o4⟩ := SS3.out
  have x0 := BX.out.c0; have x1 := BX.out.c1
  have sf0 := sf 0; have sf1 := sf 1
  have hz := SS3.out.size
  have K2 := Lib.hid k2; have SN := Lib.hid sn; have SF := Lib.hid sf; have HH := Lib.hid (HB3.out.le (Below.refl _ _))
  have O1 := Lib.hid o1; have O2 := Lib.hid o2; have O3 := Lib.hid o3; have O4 := Lib.hid o4
  clear k1 k2 sn sf o1 o2 o3 o4
  go_wp2
  refine bodyPost_ret (v := .tuple #[.int .i64 gg, .int .i64 0]) (by simp [results, Try.results16, go_sem]) rfl ?_
  refine ⟨rfl, ((Hole.of HB3.out).set_ 0 _).set_ 1 _, ?_⟩
  exact ⟨A7, n7, ca7, B7, m7, cb7, A2, n2, ca2, B2, m2, cb2, cell_far (by simp) (cell_set s0), cell_set (cell_far (by simp) s1), cell_far (by simp) (cell_far (by simp) s2), cell_far (by simp) (cell_far (by simp) s3), BX.out.con.setNN SN.out s0 rfl, K2.out.setNN SN.out s0 rfl, fun o => (World.frozen?_setCell _ _ _ _).trans ((World.frozen?_setCell _ _ _ _).trans (SF.out o)), NoInt.set_ (cell_far (by simp) s1) (NoInt.set_ s0 SN.out), OF1.out, OF2.out, O3.out, O4.out⟩
set_option maxRecDepth 100000 in
set_option maxHeartbeats 4000000 in
theorem swriteP (p : Nat → Prop) (x y : Int) (N : Nat) (A B : Option Addr) (n ca m cb : Nat) (h r c : Ctx) (w : World) (hs : SessAtP p N h r w) (hp : ∀ b, w.heap.size ≤ b → p b) (hc : Con w A n ca B m cb c) (lh : h.1.length + h.2.length ≤ 1000) (lr : r.1.length + r.2.length ≤ 1000) (lc : c.1.length + c.2.length ≤ 1000) (vh : validC h = true) (vr : validC r = true) (vc : validC c = true) (vd : validD (x, y) = true) (hn : hasC c (x, y) = false) :
    Calls Try.prog 28 #[.pointer (some ⟨N, 0, none⟩), .agg #[.slice A n ca, .slice B m cb], .agg #[.int .i64 x, .int .i64 y]] w (SPostP p N h (addC r [(x, y)]) w (winS h c 4 + winS r c 8) 0) := by
  obtain ⟨W, hWdef⟩ : ∃ W, W = (w.alloc (conBox A n ca B m cb)).alloc (.cells #[.int .i64 x, .int .i64 y] 27) := ⟨_, rfl⟩
  have hb0 : Below w.heap.size w W := by rw [hWdef]; go_grown
  have bc : Boxed w.heap.size A B n ca m cb c W := ⟨by rw [hWdef]; simp [go_sem], by rw [hWdef]; simp [go_sem], hc.mono hb0⟩
  have q0 : W.cell? ⟨w.heap.size + 1, 0, none⟩ = some (.int .i64 x) := by rw [hWdef]; simp [go_sem]
  have q1 : W.cell? ⟨w.heap.size + 1, 1, none⟩ = some (.int .i64 y) := by rw [hWdef]; simp [go_sem]
  have Q0 := Lib.hid q0; have Q1 := Lib.hid q1; have VD := Lib.hid vd; have HN := Lib.hid hn
  have VL := Lib.hid (show validL [(x, y)] = true by unfold validL; simp [vd])
  clear q0 q1 vd hn
  have HPP := Lib.hid hp
  clear hp
  have DEF := Lib.hid hWdef; have HB := Lib.hid hb0; have BC := Lib.hid bc; have SS := Lib.hid (hs.mono hb0)
  have LH := Lib.hid lh; have LR := Lib.hid lr; have LC := Lib.hid lc; have VH := Lib.hid vh; have VR := Lib.hid vr; have VC := Lib.hid vc
  clear hWdef hb0 bc hs hc lh lr lc vh vr vc
  go_enter Try.func28, Try.ntmps28
  go_wp2_with fail
  rw [← DEF.out]
  refine (cvalidI BC.out.is true VC.out).mono ?_
  rintro _ w1 ⟨_, rfl, hb1, rfl⟩
  have HB1 := Lib.hid (HB.out.le hb1); have BC1 := Lib.hid (BC.out.mono hb1); have SS1 := Lib.hid (SS.out.mono hb1); have P0 := Lib.hid (cellKeep hb1 Q0.out); have P1 := Lib.hid (cellKeep hb1 Q1.out)
  clear hb1 HB BC SS DEF Q0 Q1
  have x0 := P0.out; have x1 := P1.out
  go_wp2_with fail
  refine (dvalid x y w1).mono ?_
  rintro _ v1 ⟨_, rfl, hb1, rfl⟩
  rw [VD.out]
  have HB1' := Lib.hid (HB1.out.le hb1); have BC1' := Lib.hid (BC1.out.mono hb1); have SS1' := Lib.hid (SS1.out.mono hb1); have P0' := Lib.hid (cellKeep hb1 P0.out); have P1' := Lib.hid (cellKeep hb1 P1.out)
  clear hb1 HB1 BC1 SS1 P0 P1 x0 x1
  have x0 := P0'.out; have x1 := P1'.out; have x2 := BC1'.out.c0; have x3 := BC1'.out.c1
  go_wp2_with fail
  refine (chasI (p := (x, y)) BC1'.out.is rfl false HN.out).mono ?_
  rintro _ w1 ⟨_, rfl, hb1, rfl⟩
  have HB1 := Lib.hid (HB1'.out.le hb1); have BC1 := Lib.hid (BC1'.out.mono hb1); have SS1 := Lib.hid (SS1'.out.mono hb1); have P0 := Lib.hid (cellKeep hb1 P0'.out); have P1 := Lib.hid (cellKeep hb1 P1'.out)
  clear hb1 HB1' BC1' SS1' P0' P1' x0 x1 x2 x3
  go_wp2_with fail
  refine wp_region_M mixed (by kernel_rfl) ?_
  refine MDerR.step (Ob.move Wanted.free Has.oldIs) ?_
  refine MDerR.step (Ob.nilV Wanted.free (Has.new 0 0)) ?_
  refine MDerR.step (Ob.fieldV Wanted.free (Has.new 1 0) (fun w1 => field_sess0)) ?_
  refine MDerR.step (Ob.load (F := IsCon h) Wanted.free (Has.new 2 0) (fun w1 v hb1 hv => SS1.out.load0 hb1 hv)) ?_
  refine MDerR.step (Ob.load (F := IsCon c) Wanted.free Has.oldIs (fun w1 v hb1 hv => BC1.out.loadI hb1 hv)) ?_
  refine MDerR.step (Ob.call3 Wanted.free entWithout (Has.cst _) (Has.new 3 1) (Has.new 4 0) (fun w1 q u v hb1 (hq : Is (.int .i64 4) w1 q) (hu : IsCon h w1 u) (hv : IsCon c w1 v) => withoutI hq hu hv LH.out LC.out VH.out VC.out (winS h c 4) rfl)) ?_
  refine MDerR.step (Ob.move Wanted.free Has.oldIs) ?_
  refine MDerR.step (Ob.nilV Wanted.free (Has.new 6 0)) ?_
  refine MDerR.step (Ob.fieldV Wanted.free (Has.new 7 0) (fun w1 => field_sess1)) ?_
  refine MDerR.step (Ob.load (F := IsCon r) Wanted.free (Has.new 8 0) (fun w1 v hb1 hv => SS1.out.load1 hb1 hv)) ?_
  refine MDerR.step (Ob.load (F := IsCon c) Wanted.free Has.oldIs (fun w1 v hb1 hv => BC1.out.loadI hb1 hv)) ?_
  refine MDerR.step (Ob.call3 Wanted.free entWithout (Has.cst _) (Has.new 9 1) (Has.new 10 0) (fun w1 q u v hb1 (hq : Is (.int .i64 8) w1 q) (hu : IsCon r w1 u) (hv : IsCon c w1 v) => withoutI hq hu hv LR.out LC.out VR.out VC.out (winS r c 8) rfl)) ?_
  refine MDerR.step (Ob.binV Wanted.free (Has.new 5 6) (Has.new 11 0) (fun w1 => bit_write)) ?_
  refine MDerR.step (Ob.assign Wanted.free (Has.new 12 0)) ?_
  simp only [MDerR, dstsOf, List.map, EndM, List.reverse_cons, List.reverse_nil, List.nil_append, List.cons_append]
  intro wE hE
  iterate 3 (rintro _ rfl)
  rintro _ _h3
  rintro _ _h4
  iterate 4 (rintro _ rfl)
  rintro _ _h9
  rintro _ _h10
  iterate 3 (rintro _ rfl)
  simp only [Act.put, List.setIfInBounds_toArray, List.set_cons_zero, List.set_cons_succ]
  have HB2 := Lib.hid (HB1.out.le hE); have BC2 := Lib.hid (BC1.out.mono hE); have SS2 := Lib.hid (SS1.out.mono hE); have R0 := Lib.hid (cellKeep hE P0.out); have R1 := Lib.hid (cellKeep hE P1.out)
  clear hE HB1 BC1 SS1 P0 P1
  generalize wE = w2 at *
  generalize winS h c 4 + winS r c 8 = gg at *
  go_wp2_with fail
  refine wp_region_MU [0, 1, 2, 3, 4, 5, 6, 7, 8, 9, 10, 11, 12] 11 9 rfl (by kernel_rfl) mixed (by kernel_rfl) (by kernel_rfl) (by kernel_rfl) (by decide) (by kernel_rfl) (by kernel_rfl) (fun _ d _ _ _ h => by cases d <;> exact h) ?_
  refine MDerL.step (Ob.move Wanted.free Has.oldIs) ?_
  refine MDerL.step (Ob.nilV Wanted.free (Has.new 0 0)) ?_
  refine MDerL.step (Ob.fieldV Wanted.free (Has.new 1 0) (fun w1 => field_sess1)) ?_
  refine MDerL.step (Ob.load (F := IsCon r) Wanted.free (Has.new 2 0) (fun w1 v hb1 hv => SS2.out.load1 hb1 hv)) ?_
  refine MDerL.step (Ob.loadV Wanted.free Has.oldIs (fun w1 hb1 => load_dot hb1 R0.out R1.out)) ?_
  refine MDerL.step (Ob.mkDots128 Wanted.free (Has.new 4 0)) ?_
  refine MDerL.step (Ob.call2 Wanted.free entSAdd (Has.new 3 2) (Has.new 5 0) (fun w1 u v hb1 (hu : IsCon r w1 u) (hv : IsDots [(x, y)] w1 v) => addB (b := w2.heap.size) hu hv hb1.size LR.out (by simp) VR.out VL.out)) ?_
  refine MDerL.step (Ob.move Wanted.free (Has.new 6 0)) ?_
  refine MDerL.step (Ob.extract (F := IsConA w2.heap.size (addC r [(x, y)])) Wanted.free (Has.new 7 0) (fun w1 v hb1 hv => ext0 (F := IsConA w2.heap.size (addC r [(x, y)])) hv)) ?_
  refine MDerL.step (Ob.extract (F := IsI 0) Wanted.free (Has.new 7 1) (fun w1 v hb1 hv => ext1 (F := IsConA w2.heap.size (addC r [(x, y)])) hv)) ?_
  refine MDerL.step (Ob.allocCon Wanted.free) ?_
  intro wE hE
  change EndM _ [some 42, some 43, some 44, some 45, some 46, some 47, some 48, some 41, some 49, some 50, some 9] _ _ _
  simp only [EndM, List.reverse_cons, List.reverse_nil, List.nil_append, List.cons_append]
  iterate 3 (rintro _ rfl)
  rintro _ _g3
  iterate 1 (rintro _ rfl)
  rintro _ _g5
  rintro _ _g6
  rintro _ _g7
  rintro _ ⟨A7, n7, ca7, B7, m7, cb7, rfl, r1, r2, _g8⟩
  iterate 1 (rintro _ rfl)
  rintro _ ⟨N7, rfl, hN7, hs7, p0, p1, pf, pn⟩
  simp only [Act.put, List.setIfInBounds_toArray, List.set_cons_zero, List.set_cons_succ]
  have OF1 := Lib.hid (show Off p A7 (addC r [(x, y)]).1 from fun _ a ha => HPP.out _ (Nat.le_trans HB2.out.size (Row.from_ r1 a ha)))
  have OF2 := Lib.hid (show Off p B7 (addC r [(x, y)]).2 from fun _ a ha => HPP.out _ (Nat.le_trans HB2.out.size (Row.from_ r2 a ha)))
  have pf0 := pf 0; have pf1 := pf 1
  refine wpAny_next (i := 11) (by kernel_rfl) rfl rfl ?_
  refine wp_store_to (p := .pointer (some ⟨N7, 0, none⟩)) (v := .agg #[.slice A7 n7 ca7, .slice B7 m7 cb7]) (w' := (wE.setCell ⟨N7, 0, none⟩ (.slice A7 n7 ca7)).setCell ⟨N7, 1, none⟩ (.slice B7 m7 cb7)) rfl rfl rfl rfl (by simp [go_sem, p0, p1, pf0, pf1]) ?_
  refine wpAny_next (i := 12) (by kernel_rfl) rfl rfl ?_
  refine wp_assign_to (d := 10) (v := .int .i64 0) rfl rfl rfl ?_
  simp only [Act.put, List.setIfInBounds_toArray, List.set_cons_zero, List.set_cons_succ]
  refine ⟨by kernel_rfl, ?_⟩
  have hE2 : Below w2.heap.size w2 ((wE.setCell ⟨N7, 0, none⟩ (.slice A7 n7 ca7)).setCell ⟨N7, 1, none⟩ (.slice B7 m7 cb7)) := (hE.setCell (p := ⟨N7, 0, none⟩) hN7 _).setCell (p := ⟨N7, 1, none⟩) hN7 _
  have k7 : Con wE A7 n7 ca7 B7 m7 cb7 (addC r [(x, y)]) := ⟨r1.asDots, r2.asDots⟩
  have bx : Boxed N7 A7 B7 n7 ca7 m7 cb7 (addC r [(x, y)]) ((wE.setCell ⟨N7, 0, none⟩ (.slice A7 n7 ca7)).setCell ⟨N7, 1, none⟩ (.slice B7 m7 cb7)) := ⟨cell_far (by simp) (cell_set p0), cell_set (cell_far (by simp) p1), k7.setNN pn p0 rfl⟩
  have BX := Lib.hid bx; have SS3 := Lib.hid (SS2.out.mono hE2); have HB3 := Lib.hid (HB2.out.le hE2)
  clear bx k7 hE2 hE r1 r2 p0 p1 pf pf0 pf1 pn hs7 hN7 SS2 BC2 HB2 R0 R1
  generalize (wE.setCell ⟨N7, 0, none⟩ (.slice A7 n7 ca7)).setCell ⟨N7, 1, none⟩ (.slice B7 m7 cb7) = w3 at *
  obtain ⟨A1, n1, ca1, B1, m1, cb1, A2, n2, ca2, B2, m2, cb2, s0, s1, s2, s3, k1, k2, sf, sn, o1, o2, o3, o4⟩ := SS3.out
  have x0 := BX.out.c0; have x1 := BX.out.c1
  have sf0 := sf 2; have sf1 := sf 3
  have hz := SS3.out.size
  have K1 := Lib.hid k1; have SN := Lib.hid sn; have SF := Lib.hid sf
  have O1 := Lib.hid o1; have O2 := Lib.hid o2; have O3 := Lib.hid o3; have O4 := Lib.hid o4
  clear k1 k2 sn sf o1 o2 o3 o4
  go_wp2
  refine bodyPost_ret (v := .tuple #[.int .i64 gg, .int .i64 0]) (by simp [results, Try.results28, go_sem]) rfl ?_
  refine ⟨rfl, ((Hole.of HB3.out).set_ 2 _).set_ 3 _, ?_⟩
  exact ⟨A1, n1, ca1, B1, m1, cb1, A7, n7, ca7, B7, m7, cb7, cell_far (by simp) (cell_far (by simp) s0), cell_far (by simp) (cell_far (by simp) s1), cell_far (by simp) (cell_set s2), cell_set (cell_far (by simp) s3), (K1.out.setN SN.out _).setN (NoInt.set_ s2 SN.out) _, (BX.out.con.setN SN.out _).setN (NoInt.set_ s2 SN.out) _, fun o => (World.frozen?_setCell _ _ _ _).trans ((World.frozen?_setCell _ _ _ _).trans (SF.out o)), NoInt.set_ (cell_far (by simp) s3) (NoInt.set_ s2 SN.out), O1.out, O2.out, OF1.out, OF2.out⟩
theorem kreadsP {p : Nat → Prop} {N : Nat} {s : St} {x : Ctx} {w : World} {A B : Option Addr} {n ca m cb : Nat} (hs : SessAtP p N s.1 s.2 w) (hp : ∀ b, w.heap.size ≤ b → p b) (ok : OkS s) (hc : Con w A n ca B m cb x) (lx : x.1.length + x.2.length ≤ 1000) (vx : validC x = true) (g : Int) (hg : winS s.2 x 1 + winS s.1 x 2 = g) (s' : St) (hs' : (unionC s.1 x, s.2) = s') :
    Calls Try.prog 17 #[.pointer (some ⟨N, 0, none⟩), .agg #[.slice A n ca, .slice B m cb], .int .i64 g, .int .i64 0] w (fun en w' => en = .returned (.bool true) ∧ Hole N w w' ∧ SessAtP p N s'.1 s'.2 w') := by
  subst hg; subst hs'
  have hb : Below w.heap.size w (w.alloc (conBox A n ca B m cb)) := (Below.refl _ _).alloc (Nat.le_refl _) _
  refine (lreads (fun w' => Hole N w w' ∧ SessAtP p N (unionC s.1 x) s.2 w') (.pointer (some ⟨N, 0, none⟩)) (winS s.2 x 1 + winS s.1 x 2) 0 (winS s.2 x 1 + winS s.1 x 2) 0 A B n ca m cb w ?_).mono (by rintro _ _ ⟨rfl, h⟩; exact ⟨by simp, h⟩)
  exact (sreadP p N A B n ca m cb s.1 s.2 x _ (hs.mono hb) (fun b h => hp b (Nat.le_trans hb.size h)) (hc.mono hb) ok.l1 ok.l2 lx ok.v1 ok.v2 vx).mono (by rintro _ _ ⟨rfl, h1, h2⟩; exact ⟨rfl, (Hole.of hb).trans h1, h2⟩)
theorem kwritesP {p : Nat → Prop} {N : Nat} {s : St} {x : Ctx} {u v : Int} {w : World} {A B : Option Addr} {n ca m cb : Nat} (hs : SessAtP p N s.1 s.2 w) (hp : ∀ b, w.heap.size ≤ b → p b) (ok : OkS s) (hc : Con w A n ca B m cb x) (lx : x.1.length + x.2.length ≤ 1000) (vx : validC x = true) (vd : validD (u, v) = true) (hn : hasC x (u, v) = false) (g : Int) (hg : winS s.1 x 4 + winS s.2 x 8 = g) (s' : St) (hs' : (s.1, addC s.2 [(u, v)]) = s') :
    Calls Try.prog 19 #[.pointer (some ⟨N, 0, none⟩), .agg #[.slice A n ca, .slice B m cb], .agg #[.int .i64 u, .int .i64 v], .int .i64 g, .int .i64 0] w (fun en w' => en = .returned (.bool true) ∧ Hole N w w' ∧ SessAtP p N s'.1 s'.2 w') := by
  subst hg; subst hs'
  have hb : Below w.heap.size w ((w.alloc (conBox A n ca B m cb)).alloc (.cells #[.int .i64 u, .int .i64 v] 27)) := by go_grown
  refine (lwrites (fun w' => Hole N w w' ∧ SessAtP p N s.1 (addC s.2 [(u, v)]) w') u v (.pointer (some ⟨N, 0, none⟩)) (winS s.1 x 4 + winS s.2 x 8) 0 (winS s.1 x 4 + winS s.2 x 8) 0 A B n ca m cb w ?_).mono (by rintro _ _ ⟨rfl, h⟩; exact ⟨by simp, h⟩)
  exact (swriteP p u v N A B n ca m cb s.1 s.2 x _ (hs.mono hb) (fun b h => hp b (Nat.le_trans hb.size h)) (hc.mono hb) ok.l1 ok.l2 lx ok.v1 ok.v2 vx vd hn).mono (by rintro _ _ ⟨rfl, h1, h2⟩; exact ⟨rfl, (Hole.of hb).trans h1, h2⟩)
end Go.Proofs.Ytjbakmmmgejhlaa

/-
  SessionLongs, in plain terms: clients that read the same context all the time.
-/
namespace Go.Proofs.Ytjbakmmmgejhlaa
open Go.RowKit

def cA : Ctx := ([(1, 1)], [])
def cO : Ctx := ([], [])
def sA : St := (cA, cO)
def allRead (l : List Vis) : Prop := ∀ v ∈ l, v.w = false ∧ (v.x = cA ∨ v.x = cO)
theorem uni1 : unionC cO cA = cA := by kernel_rfl
theorem uni2 : unionC cA cA = cA := by kernel_rfl
theorem uni3 : unionC cA cO = cA := by kernel_rfl
theorem uni4 : unionC cO cO = cO := by kernel_rfl
theorem step_two {s : St} {v : Vis} (hs : s = st0 ∨ s = sA) (hv : v.w = false ∧ (v.x = cA ∨ v.x = cO)) : stepS s v = st0 ∨ stepS s v = sA := by
  obtain ⟨hw, hx⟩ := hv
  have e : stepS s v = (unionC s.1 v.x, s.2) := by unfold stepS; rw [hw]; rfl
  rw [e]
  rcases hs with rfl | rfl <;> rcases hx with h | h <;> rw [h]
  · exact .inr (by show (unionC cO cA, cO) = sA; rw [uni1]; rfl)
  · exact .inl (by show (unionC cO cO, cO) = st0; rw [uni4]; rfl)
  · exact .inr (by show (unionC cA cA, cO) = sA; rw [uni2]; rfl)
  · exact .inr (by show (unionC cA cO, cO) = sA; rw [uni3]; rfl)
theorem step_A {v : Vis} (hv : v.w = false ∧ (v.x = cA ∨ v.x = cO)) : stepS sA v = sA := by
  obtain ⟨hw, hx⟩ := hv
  have e : stepS sA v = (unionC cA v.x, cO) := by unfold stepS; rw [hw]; rfl
  rw [e]
  rcases hx with h | h <;> rw [h]
  · rw [uni2]; rfl
  · rw [uni3]; rfl
theorem fold_two {c : Int} : ∀ (l : List Vis) (s : St), (s = st0 ∨ s = sA) → allRead l → ((l.filter fun v => v.c == c).foldl stepS s = st0 ∨ (l.filter fun v => v.c == c).foldl stepS s = sA)
  | [], s, hs, _ => hs
  | v :: t, s, hs, hl => by
    have ht : allRead t := fun u hu => hl u (List.mem_cons_of_mem _ hu)
    by_cases h : (v.c == c) = true
    · rw [List.filter_cons_of_pos (p := fun v : Vis => v.c == c) h]; exact fold_two t _ (step_two hs (hl v (List.mem_cons_self ..))) ht
    · rw [List.filter_cons_of_neg (p := fun v : Vis => v.c == c) h]; exact fold_two t s hs ht
theorem fold_A {c : Int} : ∀ (l : List Vis), allRead l → (l.filter fun v => v.c == c).foldl stepS sA = sA
  | [], _ => rfl
  | v :: t, hl => by
    have ht : allRead t := fun u hu => hl u (List.mem_cons_of_mem _ hu)
    by_cases h : (v.c == c) = true
    · rw [List.filter_cons_of_pos (p := fun v : Vis => v.c == c) h, List.foldl_cons, step_A (hl v (List.mem_cons_self ..))]; exact fold_A t ht
    · rw [List.filter_cons_of_neg (p := fun v : Vis => v.c == c) h]; exact fold_A t ht
theorem st_two {l : List Vis} (h : allRead l) (c : Int) : stOf l c = st0 ∨ stOf l c = sA := fold_two l st0 (.inl rfl) h
theorem ok_two {s : St} (h : s = st0 ∨ s = sA) : OkS s := by
  rcases h with rfl | rfl
  · exact ok0
  · exact ⟨by kernel_rfl, by kernel_rfl, by simp [sA, cA, cO], by simp [sA, cA, cO]⟩
theorem allRead_take {l : List Vis} (h : allRead l) (k : Nat) : allRead (l.take k) := fun v hv => h v (List.mem_of_mem_take hv)
theorem fits_two {l : List Vis} (h : allRead l) : Fits l := fun k c => ok_two (st_two (allRead_take h k) c)
theorem bad_two {l : List Vis} (h : allRead l) : l.any badS = false := by
  rw [List.any_eq_false]
  intro v hv
  obtain ⟨hw, hx⟩ := h v hv
  have h1 : validC cA = true := by kernel_rfl
  have h2 : validC cO = true := by kernel_rfl
  unfold badS
  rw [hw]
  rcases hx with e | e <;> rw [e] <;> simp [h1, h2]
theorem len_two {l : List Vis} (h : allRead l) : ∀ v ∈ l, v.x.1.length + v.x.2.length ≤ 1000 := fun v hv => by
  rcases (h v hv).2 with e | e <;> rw [e] <;> simp [cA, cO]
theorem brok_A {s : St} {v : Vis} (hs : s = st0 ∨ s = sA) (hw : v.w = false) (hx : v.x = cA) : brokS s v = 0 := by
  have e : brokS s v = winS s.2 v.x 1 + winS s.1 v.x 2 := by unfold brokS; rw [hw]; rfl
  rw [e, hx]
  rcases hs with rfl | rfl
  · exact (by kernel_rfl : winS cO cA 1 + winS cO cA 2 = 0)
  · exact (by kernel_rfl : winS cO cA 1 + winS cA cA 2 = 0)
theorem brok_O {v : Vis} (hw : v.w = false) (hx : v.x = cO) : brokS sA v = 2 := by
  have e : brokS sA v = winS sA.2 v.x 1 + winS sA.1 v.x 2 := by unfold brokS; rw [hw]; rfl
  rw [e, hx]
  exact (by kernel_rfl : winS cO cO 1 + winS cA cO 2 = 2)
/-- Where all is well. -/
theorem judge_all {asked : Int} : ∀ (t pre : List Vis), (∀ k v, t[k]? = some v → andI (brokS (stOf (pre ++ t.take k) v.c) v) asked = 0) → judgeS asked pre t = (-1, 0)
  | [], _, _ => rfl
  | v :: t, pre, h => by
    rw [judgeS, if_pos (by simpa using h 0 v rfl)]
    refine judge_all t (pre ++ [v]) fun k u hk => ?_
    have := h (k + 1) u (by simpa using hk)
    rwa [List.take_succ_cons, show pre ++ v :: t.take k = (pre ++ [v]) ++ t.take k by simp] at this
theorem judge_first {asked : Int} {x : Vis} : ∀ (t pre : List Vis), (∀ k v, t[k]? = some v → andI (brokS (stOf (pre ++ t.take k) v.c) v) asked = 0) → ¬ andI (brokS (stOf (pre ++ t) x.c) x) asked = 0 → judgeS asked pre (t ++ [x]) = (((pre ++ t).length : Int), andI (brokS (stOf (pre ++ t) x.c) x) asked)
  | [], pre, _, hx => by
    rw [List.nil_append, judgeS, if_neg (by simpa using hx)]; simp
  | v :: t, pre, h, hx => by
    rw [List.cons_append, judgeS, if_pos (by simpa using h 0 v rfl)]
    have e : pre ++ v :: t = (pre ++ [v]) ++ t := by simp
    rw [e] at hx ⊢
    refine judge_first t (pre ++ [v]) (fun k u hk => ?_) hx
    have := h (k + 1) u (by simpa using hk)
    rwa [List.take_succ_cons, show pre ++ v :: t.take k = (pre ++ [v]) ++ t.take k by simp] at this
theorem and0 : andI 0 15 = 0 := by kernel_rfl
theorem and2 : andI 2 15 = 2 := by kernel_rfl

/-- The statement's visits. -/
def longV (k : Nat) : Vis := ⟨((k % 2 : Nat) : Int), false, (0, 0), cA⟩
def longL (k : Nat) : List Vis := (List.range k).map longV
theorem longL_snoc (k : Nat) : longL (k + 1) = longL k ++ [longV k] := by unfold longL; rw [List.range_succ, List.map_append]; rfl
theorem longL_len (k : Nat) : (longL k).length = k := by unfold longL; simp
theorem long_read (k : Nat) : allRead (longL k) := fun v hv => by
  obtain ⟨i, _, rfl⟩ := List.mem_map.1 hv
  exact ⟨rfl, .inl rfl⟩
theorem long_zero (n : Nat) : ∀ k v, (longL n)[k]? = some v → andI (brokS (stOf ([] ++ (longL n).take k) v.c) v) 15 = 0 := fun k v hk => by
  have hm := List.mem_of_getElem? hk
  obtain ⟨i, _, rfl⟩ := List.mem_map.1 hm
  rw [brok_A (st_two (by rw [List.nil_append]; exact allRead_take (long_read n) k) _) rfl rfl, and0]
theorem long_none (n : Nat) : judgeS 15 [] (longL n) = (-1, 0) := judge_all (longL n) [] (long_zero n)
theorem st_long (k : Nat) : stOf (longL (k + 2)) ((k % 2 : Nat) : Int) = sA := by
  have e1 : (longV (k + 1)).c ≠ ((k % 2 : Nat) : Int) := by show (((k + 1) % 2 : Nat) : Int) ≠ ((k % 2 : Nat) : Int); omega
  rw [longL_snoc, stOf_snoc, if_neg e1, longL_snoc, stOf_snoc, if_pos (show (longV k).c = ((k % 2 : Nat) : Int) from rfl)]
  have e : stepS (stOf (longL k) ((k % 2 : Nat) : Int)) (longV k) = (unionC (stOf (longL k) ((k % 2 : Nat) : Int)).1 cA, (stOf (longL k) ((k % 2 : Nat) : Int)).2) := rfl
  rw [e]
  rcases st_two (long_read k) ((k % 2 : Nat) : Int) with h | h <;> rw [h]
  · show (unionC cO cA, cO) = sA; rw [uni1]; rfl
  · show (unionC cA cA, cO) = sA; rw [uni2]; rfl
/-- .. and the last one, which meets nothing. -/
def lastV (k : Nat) : Vis := ⟨((k % 2 : Nat) : Int), false, (0, 0), cO⟩
theorem last_read (k : Nat) : allRead (longL k ++ [lastV k]) := fun v hv => by
  rcases List.mem_append.1 hv with h | h
  · exact long_read k v h
  · rw [List.mem_singleton.1 h]; exact ⟨rfl, .inr rfl⟩
theorem long_last (k : Nat) : judgeS 15 [] (longL (k + 2) ++ [lastV (k + 2)]) = (((k + 2 : Nat) : Int), 2) := by
  have hs : stOf ([] ++ longL (k + 2)) (lastV (k + 2)).c = sA := by
    have : (lastV (k + 2)).c = ((k % 2 : Nat) : Int) := by show (((k + 2) % 2 : Nat) : Int) = _; omega
    rw [this]; exact st_long k
  have hb : brokS (stOf ([] ++ longL (k + 2)) (lastV (k + 2)).c) (lastV (k + 2)) = 2 := by rw [hs]; exact brok_O rfl rfl
  rw [judge_first (longL (k + 2)) [] (long_zero _) (by rw [hb, and2]; decide), hb, and2, List.nil_append, longL_len]
theorem long_wf (k : Nat) : ∀ v ∈ longL k, (Lit.int .i64 v.c).wf = true := fun v hv => by
  obtain ⟨i, _, rfl⟩ := List.mem_map.1 hv
  exact WalkArith.wf_i64 (by show -9223372036854775808 ≤ ((i % 2 : Nat) : Int) ∧ ((i % 2 : Nat) : Int) ≤ 9223372036854775807; omega)
theorem last_wf (k : Nat) : ∀ v ∈ longL k ++ [lastV k], (Lit.int .i64 v.c).wf = true := fun v hv => by
  rcases List.mem_append.1 hv with h | h
  · exact long_wf k v h
  · rw [List.mem_singleton.1 h]
    exact WalkArith.wf_i64 (by show -9223372036854775808 ≤ ((k % 2 : Nat) : Int) ∧ ((k % 2 : Nat) : Int) ≤ 9223372036854775807; omega)
end Go.Proofs.Ytjbakmmmgejhlaa

/-
  PLAIN and memory: what SessionHolds carries.
-/
namespace Go.Proofs.Ytjbakmmmgejhlaa
open Go.RowKit

/-! ### Plain -/
theorem zeroC_in (x : Ctx) (hx : Ok x) (g : Int) : winS ([], []) x g = 0 := by
  unfold winS
  rw [(inC_iff tight_nil.ok hx).2 (fun d hd => absurd hd in_nil)]; rfl
theorem win_in {a x : Ctx} (ha : Ok a) (hx : Ok x) (h : ∀ d, In a d → In x d) (g : Int) : winS a x g = 0 := by
  unfold winS
  rw [(inC_iff ha hx).2 h]; rfl
/-- What the law knows at the head of round k. -/
structure HInv (k : Nat) (s t : St) (now : Ctx) (vs : List Vis) : Prop where
  t1 : Tight s.1
  t2 : Tight s.2
  tn : Tight now
  i1 : ∀ d, In s.1 d → In now d
  i2 : ∀ d, In s.2 d → In now d
  z1 : szC s.1 ≤ 25 * k
  z2 : szC s.2 ≤ k
  zn : szC now ≤ 25 * k
  tt : Tight t.1
  te : t.2 = ([], [])
  zt : szC t.1 ≤ 24 * k
  js : stOf vs 0 = s
  jf : Fits vs
  jz : ∀ j v, vs[j]? = some v → andI (brokS (stOf ([] ++ vs.take j) v.c) v) 15 = 0
  jv : ∀ v ∈ vs, v.c = 0 ∧ badS v = false ∧ szC v.x ≤ 1000
  len : vs.length = k
theorem HInv.zero : HInv 0 st0 st0 ([], []) [] :=
  ⟨tight_nil, tight_nil, tight_nil, fun _ h => h, fun _ h => h, Nat.le_refl _, Nat.le_refl _, Nat.le_refl _, tight_nil, rfl, Nat.le_refl _, rfl, fun k c => by simpa using (show OkS (stOf [] c) from ok0), fun j v h => by simp at h, fun v h => (nomatch h), rfl⟩
section
variable {k : Nat} {s t : St} {now x : Ctx} {vs : List Vis}
theorem HInv.okS (h : HInv k s t now vs) (hk : k ≤ 20) : OkS s := ⟨ok_iff.2 h.t1.ok, ok_iff.2 h.t2.ok, by have := h.z1; unfold szC at this; omega, by have := h.z2; unfold szC at this; omega⟩
theorem HInv.okT (h : HInv k s t now vs) (hk : k ≤ 20) : OkS t := ⟨ok_iff.2 h.tt.ok, by rw [h.te]; rfl, by have := h.zt; unfold szC at this; omega, by rw [h.te]; simp⟩
theorem HInv.snoc (h : HInv k s t now vs) {v : Vis} (hc : v.c = 0) (hb : badS v = false) (hx : szC v.x ≤ 1000) (h0 : brokS s v = 0) (hs : OkS (stepS s v)) : stOf (vs ++ [v]) 0 = stepS s v ∧ Fits (vs ++ [v]) ∧ (∀ j u, (vs ++ [v])[j]? = some u → andI (brokS (stOf ([] ++ (vs ++ [v]).take j) u.c) u) 15 = 0) ∧ (∀ u ∈ vs ++ [v], u.c = 0 ∧ badS u = false ∧ szC u.x ≤ 1000) := by
  have e : stOf (vs ++ [v]) 0 = stepS s v := by rw [stOf_snoc, if_pos hc, h.js]
  refine ⟨e, fun j c => ?_, fun j u hj => ?_, fun u hu => ?_⟩
  · rcases Nat.lt_or_ge vs.length j with hj | hj
    · rw [List.take_of_length_le (by simp; omega), stOf_snoc, hc]
      by_cases h2 : (0 : Int) = c
      · rw [if_pos h2, ← h2, h.js]; exact hs
      · rw [if_neg h2]
        have := h.jf vs.length c
        rwa [List.take_length] at this
    · rw [List.take_append_of_le_length hj]; exact h.jf j c
  · rcases Nat.lt_or_ge j vs.length with hlt | hge
    · rw [List.getElem?_append_left hlt] at hj
      rw [List.take_append_of_le_length (by omega)]
      exact h.jz j u hj
    · have hjl : j = vs.length := by
        have := (List.getElem?_eq_some_iff.1 hj).1
        simp at this; omega
      subst hjl
      rw [List.getElem?_append_right (Nat.le_refl _)] at hj
      simp at hj
      subst hj
      rw [List.take_append_of_le_length (Nat.le_refl _), List.take_length, List.nil_append, hc, h.js, h0, and0]
  · rcases List.mem_append.1 hu with hu | hu
    · exact h.jv u hu
    · rw [List.mem_singleton.1 hu]; exact ⟨hc, hb, hx⟩
theorem HInv.grows (h : HInv k s t now vs) (hx : Ok x) : Tight (unionC now x) ∧ (∀ d, In s.1 d → In (unionC now x) d) ∧ (∀ d, In s.2 d → In (unionC now x) d) := by
  obtain ⟨a1, a2⟩ := union_spec h.tn.ok hx
  exact ⟨a1, fun d hd => (a2 d).2 (.inl (h.i1 d hd)), fun d hd => (a2 d).2 (.inl (h.i2 d hd))⟩
theorem HInv.brokR (h : HInv k s t now vs) (hx : Ok x) : winS s.2 (unionC now x) 1 + winS s.1 (unionC now x) 2 = 0 := by
  obtain ⟨a, b, c⟩ := h.grows hx
  rw [win_in h.t2.ok a.ok c, win_in h.t1.ok a.ok b]; rfl
theorem HInv.brokW (h : HInv k s t now vs) (hx : Ok x) : winS s.1 (unionC now x) 4 + winS s.2 (unionC now x) 8 = 0 := by
  obtain ⟨a, b, c⟩ := h.grows hx
  rw [win_in h.t2.ok a.ok c, win_in h.t1.ok a.ok b]; rfl
theorem HInv.read (h : HInv k s t now vs) (hk : k < 20) (hx : Ok x) (lx : szC x ≤ 24) : HInv (k + 1) (unionC s.1 (unionC now x), s.2) (unionC t.1 x, t.2) (unionC now x) (vs ++ [⟨0, false, (0, 0), unionC now x⟩]) := by
  obtain ⟨a, b, c⟩ := h.grows hx
  have zu := union_total now x
  have zn := h.zn
  obtain ⟨u1, u2⟩ := union_spec h.t1.ok a.ok
  have e : unionC s.1 (unionC now x) = unionC now x := tight_ext u1 a fun d => by rw [u2]; exact ⟨fun e => e.elim (b d) id, .inr⟩
  have z1 : szC (unionC s.1 (unionC now x)) ≤ 25 * (k + 1) := by rw [e]; omega
  have z2 := h.z2
  obtain ⟨v1, _⟩ := union_spec h.tt.ok hx
  have zt := union_total t.1 x
  have zt2 := h.zt
  have st : stepS s ⟨0, false, (0, 0), unionC now x⟩ = (unionC s.1 (unionC now x), s.2) := rfl
  obtain ⟨j1, j2, j3, j4⟩ := h.snoc (v := ⟨0, false, (0, 0), unionC now x⟩) rfl (by unfold badS; rw [ok_iff.2 a.ok]; rfl) (by show szC (unionC now x) ≤ 1000; omega) (h.brokR hx) (by rw [st]; exact ⟨ok_iff.2 u1.ok, ok_iff.2 h.t2.ok, by unfold szC at z1; show (unionC s.1 (unionC now x)).1.length + (unionC s.1 (unionC now x)).2.length ≤ 1000; omega, by unfold szC at z2; show s.2.1.length + s.2.2.length ≤ 1000; omega⟩)
  exact ⟨u1, h.t2, a, fun d hd => by have hd : In (unionC s.1 (unionC now x)) d := hd; rwa [e] at hd, c, z1, by show szC s.2 ≤ k + 1; omega, by omega, v1, h.te, by show szC (unionC t.1 x) ≤ 24 * (k + 1); omega, j1, j2, j3, j4, by simp [h.len]⟩
theorem HInv.write (h : HInv k s t now vs) (hk : k < 20) (hx : Ok x) (lx : szC x ≤ 24) {d : Dot} (hd : validD d = true) (hn : hasC (unionC now x) d = false) : HInv (k + 1) (s.1, addC s.2 [d]) (unionC t.1 x, t.2) (addC (unionC now x) [d]) (vs ++ [⟨0, true, d, unionC now x⟩]) := by
  obtain ⟨a, b, c⟩ := h.grows hx
  have zu := union_total now x
  have zn := h.zn
  obtain ⟨u1, u2⟩ := add_spec h.t2.ok (valid_one hd)
  obtain ⟨n1, n2⟩ := add_spec a.ok (valid_one hd)
  have za := add_total s.2 [d]
  have zb := add_total (unionC now x) [d]
  simp only [List.length_cons, List.length_nil] at za zb
  have z1 := h.z1
  have z2 := h.z2
  obtain ⟨v1, _⟩ := union_spec h.tt.ok hx
  have zt := union_total t.1 x
  have zt2 := h.zt
  have st : stepS s ⟨0, true, d, unionC now x⟩ = (s.1, addC s.2 [d]) := rfl
  obtain ⟨j1, j2, j3, j4⟩ := h.snoc (v := ⟨0, true, d, unionC now x⟩) rfl (by unfold badS; rw [ok_iff.2 a.ok]; simp [hd, hn]) (by show szC (unionC now x) ≤ 1000; omega) (h.brokW hx) (by rw [st]; exact ⟨ok_iff.2 h.t1.ok, ok_iff.2 u1.ok, by unfold szC at z1; show s.1.1.length + s.1.2.length ≤ 1000; omega, by unfold szC at za z2; show (addC s.2 [d]).1.length + (addC s.2 [d]).2.length ≤ 1000; omega⟩)
  exact ⟨h.t1, u1, n1, fun e he => (n2 e).2 (.inl (b e he)), fun e he => by
    rcases (u2 e).1 he with he | he
    · exact (n2 e).2 (.inl (c e he))
    · exact (n2 e).2 (.inr he), by show szC s.1 ≤ 25 * (k + 1); omega, by show szC (addC s.2 [d]) ≤ k + 1; omega, by omega, v1, h.te, by show szC (unionC t.1 x) ≤ 24 * (k + 1); omega, j1, j2, j3, j4, by simp [h.len]⟩
theorem HInv.judge (h : HInv k s t now vs) : judgeS 15 [] vs = (-1, 0) := judge_all vs [] h.jz
end
/-- The end: what is safe stays safe. -/
theorem end_and (a more now : Ctx) (ha : Ok a) (hm : Ok more) (hn : Ok now) : andI (15 - (0 + winS a more 6)) (15 - (0 + winS a (unionC more now) 6)) = 15 - (0 + winS a more 6) := by
  obtain ⟨u1, u2⟩ := union_spec hm hn
  cases h : inC a more with
  | true =>
    have h2 : inC a (unionC more now) = true := (inC_iff ha u1.ok).2 fun d hd => (u2 d).2 (.inl ((inC_iff ha hm).1 h d hd))
    unfold winS
    rw [h, h2]
    exact (by kernel_rfl : andI (15 - (0 + 0)) (15 - (0 + 0)) = 15 - (0 + 0))
  | false =>
    cases h2 : inC a (unionC more now) with
    | true =>
      unfold winS
      rw [h, h2]
      exact (by kernel_rfl : andI (15 - (0 + 6)) (15 - (0 + 0)) = 15 - (0 + 6))
    | false =>
      unfold winS
      rw [h, h2]
      exact (by kernel_rfl : andI (15 - (0 + 6)) (15 - (0 + 6)) = 15 - (0 + 6))

/-! ### Contexts in memory -/
structure Ctxs (w : World) (C : Option Addr) (k c : Nat) (l : List Ctx) : Prop where
  len : k = l.length
  cap : k ≤ c
  max : c ≤ maxLen
  nil : C = none → c = 0
  cell : ∀ i x, l[i]? = some x → ∃ b o A n ca B m cb, C = some ⟨b, o, none⟩ ∧ w.cell? ⟨b, o + i * 2, none⟩ = some (.slice A n ca) ∧ w.cell? ⟨b, o + i * 2 + 1, none⟩ = some (.slice B m cb) ∧ Con w A n ca B m cb x
section
variable {w w' : World} {C : Option Addr} {k c : Nat} {l : List Ctx}
theorem Ctxs.mono (h : Ctxs w C k c l) (hb : Below w.heap.size w w') : Ctxs w' C k c l :=
  ⟨h.len, h.cap, h.max, h.nil, fun i x hi => by
    obtain ⟨b, o, A, n, ca, B, m, cb, e, c0, c1, hc⟩ := h.cell i x hi
    exact ⟨b, o, A, n, ca, B, m, cb, e, cellKeep hb c0, cellKeep hb c1, hc.mono hb⟩⟩
theorem Ctxs.big (h : Ctxs w C k c l) : k ≤ 9223372036854775807 := by have := h.cap; have := h.max; unfold maxLen at this; omega
theorem Ctxs.nil_ : Ctxs w none 0 0 [] := ⟨rfl, Nat.le_refl _, by unfold maxLen; omega, fun _ => rfl, fun i d h => by simp at h⟩
theorem Ctxs.at_ (h : Ctxs w C k c l) {i : Nat} (hi : i < k) : ∃ b o A n ca B m cb x, C = some ⟨b, o, none⟩ ∧ w.cell? ⟨b, o + i * 2, none⟩ = some (.slice A n ca) ∧ w.cell? ⟨b, o + i * 2 + 1, none⟩ = some (.slice B m cb) ∧ Con w A n ca B m cb x ∧ l[i]? = some x := by
  have hl : i < l.length := by have := h.len; omega
  obtain ⟨b, o, A, n, ca, B, m, cb, e, c0, c1, hc⟩ := h.cell i l[i] (List.getElem?_eq_getElem hl)
  exact ⟨b, o, A, n, ca, B, m, cb, l[i], e, c0, c1, hc, List.getElem?_eq_getElem hl⟩
theorem index_ctx {b o k c i : Nat} {w : World} (h : i < k) : (Instr.indexAt 43 (.slice (some ⟨b, o, none⟩) k c) (.int .i64 (i : Int))).run Try.prog w = .ok (.pointer (some ⟨b, o + i * 2, none⟩)) w := by
  simp [go_sem, h]
end

/-! ### What the law has in memory -/
abbrev pU (u : Value) : Nat → Prop := fun b => some b ≠ u.ownBlock
section
variable {p q : Nat → Prop} {N M : Nat} {h r : Ctx} {w w1 : World} {A : Option Addr} {n c : Nat} {l : List Dot}
theorem SessAtP.both (s : SessAtP p N h r w) (hq : ∀ b, b < w.heap.size → q b) : SessAtP (fun b => p b ∧ q b) N h r w := by
  obtain ⟨A, n, ca, B, m, cb, A2, n2, ca2, B2, m2, cb2, c0, c1, c2, c3, k1, k2, f, ni, o1, o2, o3, o4⟩ := s
  exact ⟨A, n, ca, B, m, cb, A2, n2, ca2, B2, m2, cb2, c0, c1, c2, c3, k1, k2, f, ni, fun hl a ha => ⟨o1 hl a ha, k1.v.offAny hq hl a ha⟩, fun hl a ha => ⟨o2 hl a ha, k1.k.offAny hq hl a ha⟩, fun hl a ha => ⟨o3 hl a ha, k2.v.offAny hq hl a ha⟩, fun hl a ha => ⟨o4 hl a ha, k2.k.offAny hq hl a ha⟩⟩
theorem SessAtP.imp (s : SessAtP p N h r w) (hq : ∀ b, p b → q b) : SessAtP q N h r w := by
  obtain ⟨A, n, ca, B, m, cb, A2, n2, ca2, B2, m2, cb2, c0, c1, c2, c3, k1, k2, f, ni, o1, o2, o3, o4⟩ := s
  exact ⟨A, n, ca, B, m, cb, A2, n2, ca2, B2, m2, cb2, c0, c1, c2, c3, k1, k2, f, ni, o1.imp hq, o2.imp hq, o3.imp hq, o4.imp hq⟩
theorem SessAtP.grownP {row : Option Nat} (s : SessAtP p N h r w) (hp : ∀ b, p b → some b ≠ row) (hg : w.grownBy w1 row) (hn : some N ≠ row) : SessAtP p N h r w1 := by
  have hz := s.size
  obtain ⟨A, n, ca, B, m, cb, A2, n2, ca2, B2, m2, cb2, c0, c1, c2, c3, k1, k2, f, ni, o1, o2, o3, o4⟩ := s
  have hbl : w1.heap[N]? = w.heap[N]? := hg.block N hz hn
  exact ⟨A, n, ca, B, m, cb, A2, n2, ca2, B2, m2, cb2, hg.cell c0 hn, hg.cell c1 hn, hg.cell c2 hn, hg.cell c3 hn, ⟨k1.v.grownO hg (o1.imp hp), k1.k.grownO hg (o2.imp hp)⟩, ⟨k2.v.grownO hg (o3.imp hp), k2.k.grownO hg (o4.imp hp)⟩, fun o => (World.frozen?_of_block (w := w) (a := ⟨N, o, none⟩) hbl).trans (f o), fun o x e => ni o x ((World.cell?_of_block (w := w) (a := ⟨N, o, none⟩) hbl).symm.trans e), o1, o2, o3, o4⟩
theorem VRow.hole {B : Nat} {u : Value} {vs : List Vis} (v : VRow w B u vs) (ni : NoInt w N) (hh : Hole N w w1) (hn : some N ≠ u.ownBlock) : VRow w1 B u vs := by
  obtain ⟨ss, e, ho, hs⟩ := v
  refine ⟨ss, e, ⟨ho.1, ?_⟩, fun s hm => let ⟨a, b, c⟩ := hs s hm; ⟨a.hole ni hh, b, c⟩⟩
  rcases ho.2 with h2 | ⟨g, cap, cur, hv, hg, hb, r⟩
  · exact .inl h2
  · exact .inr ⟨g, cap, cur, hv, hg, (hh.block g (Array.getElem?_eq_some_iff.1 hb).1 (fun e => hn (by rw [hv, ← e]; rfl))).trans hb, r⟩
end
structure HAt (w : World) (bM : Nat) (A B : Option Addr) (n ca m cb : Nat) (more : Ctx) (Ns Nt bN : Nat) (s t : St) (now : Ctx) (u : Value) (vs : List Vis) (wr : World) : Prop where
  hb : Below w.heap.size w wr
  bm : Boxed bM A B n ca m cb more wr
  ss : SessAtP (pU u) Ns s.1 s.2 wr
  tt : SessAtP (pU u) Nt t.1 t.2 wr
  bn : ∃ An Bn nn cn mn dn, Boxed bN An Bn nn cn mn dn now wr ∧ Off (pU u) An now.1 ∧ Off (pU u) Bn now.2
  fz : ∀ o, wr.frozen? ⟨bN, o, none⟩ = false
  ni : NoInt wr bN
  vr : VRow wr w.heap.size u vs
  wM : bM = w.heap.size
  wS : w.heap.size < Ns
  wT : w.heap.size < Nt
  wN : w.heap.size < bN
  st : Ns ≠ Nt
  sn : Ns ≠ bN
  tn : Nt ≠ bN
  us : some Ns ≠ u.ownBlock
  ut : some Nt ≠ u.ownBlock
  un : some bN ≠ u.ownBlock
  um : some bM ≠ u.ownBlock
  om : Off (pU u) A more.1 ∧ Off (pU u) B more.2
section
variable {w wr w' : World} {bM : Nat} {A B : Option Addr} {n ca m cb : Nat} {more : Ctx} {Ns Nt bN : Nat} {s t s' t' : St} {now now' : Ctx} {u u' : Value} {vs : List Vis} {v : Vis}
theorem HAt.mono (h : HAt w bM A B n ca m cb more Ns Nt bN s t now u vs wr) (b : Below wr.heap.size wr w') : HAt w bM A B n ca m cb more Ns Nt bN s t now u vs w' := by
  obtain ⟨An, Bn, nn, cn, mn, dn, k, o1, o2⟩ := h.bn
  exact ⟨h.hb.le b, h.bm.mono b, h.ss.mono b, h.tt.mono b, ⟨An, Bn, nn, cn, mn, dn, k.mono b, o1, o2⟩, fun o => (b.frozen (p := ⟨bN, o, none⟩) k.size).trans (h.fz o), h.ni.mono b k.size, h.vr.mono b, h.wM, h.wS, h.wT, h.wN, h.st, h.sn, h.tn, h.us, h.ut, h.un, h.um, h.om⟩
theorem HAt.fresh (h : HAt w bM A B n ca m cb more Ns Nt bN s t now u vs wr) : ∀ b, wr.heap.size ≤ b → pU u b := fun b hb e => by
  have := (h.vr.own b e.symm).2; omega
theorem HAt.sessS (h : HAt w bM A B n ca m cb more Ns Nt bN s t now u vs wr) (hh : Hole Ns wr w') (hs : SessAtP (pU u) Ns s'.1 s'.2 w') : HAt w bM A B n ca m cb more Ns Nt bN s' t now u vs w' := by
  obtain ⟨An, Bn, nn, cn, mn, dn, k, o1, o2⟩ := h.bn
  have ni := h.ss.ni
  exact ⟨h.hb.hole hh (by have := h.wS; omega) h.hb.size, h.bm.hole ni hh (by have := h.wS; have := h.wM; omega), hs, h.tt.hole ni hh (fun e => h.st e.symm), ⟨An, Bn, nn, cn, mn, dn, k.hole ni hh (fun e => h.sn e.symm), o1, o2⟩, fun o => (hh.frozen (p := ⟨bN, o, none⟩) k.size (fun e => h.sn e.symm)).trans (h.fz o), h.ni.hole hh k.size (fun e => h.sn e.symm), h.vr.hole ni hh h.us, h.wM, h.wS, h.wT, h.wN, h.st, h.sn, h.tn, h.us, h.ut, h.un, h.um, h.om⟩
theorem HAt.sessT (h : HAt w bM A B n ca m cb more Ns Nt bN s t now u vs wr) (hh : Hole Nt wr w') (hs : SessAtP (pU u) Nt t'.1 t'.2 w') : HAt w bM A B n ca m cb more Ns Nt bN s t' now u vs w' := by
  obtain ⟨An, Bn, nn, cn, mn, dn, k, o1, o2⟩ := h.bn
  have ni := h.tt.ni
  exact ⟨h.hb.hole hh (by have := h.wT; omega) h.hb.size, h.bm.hole ni hh (by have := h.wT; have := h.wM; omega), h.ss.hole ni hh h.st, hs, ⟨An, Bn, nn, cn, mn, dn, k.hole ni hh (fun e => h.tn e.symm), o1, o2⟩, fun o => (hh.frozen (p := ⟨bN, o, none⟩) k.size (fun e => h.tn e.symm)).trans (h.fz o), h.ni.hole hh k.size (fun e => h.tn e.symm), h.vr.hole ni hh h.ut, h.wM, h.wS, h.wT, h.wN, h.st, h.sn, h.tn, h.us, h.ut, h.un, h.um, h.om⟩
theorem HAt.store (h : HAt w bM A B n ca m cb more Ns Nt bN s t now u vs wr) {A' B' : Option Addr} {n' c' m' d' : Nat} (hc : Con wr A' n' c' B' m' d' now') (o1 : Off (pU u) A' now'.1) (o2 : Off (pU u) B' now'.2) :
    HAt w bM A B n ca m cb more Ns Nt bN s t now' u vs ((wr.setCell ⟨bN, 0, none⟩ (.slice A' n' c')).setCell ⟨bN, 1, none⟩ (.slice B' m' d')) := by
  obtain ⟨An, Bn, nn, cn, mn, dn, k, _, _⟩ := h.bn
  have hh : Hole bN wr ((wr.setCell ⟨bN, 0, none⟩ (.slice A' n' c')).setCell ⟨bN, 1, none⟩ (.slice B' m' d')) := ((Hole.of (Below.refl _ _)).set_ 0 _).set_ 1 _
  have ni := h.ni
  refine ⟨h.hb.hole hh (by have := h.wN; omega) h.hb.size, h.bm.hole ni hh (by have := h.wN; have := h.wM; omega), h.ss.hole ni hh h.sn, h.tt.hole ni hh h.tn, ⟨A', B', n', c', m', d', ⟨cell_far (by simp) (cell_set k.c0), cell_set (cell_far (by simp) k.c1), hc.hole ni hh⟩, o1, o2⟩, fun o => (World.frozen?_setCell _ _ _ _).trans ((World.frozen?_setCell _ _ _ _).trans (h.fz o)), NoInt.set_ (cell_far (by simp) k.c1) (NoInt.set_ k.c0 ni), h.vr.hole ni hh h.un, h.wM, h.wS, h.wT, h.wN, h.st, h.sn, h.tn, h.us, h.ut, h.un, h.um, h.om⟩
theorem HAt.append (h : HAt w bM A B n ca m cb more Ns Nt bN s t now u vs wr) (hr : VRow w' w.heap.size u' (vs ++ [v])) (hg : wr.grownBy w' u.ownBlock) (hat : u'.ownBlock = u.ownBlock ∨ u'.ownBlock = some wr.heap.size) :
    HAt w bM A B n ca m cb more Ns Nt bN s t now u' (vs ++ [v]) w' := by
  obtain ⟨An, Bn, nn, cn, mn, dn, k, o1, o2⟩ := h.bn
  have hq : ∀ b, b < wr.heap.size → pU u b → pU u' b := fun b hb hp => by
    rcases hat with e | e
    · show some b ≠ u'.ownBlock
      rw [e]; exact hp
    · show some b ≠ u'.ownBlock
      rw [e]; intro e2; cases e2; omega
  have size : ∀ {A' : Option Addr} {n' c' : Nat} {l' : List Dot}, Dots wr A' n' c' l' → Off (pU u) A' l' → Off (pU u') A' l' := fun hd ho hl a ha => hq _ (hd.lt hl a ha) (ho hl a ha)
  have sess : ∀ {N : Nat} {a b : Ctx}, SessAtP (pU u) N a b wr → some N ≠ u.ownBlock → SessAtP (pU u') N a b w' := fun hs hn => ((hs.both (q := fun b => b < wr.heap.size) (fun _ h => h)).grownP (fun _ hp => hp.1) hg hn).imp fun b hb => hq b hb.2 hb.1
  have hbl : w'.heap[bN]? = wr.heap[bN]? := hg.block bN k.size h.un
  have hB : ∀ q, u.ownBlock = some q → w.heap.size ≤ q := fun q hq => (h.vr.own q hq).1
  refine ⟨h.hb.grown hg h.hb.size hB, ⟨hg.cell h.bm.c0 h.um, hg.cell h.bm.c1 h.um, h.bm.con.v.grownO hg h.om.1, h.bm.con.k.grownO hg h.om.2⟩, sess h.ss h.us, sess h.tt h.ut, ⟨An, Bn, nn, cn, mn, dn, ⟨hg.cell k.c0 h.un, hg.cell k.c1 h.un, k.con.v.grownO hg o1, k.con.k.grownO hg o2⟩, size k.con.v o1, size k.con.k o2⟩, fun o => (World.frozen?_of_block (w := wr) (a := ⟨bN, o, none⟩) hbl).trans (h.fz o), fun o x e => h.ni o x ((World.cell?_of_block (w := wr) (a := ⟨bN, o, none⟩) hbl).symm.trans e), hr, h.wM, h.wS, h.wT, h.wN, h.st, h.sn, h.tn, hq _ h.ss.size h.us, hq _ h.tt.size h.ut, hq _ k.size h.un, hq _ h.bm.size h.um, size h.bm.con.v h.om.1, size h.bm.con.k h.om.2⟩
end
end Go.Proofs.Ytjbakmmmgejhlaa

/-
  SessionHolds: for any contexts and any context, with no further condition, the law returns true, and its arguments read afterwards as they read before.
-/
namespace Go.Proofs.Ytjbakmmmgejhlaa
open Go.RowKit

def HRel (w : World) (bM : Nat) (A B : Option Addr) (n ca m cb : Nat) (more : Ctx) (Ns Nt bN lim : Nat) (u i : Value) (wr : World) : Prop :=
  ∃ (k : Nat) (s t : St) (now : Ctx) (vs : List Vis), i = .int .i64 k ∧ k ≤ lim ∧ HAt w bM A B n ca m cb more Ns Nt bN s t now u vs wr ∧ HInv k s t now vs
theorem ctx_load {w w1 : World} {b o n ca m cb : Nat} {A B : Option Addr} {x : Ctx} {u : Value} (c0 : w.cell? ⟨b, o, none⟩ = some (.slice A n ca)) (c1 : w.cell? ⟨b, o + 1, none⟩ = some (.slice B m cb)) (hc : Con w A n ca B m cb x) (hb : Below w.heap.size w w1) (hu : Is (.pointer (some ⟨b, o, none⟩)) w1 u) :
    ∃ r, (Instr.loadAt 31 u).run Try.prog w1 = .ok r w1 ∧ IsCon x w1 r := by
  cases hu
  exact ⟨_, load_con hb c0 c1, A, n, ca, B, m, cb, rfl, hc.mono hb⟩
set_option maxRecDepth 100000 in
set_option maxHeartbeats 16000000 in
theorem lawSHolds (C : Option Addr) (n c : Nat) (l : List Ctx) (A B : Option Addr) (n1 ca m1 cb : Nat) (more : Ctx) (w : World) (h : Ctxs w C n c l) (hp : Con w A n1 ca B m1 cb more) :
    Calls Try.prog 5 #[.slice C n c, .agg #[.slice A n1 ca, .slice B m1 cb]] w (Ret w (IsB true)) := by
  have hbig := h.big
  obtain ⟨W0, hW0⟩ : ∃ W0, W0 = w.alloc (conBox A n1 ca B m1 cb) := ⟨_, rfl⟩
  have hb0 : Below w.heap.size w W0 := by rw [hW0]; go_grown
  have bp : Boxed w.heap.size A B n1 ca m1 cb more W0 := by rw [hW0]; exact Boxed.new hp
  have hz0 : W0.heap.size = w.heap.size + 1 := by rw [hW0]; simp
  have DEF := Lib.hid hW0; have HB := Lib.hid hb0; have BP := Lib.hid bp; have H := Lib.hid h; have HZ := Lib.hid hz0
  have x0 := bp.c0; have x1 := bp.c1
  rw [hW0] at x0 x1
  clear hW0 hb0 bp hp h hz0
  by_cases hn : 20 < n
  · have hd : decide ((20 : Int) < (n : Int)) = true := decide_eq_true (by omega)
    have HBK := Lib.hid HB.out
    go_enter Try.func5, Try.ntmps5
    go_wp2_with fail
    rw [← DEF.out]
    refine (known43 _).mono ?_
    rintro _ wK ⟨_, rfl, hbK, rfl⟩
    have HBK2 := Lib.hid (HBK.out.le hbK)
    clear hbK
    go_wp2
    go_ret
    exact retB rfl HBK2.out
  have hd : decide ((20 : Int) < (n : Int)) = false := decide_eq_false (by omega)
  have HN := Lib.hid (show n ≤ 20 by omega)
  clear hn
  cases hsp : smallB more with
  | false =>
    have HSP := Lib.hid hsp
    clear hsp
    go_enter Try.func5, Try.ntmps5
    go_wp2_with fail
    rw [← DEF.out]
    refine (smallI BP.out.is false HSP.out).mono ?_
    rintro _ w1 ⟨_, rfl, hb1, rfl⟩
    have HBK := Lib.hid (HB.out.le hb1)
    clear hb1 x0 x1
    go_wp2_with fail
    refine (known43 _).mono ?_
    rintro _ wK ⟨_, rfl, hbK, rfl⟩
    have HBK2 := Lib.hid (HBK.out.le hbK)
    clear hbK
    go_wp2
    go_ret
    exact retB rfl HBK2.out
  | true =>
  have HSP := Lib.hid hsp
  have LM := Lib.hid (show szC more ≤ 24 by obtain ⟨h1, h2, _⟩ := small_iff hsp; unfold szC; omega)
  clear hsp
  cases hvp : validC more with
  | false =>
    have HVP := Lib.hid hvp
    clear hvp
    go_enter Try.func5, Try.ntmps5
    go_wp2_with fail
    rw [← DEF.out]
    refine (smallI BP.out.is true HSP.out).mono ?_
    rintro _ w1 ⟨_, rfl, hb1, rfl⟩
    have BP1 := Lib.hid (BP.out.mono hb1); have HB1 := Lib.hid (HB.out.le hb1)
    clear hb1 x0 x1
    have x0 := BP1.out.c0; have x1 := BP1.out.c1
    go_wp2_with fail
    refine (cvalidI BP1.out.is false HVP.out).mono ?_
    rintro _ w2 ⟨_, rfl, hb2, rfl⟩
    have HBK := Lib.hid (HB1.out.le hb2)
    clear hb2 x0 x1
    go_wp2_with fail
    refine (known43 _).mono ?_
    rintro _ wK ⟨_, rfl, hbK, rfl⟩
    have HBK2 := Lib.hid (HBK.out.le hbK)
    clear hbK
    go_wp2
    go_ret
    exact retB rfl HBK2.out
  | true =>
  have HVP := Lib.hid hvp
  clear hvp
  go_enter Try.func5, Try.ntmps5
  go_wp2_with fail
  rw [← DEF.out]
  refine (smallI BP.out.is true HSP.out).mono ?_
  rintro _ w1 ⟨_, rfl, hb1, rfl⟩
  have BP1 := Lib.hid (BP.out.mono hb1); have HB1 := Lib.hid (HB.out.le hb1); have Z1 := Lib.hid (show w.heap.size < w1.heap.size by have := hb1.size; rw [HZ.out] at this; omega)
  clear hb1 x0 x1 DEF BP HB HZ
  have x0 := BP1.out.c0; have x1 := BP1.out.c1
  go_wp2_with fail
  refine (cvalidI BP1.out.is true HVP.out).mono ?_
  rintro _ w2 ⟨_, rfl, hb2, rfl⟩
  have BP2 := Lib.hid (BP1.out.mono hb2); have HB2 := Lib.hid (HB1.out.le hb2); have Z2 := Lib.hid (Nat.lt_of_lt_of_le Z1.out hb2.size)
  clear hb2 x0 x1 BP1 HB1 Z1
  obtain ⟨W3, hW3⟩ : ∃ W3, W3 = ((w2.alloc (.cells #[.slice none 0 0, .slice none 0 0, .slice none 0 0, .slice none 0 0] 46)).alloc (.cells #[.slice none 0 0, .slice none 0 0, .slice none 0 0, .slice none 0 0] 46)).alloc (.cells #[.slice none 0 0, .slice none 0 0] 31) := ⟨_, rfl⟩
  have hat0 : HAt w w.heap.size A B n1 ca m1 cb more w2.heap.size (w2.heap.size + 1) (w2.heap.size + 1 + 1) st0 st0 ([], []) (.slice none 0 0) [] W3 := by
    have hz := Z2.out
    have b3 : Below w2.heap.size w2 W3 := by rw [hW3]; exact (((Below.refl _ _).alloc (Nat.le_refl _) _).alloc (by simp) _).alloc (by simp; omega) _
    have s1 := SessAt.new w2
    have s2 := SessAt.new (w2.alloc (.cells #[.slice none 0 0, .slice none 0 0, .slice none 0 0, .slice none 0 0] 46))
    have e1 : (w2.alloc (.cells #[.slice none 0 0, .slice none 0 0, .slice none 0 0, .slice none 0 0] 46)).heap.size = w2.heap.size + 1 := by simp
    rw [e1] at s2
    have b4 : Below (w2.alloc (.cells #[.slice none 0 0, .slice none 0 0, .slice none 0 0, .slice none 0 0] 46)).heap.size (w2.alloc (.cells #[.slice none 0 0, .slice none 0 0, .slice none 0 0, .slice none 0 0] 46)) W3 := by rw [hW3]; exact ((Below.refl _ _).alloc (Nat.le_refl _) _).alloc (by simp) _
    have b5 : Below ((w2.alloc (.cells #[.slice none 0 0, .slice none 0 0, .slice none 0 0, .slice none 0 0] 46)).alloc (.cells #[.slice none 0 0, .slice none 0 0, .slice none 0 0, .slice none 0 0] 46)).heap.size ((w2.alloc (.cells #[.slice none 0 0, .slice none 0 0, .slice none 0 0, .slice none 0 0] 46)).alloc (.cells #[.slice none 0 0, .slice none 0 0, .slice none 0 0, .slice none 0 0] 46)) W3 := by rw [hW3]; exact (Below.refl _ _).alloc (Nat.le_refl _) _
    have hfz : ∀ o, W3.frozen? ⟨w2.heap.size + 1 + 1, o, none⟩ = false := fun o => by rw [hW3]; simp [go_sem]
    have hni : NoInt W3 (w2.heap.size + 1 + 1) := by rw [hW3]; exact NoInt.boxN _ none none 0 0 0 0 _ (by simp)
    exact ⟨HB2.out.le b3, BP2.out.mono b3, (s1.mono b4).anyP (fun b _ e => nomatch e), (s2.mono b5).anyP (fun b _ e => nomatch e), ⟨none, none, 0, 0, 0, 0, ⟨by rw [hW3]; simp [go_sem], by rw [hW3]; simp [go_sem], Dots.nil_, Dots.nil_⟩, fun h => absurd rfl h, fun h => absurd rfl h⟩, hfz, hni, VRow.nil_ _ _, rfl, by omega, by omega, by omega, by omega, by omega, by omega, (fun e => nomatch e), (fun e => nomatch e), (fun e => nomatch e), (fun e => nomatch e), ⟨(fun _ _ _ e => nomatch e), (fun _ _ _ e => nomatch e)⟩⟩
  have start : HRel w w.heap.size A B n1 ca m1 cb more w2.heap.size (w2.heap.size + 1) (w2.heap.size + 1 + 1) n (.slice none 0 0) (.int .i64 ((0 : Nat) : Int)) W3 := ⟨0, st0, st0, ([], []), [], rfl, Nat.zero_le _, hat0, HInv.zero⟩
  have START := Lib.hid start; have DEF3 := Lib.hid hW3
  clear hat0 start hW3 BP2 HB2
  go_wp2
  rw [← DEF3.out]
  clear DEF3
  generalize w2.heap.size + 1 + 1 = bN at *
  generalize w2.heap.size + 1 = Nt at *
  generalize w2.heap.size = Ns at *
  go_loopw [8, 9] (fun u i wr => HRel w w.heap.size A B n1 ca m1 cb more Ns Nt bN n u i wr) (fun _ i _ => n - (intOf i).toNat)
  case atStart => exact START.out
  case round =>
    clear START
    obtain ⟨k, s, t, now, vs, rfl, hk, hat, hin⟩ := hrel
    have AT := Lib.hid hat; have IN := Lib.hid hin
    clear hat hin
    by_cases hlt : k < n
    · have KN := Lib.hid (show k < 20 by have := HN.out; omega)
      obtain ⟨b, o, A2, n2, ca2, B2, m2, cb2, x, rfl, q0, q1, hx, hm⟩ := (H.out.mono AT.out.hb).at_ (k := n) (i := k) hlt
      have CX := Lib.hid hx; have HM := Lib.hid hm
      clear hx hm
      cases hs : smallB x with
      | false =>
        have F := Lib.hid (smallI (IsCon_of CX.out) false hs)
        clear hs
        go_wp2_with fail
        refine F.out.mono ?_
        rintro _ w4 ⟨_, rfl, hb4, rfl⟩
        have HBK := Lib.hid (AT.out.hb.le hb4)
        clear hb4 F q0 q1
        go_wp2_with fail
        refine (known43 _).mono ?_
        rintro _ wK ⟨_, rfl, hbK, rfl⟩
        have HBK2 := Lib.hid (HBK.out.le hbK)
        clear hbK
        go_wp2
        go_ret
        exact retB rfl HBK2.out
      | true =>
      have F := Lib.hid (smallI (IsCon_of CX.out) true hs)
      have LX := Lib.hid (show szC x ≤ 24 by obtain ⟨h1, h2, _⟩ := small_iff hs; unfold szC; omega)
      clear hs
      cases hvx : validC x with
      | false =>
        have HVX := Lib.hid hvx
        clear hvx
        go_wp2_with fail
        refine F.out.mono ?_
        rintro _ w4 ⟨_, rfl, hb4, rfl⟩
        have AT4 := Lib.hid (AT.out.mono hb4)
        have q2 := cellKeep hb4 q0; have q3 := cellKeep hb4 q1; have CX4 := Lib.hid (CX.out.mono hb4)
        clear hb4 F q0 q1 AT CX
        go_wp2_with fail
        refine (cvalidI (IsCon_of CX4.out) false HVX.out).mono ?_
        rintro _ w5 ⟨_, rfl, hb5, rfl⟩
        have HBK := Lib.hid (AT4.out.hb.le hb5)
        clear hb5 q2 q3
        go_wp2_with fail
        refine (known43 _).mono ?_
        rintro _ wK ⟨_, rfl, hbK, rfl⟩
        have HBK2 := Lib.hid (HBK.out.le hbK)
        clear hbK
        go_wp2
        go_ret
        exact retB rfl HBK2.out
      | true =>
      have HVX := Lib.hid hvx
      have OX := Lib.hid (ok_iff.1 hvx)
      clear hvx
      go_wp2_with fail
      refine F.out.mono ?_
      rintro _ w4 ⟨_, rfl, hb4, rfl⟩
      have AT4 := Lib.hid (AT.out.mono hb4)
      have q2 := cellKeep hb4 q0; have q3 := cellKeep hb4 q1; have CX4 := Lib.hid (CX.out.mono hb4)
      clear hb4 F q0 q1 AT CX
      go_wp2_with fail
      refine (cvalidI (IsCon_of CX4.out) true HVX.out).mono ?_
      rintro _ w5 ⟨_, rfl, hb5, rfl⟩
      have AT5 := Lib.hid (AT4.out.mono hb5)
      have Q0 := Lib.hid (cellKeep hb5 q2); have Q1 := Lib.hid (cellKeep hb5 q3); have CX5 := Lib.hid (CX4.out.mono hb5)
      clear hb5 q2 q3 AT4 CX4
      have ZN := Lib.hid (show szC now ≤ 1000 by have := IN.out.zn; have := KN.out; omega)
      have ZX := Lib.hid (show szC x ≤ 1000 by have := LX.out; omega)
      obtain ⟨An, Bn, nn, cn, mn, dn, bn, on1, on2⟩ := AT5.out.bn
      have BN := Lib.hid bn
      clear bn on1 on2
      go_wp2_with fail
      refine wp_region_MU [0, 1, 2, 3, 4, 5, 6, 7, 8, 9, 10, 11] 10 8 rfl (by kernel_rfl) mixed (by kernel_rfl) (by kernel_rfl) (by kernel_rfl) (by decide) (by kernel_rfl) (by kernel_rfl) (fun _ d _ _ _ h => by cases d <;> exact h) ?_
      refine MDerL.step (Ob.load (F := IsCon now) Wanted.free Has.oldIs (fun w1 v hb1 hv => BN.out.loadI hb1 hv)) ?_
      refine MDerL.step (Ob.move Wanted.free Has.oldIs) ?_
      refine MDerL.step (Ob.move Wanted.free Has.oldIs) ?_
      refine MDerL.step (Ob.indexV Wanted.free (Has.new 1 1) (Has.new 2 0) (fun w1 => index_ctx hlt)) ?_
      refine MDerL.step (Ob.load (F := IsCon x) Wanted.free (Has.new 3 0) (fun w1 v hb1 hv => ctx_load Q0.out Q1.out CX5.out hb1 hv)) ?_
      refine MDerL.step (Ob.call2 Wanted.free entSUnion (Has.new 0 4) (Has.new 4 0) (fun w1 u v hb1 (hu : IsCon now w1 u) (hv : IsCon x w1 v) => unionB (B := w5.heap.size) hu hv hb1.size ZN.out ZX.out (ok_iff.2 IN.out.tn.ok) HVX.out)) ?_
      refine MDerL.step (Ob.move Wanted.free (Has.new 5 0)) ?_
      refine MDerL.step (Ob.extract (F := IsConA w5.heap.size (unionC now x)) Wanted.free (Has.new 6 0) (fun w1 v hb1 hv => ext0 (F := IsConA w5.heap.size (unionC now x)) hv)) ?_
      refine MDerL.step (Ob.extract (F := IsI 0) Wanted.free (Has.new 6 1) (fun w1 v hb1 hv => ext1 (F := IsConA w5.heap.size (unionC now x)) hv)) ?_
      refine MDerL.step (Ob.allocCon Wanted.free) ?_
      intro wE hE
      change EndM _ [some 63, some 64, some 65, some 66, some 67, some 68, some 62, some 69, some 70, some 10] _ _ _
      simp only [EndM, List.reverse_cons, List.reverse_nil, List.nil_append, List.cons_append]
      rintro _ _g0
      iterate 3 (rintro _ rfl)
      rintro _ _g4
      rintro _ _g5
      rintro _ _g6
      rintro _ ⟨A7, n7, ca7, B7, m7, cb7, rfl, r1, r2, _g7⟩
      iterate 1 (rintro _ rfl)
      rintro _ ⟨N7, rfl, hN7, hs7, p0, p1, pf, pn⟩
      simp only [Act.put, List.setIfInBounds_toArray, List.set_cons_zero, List.set_cons_succ]
      have pf0 := pf 0; have pf1 := pf 1
      refine wpAny_next (i := 10) (by kernel_rfl) rfl rfl ?_
      refine wp_store_to (p := .pointer (some ⟨N7, 0, none⟩)) (v := .agg #[.slice A7 n7 ca7, .slice B7 m7 cb7]) (w' := (wE.setCell ⟨N7, 0, none⟩ (.slice A7 n7 ca7)).setCell ⟨N7, 1, none⟩ (.slice B7 m7 cb7)) rfl rfl rfl rfl (by simp [go_sem, p0, p1, pf0, pf1]) ?_
      refine wpAny_next (i := 11) (by kernel_rfl) rfl rfl ?_
      refine wp_assign_to (d := 11) (v := .int .i64 0) rfl rfl rfl ?_
      simp only [Act.put, List.setIfInBounds_toArray, List.set_cons_zero, List.set_cons_succ]
      refine ⟨by kernel_rfl, ?_⟩
      have hE2 : Below w5.heap.size w5 ((wE.setCell ⟨N7, 0, none⟩ (.slice A7 n7 ca7)).setCell ⟨N7, 1, none⟩ (.slice B7 m7 cb7)) := (hE.setCell (p := ⟨N7, 0, none⟩) hN7 _).setCell (p := ⟨N7, 1, none⟩) hN7 _
      have k7 : Con wE A7 n7 ca7 B7 m7 cb7 (unionC now x) := ⟨r1.asDots, r2.asDots⟩
      have bx : Boxed N7 A7 B7 n7 ca7 m7 cb7 (unionC now x) ((wE.setCell ⟨N7, 0, none⟩ (.slice A7 n7 ca7)).setCell ⟨N7, 1, none⟩ (.slice B7 m7 cb7)) := ⟨cell_far (by simp) (cell_set p0), cell_set (cell_far (by simp) p1), k7.setNN pn p0 rfl⟩
      have of1 : Off (pU u8) A7 (unionC now x).1 := fun _ a ha => AT5.out.fresh _ (Row.from_ r1 a ha)
      have of2 : Off (pU u8) B7 (unionC now x).2 := fun _ a ha => AT5.out.fresh _ (Row.from_ r2 a ha)
      have BX := Lib.hid bx; have AT6 := Lib.hid (AT5.out.mono hE2); have OF1 := Lib.hid of1; have OF2 := Lib.hid of2
      clear bx k7 hE2 hE r1 r2 p0 p1 pf pf0 pf1 pn hs7 hN7 AT5 of1 of2 Q0 Q1 CX5 BN _g0 _g4 _g5 _g6
      generalize (wE.setCell ⟨N7, 0, none⟩ (.slice A7 n7 ca7)).setCell ⟨N7, 1, none⟩ (.slice B7 m7 cb7) = w6 at *
      -- now = c
      have hst := AT6.out.store BX.out.con OF1.out OF2.out
      obtain ⟨An', Bn', nn', cn', mn', dn', bn', _, _⟩ := AT6.out.bn
      have x0 := BX.out.c0; have x1 := BX.out.c1; have x2 := bn'.c0; have x3 := bn'.c1
      have fz0 := AT6.out.fz 0; have fz1 := AT6.out.fz 1
      obtain ⟨_, _, A3, n3, ca3, B3, m3, cb3, x', e3, q0, q1, hx3, hm3⟩ := (H.out.mono hst.hb).at_ (k := n) (i := k) hlt
      cases e3
      rw [HM.out] at hm3; cases hm3
      have CX6 := Lib.hid hx3
      have ATs := Lib.hid hst; have Q0 := Lib.hid q0; have Q1 := Lib.hid q1
      clear hx3 bn' hst
      go_wp2_with fail
      clear x0 x1 x2 x3 fz0 fz1 q0 q1
      generalize (w6.setCell ⟨bN, 0, none⟩ (.slice A7 n7 ca7)).setCell ⟨bN, 1, none⟩ (.slice B7 m7 cb7) = w7 at *
      have OKT := Lib.hid (IN.out.okT (by have := KN.out; omega)); have OKS := Lib.hid (IN.out.okS (by have := KN.out; omega))
      refine (sreadP (pU u8) Nt A3 B3 n3 ca3 m3 cb3 t.1 t.2 x w7 ATs.out.tt ATs.out.fresh CX6.out OKT.out.l1 OKT.out.l2 ZX.out OKT.out.v1 OKT.out.v2 HVX.out).mono ?_
      rintro _ w8 ⟨rfl, hh8, hs8⟩
      have AT8 := Lib.hid (ATs.out.sessT (t' := (unionC t.1 x, t.2)) hh8 hs8)
      clear hh8 hs8 ATs AT6 BX OF1 OF2 Q0 Q1 CX6
      obtain ⟨An, Bn, nn, cn, mn, dn, bn, on1, on2⟩ := AT8.out.bn
      have BN := Lib.hid bn; have ON1 := Lib.hid on1; have ON2 := Lib.hid on2
      have x0 := bn.c0; have x1 := bn.c1
      clear bn on1 on2
      have ZU := Lib.hid (show szC (unionC now x) ≤ 1000 by have := union_total now x; have := IN.out.zn; have := KN.out; have := LX.out; omega)
      have VU := Lib.hid (ok_iff.2 (IN.out.grows OX.out).1.ok)
      have LV := Lib.hid (show vs.length + 1 ≤ 1000000 by have := IN.out.len; have := KN.out; omega)
      by_cases h3 : k % 3 = 2
      · have r3 : (k : Int) % 3 = 2 := by omega
        have KK3 := Lib.hid h3
        clear h3
        have VD := Lib.hid (show validD (999, (k : Int)) = true from validD_iff.2 ⟨by show (1 : Int) ≤ 999; decide, by show (999 : Int) ≤ 65535; decide, by show 1 ≤ (k : Int); have := KK3.out; omega, by show (k : Int) ≤ 4294967295; have := KN.out; omega⟩)
        cases hh : hasC (unionC now x) (999, (k : Int)) with
        | true =>
          have HH := Lib.hid hh
          clear hh
          have hal : Below w8.heap.size w8 (w8.alloc (.cells #[.int .i64 999, .int .i64 k] 27)) := (Below.refl _ _).alloc (Nat.le_refl _) _
          have AT9 := Lib.hid (AT8.out.mono hal); have BN9 := Lib.hid (BN.out.mono hal)
          clear hal x0 x1
          have x0 := BN9.out.c0; have x1 := BN9.out.c1
          go_wp2_with fail
          refine (chasI (p := (999, (k : Int))) (IsCon_of BN9.out.con) rfl true HH.out).mono ?_
          rintro _ wa ⟨_, rfl, hba, rfl⟩
          have HBK := Lib.hid (AT9.out.hb.le hba)
          clear hba x0 x1
          go_wp2_with fail
          refine (known43 _).mono ?_
          rintro _ wK ⟨_, rfl, hbK, rfl⟩
          have HBK2 := Lib.hid (HBK.out.le hbK)
          clear hbK
          go_wp2
          go_ret
          exact retB rfl HBK2.out
        | false =>
          have HH := Lib.hid hh
          clear hh
          have IN2 := Lib.hid (IN.out.write KN.out OX.out LX.out VD.out HH.out); have BRK := Lib.hid (IN.out.brokW OX.out)
          clear IN
          obtain ⟨W9, hW9⟩ : ∃ W9, W9 = w8.alloc (.cells #[.int .i64 999, .int .i64 k] 27) := ⟨_, rfl⟩
          have hal : Below w8.heap.size w8 W9 := by rw [hW9]; exact (Below.refl _ _).alloc (Nat.le_refl _) _
          have d0 : W9.cell? ⟨w8.heap.size, 0, none⟩ = some (.int .i64 999) := by rw [hW9]; simp [go_sem]
          have d1 : W9.cell? ⟨w8.heap.size, 1, none⟩ = some (.int .i64 k) := by rw [hW9]; simp [go_sem]
          have AT9 := Lib.hid (AT8.out.mono hal); have BN9 := Lib.hid (BN.out.mono hal); have D0 := Lib.hid d0; have D1 := Lib.hid d1; have DEF9 := Lib.hid hW9
          have SN := Lib.hid (show w8.heap.size ≠ Ns from fun e => by have := AT8.out.ss.size; omega)
          have TN := Lib.hid (show some w8.heap.size ≠ u8.ownBlock from fun e => by have := (AT8.out.vr.own _ e.symm).2; omega)
          have BNe := Lib.hid (show w8.heap.size ≠ bN from fun e => by have := BN.out.size; omega)
          clear x0 x1
          have x0 := BN9.out.c0; have x1 := BN9.out.c1
          rw [hW9] at x0 x1
          clear hal d0 d1 hW9
          go_wp2_with fail
          clear x0 x1
          rw [← DEF9.out]
          refine (chasI (p := (999, (k : Int))) (IsCon_of BN9.out.con) rfl false HH.out).mono ?_
          rintro _ wa ⟨_, rfl, hba, rfl⟩
          have ATa := Lib.hid (AT9.out.mono hba); have BNa := Lib.hid (BN9.out.mono hba); have D0a := Lib.hid (cellKeep hba D0.out); have D1a := Lib.hid (cellKeep hba D1.out)
          clear hba AT9 BN9 D0 D1 AT8 BN DEF9
          have x0 := BNa.out.c0; have x1 := BNa.out.c1; have x2 := D0a.out; have x3 := D1a.out
          go_wp2_with fail
          clear x0 x1 x2 x3
          refine (kwritesP ATa.out.ss ATa.out.fresh OKS.out BNa.out.con ZU.out VU.out VD.out HH.out 0 BRK.out _ rfl).mono ?_
          rintro _ wb ⟨rfl, hhb, hsb⟩
          have D0b := Lib.hid (hhb.int ATa.out.ss.ni D0a.out); have D1b := Lib.hid (hhb.int ATa.out.ss.ni D1a.out)
          have ATb := Lib.hid (ATa.out.sessS hhb hsb)
          clear hhb hsb ATa BNa D0a D1a ON1 ON2
          obtain ⟨An', Bn', nn', cn', mn', dn', bn, on1, on2⟩ := ATb.out.bn
          have BN := Lib.hid bn; have ON1 := Lib.hid on1; have ON2 := Lib.hid on2
          have x0 := bn.c0; have x1 := bn.c1; have x2 := D0b.out; have x3 := D1b.out
          clear bn on1 on2
          have hal : Below wb.heap.size wb (wb.alloc (visBox ⟨0, true, (999, (k : Int)), unionC now x⟩ An' nn' cn' Bn' mn' dn')) := (Below.refl _ _).alloc (Nat.le_refl _) _
          have VA := Lib.hid (VisAt.new (v := ⟨0, true, (999, (k : Int)), unionC now x⟩) BN.out.con); have ATc := Lib.hid (ATb.out.mono hal)
          have E0 := Lib.hid (cellKeep hal x2); have E1 := Lib.hid (cellKeep hal x3)
          clear hal
          go_wp2_with (at_builtin; refine wpList_appV (B := w.heap.size) (v := ⟨0, true, (999, (k : Int)), unionC now x⟩) (A := An') (C := Bn') rfl rfl Try.underlying22 rfl rfl ATc.out.vr VA.out ON1.out ON2.out LV.out ATc.out.hb.size ?_; intro u' w' hr' hg' hat'; have ATd := Lib.hid (ATc.out.append hr' hg' hat'); have E0' := Lib.hid (hg'.cell E0.out TN.out); have E1' := Lib.hid (hg'.cell E1.out TN.out); clear hr' hg' hat' ATc x0 x1 x2 x3 BN ON1 ON2; obtain ⟨Ae, Be, ne, ce, me, de, bn, on1, on2⟩ := ATd.out.bn; have BN := Lib.hid bn; have x0 := bn.c0; have x1 := bn.c1; have x2 := E0'.out; have x3 := E1'.out; clear bn on1 on2; simp only [Act.put, List.setIfInBounds_toArray, List.set_cons_zero, List.set_cons_succ])
          have hd1 : Below w'.heap.size w' (w'.alloc (.cells #[.int .i64 999, .int .i64 k] 27)) := (Below.refl _ _).alloc (Nat.le_refl _) _
          have ATe := Lib.hid (ATd.out.mono hd1)
          refine (addB (b := w'.heap.size) (l := [(999, (k : Int))]) (IsCon_of (BN.out.con.mono hd1)) ⟨_, _, _, rfl, Dots.one w' 999 k⟩ hd1.size ZU.out (by simp) VU.out (valid_one VD.out)).mono ?_
          rintro _ wf ⟨_, rfl, hbf, _, rfl, Af, nf, cf, Bf, mf, df, rfl, rf1, rf2, _⟩
          have ATf := Lib.hid (ATe.out.mono hbf)
          have of1 : Off (pU u') Af (addC (unionC now x) [(999, (k : Int))]).1 := fun _ a ha => ATd.out.fresh _ (Row.from_ rf1 a ha)
          have of2 : Off (pU u') Bf (addC (unionC now x) [(999, (k : Int))]).2 := fun _ a ha => ATd.out.fresh _ (Row.from_ rf2 a ha)
          have ATg := Lib.hid (ATf.out.store ⟨rf1.asDots, rf2.asDots⟩ of1 of2)
          clear x0 x1 x2 x3
          have x0 := cellKeep (hd1.le hbf) BN.out.c0; have x1 := cellKeep (hd1.le hbf) BN.out.c1
          have fz0 := ATf.out.fz 0; have fz1 := ATf.out.fz 1
          clear hd1 hbf rf1 rf2 of1 of2 ATd ATe ATf BN
          go_wp2
          go_roundw
          case rel => exact ⟨k + 1, _, _, _, _, by simp, by omega, ATg.out, IN2.out⟩
          case measure => simp [intOf]; omega
      · have r1 : ¬ (k : Int) % 3 = 2 := by omega
        have r3 : ((k : Int) % 3 != 2) = true := by simp [r1]
        have IN2 := Lib.hid (IN.out.read KN.out OX.out LX.out); have BRK := Lib.hid (IN.out.brokR OX.out)
        clear h3 IN
        go_wp2_with fail
        refine (kreadsP AT8.out.ss AT8.out.fresh OKS.out BN.out.con ZU.out VU.out 0 BRK.out _ rfl).mono ?_
        rintro _ w9 ⟨rfl, hh9, hs9⟩
        have AT9 := Lib.hid (AT8.out.sessS hh9 hs9)
        clear hh9 hs9 AT8 BN ON1 ON2 x0 x1
        obtain ⟨An', Bn', nn', cn', mn', dn', bn, on1, on2⟩ := AT9.out.bn
        have BN := Lib.hid bn; have ON1 := Lib.hid on1; have ON2 := Lib.hid on2
        have x0 := bn.c0; have x1 := bn.c1
        clear bn on1 on2
        have hal : Below w9.heap.size w9 (w9.alloc (visBox ⟨0, false, (0, 0), unionC now x⟩ An' nn' cn' Bn' mn' dn')) := (Below.refl _ _).alloc (Nat.le_refl _) _
        have VA := Lib.hid (VisAt.new (v := ⟨0, false, (0, 0), unionC now x⟩) BN.out.con); have ATa := Lib.hid (AT9.out.mono hal)
        clear hal
        go_wp2_with (at_builtin; refine wpList_appV (B := w.heap.size) (v := ⟨0, false, (0, 0), unionC now x⟩) (A := An') (C := Bn') rfl rfl Try.underlying22 rfl rfl ATa.out.vr VA.out ON1.out ON2.out LV.out ATa.out.hb.size ?_; intro u' w' hr' hg' hat'; have ATb := Lib.hid (ATa.out.append hr' hg' hat'); clear hr' hg' hat' ATa; simp only [Act.put, List.setIfInBounds_toArray, List.set_cons_zero, List.set_cons_succ])
        go_roundw
        case rel => exact ⟨k + 1, _, _, _, _, by simp, by omega, ATb.out, IN2.out⟩
        case measure => simp [intOf]; omega
    · have hkn : k = n := by omega
      subst hkn
      have K20 := HN
      obtain ⟨Cv, cv, rfl, hvis⟩ := AT.out.vr.visits
      have VIS := Lib.hid hvis
      clear hvis hlt
      have JV := Lib.hid IN.out.jv
      have LV := Lib.hid (show vs.length ≤ 1000 by have := IN.out.len; have := K20.out; omega)
      go_wp2_with fail
      refine (judgesI Cv vs.length cv vs 15 wr VIS.out LV.out (by omega) (by rw [List.any_eq_false]; intro v hv; rw [(JV.out v hv).2.1]; simp) IN.out.jf (fun v hv => (JV.out v hv).2.2) (fun v hv => by rw [(JV.out v hv).1]; decide) (-1) 0 IN.out.judge).mono ?_
      rintro _ w1 ⟨_, rfl, hb1, rfl⟩
      have AT1 := Lib.hid (AT.out.mono hb1)
      clear hb1 AT VIS
      have OKT := Lib.hid (IN.out.okT K20.out)
      go_wp2_with fail
      refine (sHas Nt t.1 t.2 w1 AT1.out.tt.sess OKT.out.l1).mono ?_
      rintro _ w2' ⟨_, rfl, hb2, Ah, nh, ch, Bh, mh, dh, rfl, hch, _, _⟩
      have AT2 := Lib.hid (AT1.out.mono hb2); have CH := Lib.hid hch
      clear hb2 hch AT1
      go_wp2_with fail
      refine (sWrote Nt t.1 t.2 w2' AT2.out.tt.sess OKT.out.l2).mono ?_
      rintro _ w3' ⟨_, rfl, hb3, Aw, nw, cw, Bw, mw, dw, rfl, hcw, _, _⟩
      have AT3 := Lib.hid (AT2.out.mono hb3); have CH3 := Lib.hid (CH.out.mono hb3); have CW := Lib.hid hcw
      clear hb3 hcw AT2 CH
      go_wp2_with fail
      refine (iunionI (IsCon_of CH3.out) (IsCon_of CW.out) OKT.out.l1 OKT.out.l2 OKT.out.v1 OKT.out.v2).mono ?_
      rintro _ w4' ⟨_, rfl, hb4, _, rfl, Ab, nb, cb', Bb, mb, db, rfl, rb1, rb2, _⟩
      have AT4 := Lib.hid (AT3.out.mono hb4)
      have hal4 : Below w4'.heap.size w4' (w4'.alloc (conBox Ab nb cb' Bb mb db)) := (Below.refl _ _).alloc (Nat.le_refl _) _
      have BB := Lib.hid (Boxed.new (w := w4') (c := unionC t.1 t.2) ⟨rb1.asDots, rb2.asDots⟩); have AT5 := Lib.hid (AT4.out.mono hal4)
      have x0 := AT5.out.bm.c0; have x1 := AT5.out.bm.c1
      have OB := Lib.hid (union_spec (ok_iff.1 OKT.out.v1) (ok_iff.1 OKT.out.v2))
      have ZB := Lib.hid (show szC (unionC t.1 t.2) ≤ 1000 by have h1 := union_total t.1 t.2; have h2 := IN.out.zt; have h3 := K20.out; have h4 : szC t.2 = 0 := by rw [IN.out.te]; rfl
                                                              omega)
      have ZM := Lib.hid (show szC more ≤ 1000 by have := LM.out; omega)
      clear hb4 hal4 rb1 rb2 AT4 AT3 CH3 CW
      have OM := Lib.hid (ok_iff.1 HVP.out)
      have hg : 15 - (winS t.2 more 9 + winS t.1 more 6) = 15 - (0 + winS t.1 more 6) := by rw [IN.out.te, zeroC_in more OM.out]
      have HG := Lib.hid hg
      clear hg
      have hand := end_and t.1 more now IN.out.tt.ok OM.out IN.out.tn.ok
      unfold andI at hand
      have HAND := Lib.hid hand
      clear hand
      go_wp2_with fail
      clear x0 x1
      refine (ssafe Nt A B n1 ca m1 cb t.1 t.2 more _ AT5.out.tt.sess AT5.out.bm.con OKT.out.l1 OKT.out.l2 ZM.out OKT.out.v1 OKT.out.v2 HVP.out).mono ?_
      rw [HG.out]
      rintro _ w6' ⟨_, rfl, hb6, rfl⟩
      have AT6 := Lib.hid (AT5.out.mono hb6); have BB6 := Lib.hid (BB.out.mono hb6)
      clear hb6 AT5 BB HG
      generalize 15 - (0 + winS t.1 more 6) = g1 at *
      obtain ⟨An, Bn, nn, cn, mn, dn, bn, _, _⟩ := AT6.out.bn
      have BN := Lib.hid bn
      have x0 := AT6.out.bm.c0; have x1 := AT6.out.bm.c1; have x2 := bn.c0; have x3 := bn.c1
      clear bn
      have ZN := Lib.hid (show szC now ≤ 1000 by have := IN.out.zn; have := K20.out; omega)
      go_wp2_with fail
      clear x0 x1 x2 x3
      refine (iunionI AT6.out.bm.is BN.out.is ZM.out ZN.out HVP.out (ok_iff.2 IN.out.tn.ok)).mono ?_
      rintro _ w7' ⟨_, rfl, hb7, _, rfl, Ag, ng, cg, Bg, mg, dg, rfl, rg1, rg2, _⟩
      have AT7 := Lib.hid (AT6.out.mono hb7); have BB7 := Lib.hid (BB6.out.mono hb7)
      have hal7 : Below w7'.heap.size w7' (w7'.alloc (conBox Ag ng cg Bg mg dg)) := (Below.refl _ _).alloc (Nat.le_refl _) _
      have BG := Lib.hid (Boxed.new (w := w7') (c := unionC more now) ⟨rg1.asDots, rg2.asDots⟩); have AT8 := Lib.hid (AT7.out.mono hal7); have BB8 := Lib.hid (BB7.out.mono hal7)
      clear hb7 hal7 rg1 rg2 AT6 BB6 AT7 BB7 BN
      have OG := Lib.hid (union_spec OM.out IN.out.tn.ok)
      have ZG := Lib.hid (show szC (unionC more now) ≤ 1000 by have h1 := union_total more now; have h2 := IN.out.zn; have h3 := K20.out; have h4 := LM.out; omega)
      have hg : 15 - (winS t.2 (unionC more now) 9 + winS t.1 (unionC more now) 6) = 15 - (0 + winS t.1 (unionC more now) 6) := by rw [IN.out.te, zeroC_in _ OG.out.1.ok]
      have HG := Lib.hid hg
      clear hg
      go_wp2_with fail
      refine (ssafe Nt Ag Bg ng cg mg dg t.1 t.2 (unionC more now) _ AT8.out.tt.sess BG.out.con OKT.out.l1 OKT.out.l2 ZG.out OKT.out.v1 OKT.out.v2 (ok_iff.2 OG.out.1.ok)).mono ?_
      rw [HG.out]
      rintro _ w9' ⟨_, rfl, hb9, rfl⟩
      have AT9 := Lib.hid (AT8.out.mono hb9); have BB9 := Lib.hid (BB8.out.mono hb9)
      clear hb9 AT8 BB8 BG HG
      generalize 15 - (0 + winS t.1 (unionC more now) 6) = g2 at *
      have hand := HAND.out
      have x0 := BB9.out.c0; have x1 := BB9.out.c1
      go_wp2_with fail
      clear x0 x1
      have W1 := Lib.hid (win_in IN.out.tt.ok OB.out.1.ok (fun d hd => (OB.out.2 d).2 (.inl hd)))
      have W2 := Lib.hid (fun g => show winS t.2 (unionC t.1 t.2) g = 0 by rw [IN.out.te]; exact zeroC_in _ (by have := OB.out.1.ok; rw [IN.out.te] at this; exact this) g)
      refine (ksafe (s := t) AT9.out.tt.sess OKT.out BB9.out.con ZB.out (ok_iff.2 OB.out.1.ok) 15 (by rw [W1.out, W2.out]; rfl)).mono ?_
      rintro _ wa' ⟨_, rfl, hba, rfl⟩
      have ATa := Lib.hid (AT9.out.mono hba); have BBa := Lib.hid (BB9.out.mono hba)
      have x0 := BBa.out.c0; have x1 := BBa.out.c1
      clear hba AT9 BB9 hand
      go_wp2_with fail
      clear x0 x1
      refine (kreads (s := t) ATa.out.tt.sess OKT.out BBa.out.con ZB.out (ok_iff.2 OB.out.1.ok) 0 (by rw [W1.out, W2.out]; rfl) _ rfl).mono ?_
      rintro _ wb' ⟨rfl, hhb, _⟩
      have HBK := Lib.hid (ATa.out.hb.hole hhb (by have := ATa.out.wT; omega) ATa.out.hb.size)
      clear hhb ATa BBa
      go_wp2_with fail
      refine (known43 _).mono ?_
      rintro _ wK ⟨_, rfl, hbK, rfl⟩
      have HBK2 := Lib.hid (HBK.out.le hbK)
      clear hbK
      go_wp2
      go_ret
      exact retB rfl HBK2.out
end Go.Proofs.Ytjbakmmmgejhlaa

/-
  Visits, contexts that came in: what they read as.
-/
namespace Go.Proofs.Ytjbakmmmgejhlaa
open Go.ChangeShapes Go.WideShapes Go.ChangeAt Go.RowKit Go.Deep Go.Joins

instance : Inhabited VS := ⟨⟨⟨0, false, (0, 0), ([], [])⟩, none, 0, 0, none, 0, 0⟩⟩
section
variable {H : Type} {enc : TypeId × Value → H} {w : World} {base : Nat} {held : Bool}
theorem cells_int : Try.prog.cellsOf 3 = 1 := by kernel_rfl
theorem cells_bool : Try.prog.cellsOf 4 = 1 := by kernel_rfl
theorem cells_dot : Try.prog.cellsOf 27 = 2 := by kernel_rfl
theorem cells_con : Try.prog.cellsOf 31 = 2 := by kernel_rfl
theorem cells_vec : Try.prog.cellsOf 29 = 1 := by kernel_rfl
theorem cells_sl : Try.prog.cellsOf 28 = 1 := by kernel_rfl
theorem cells_vis : Try.prog.cellsOf 33 = 6 := by kernel_rfl
theorem open_dot {fuel : Nat} {v0 v1 : Value} {x : DataW H × List MemPlace} (h : DataW.trod enc Try.prog w base (fun _ => true) held fuel 27 [v0, v1] = some x) : ∃ p q, v0 = .int .i64 p ∧ v1 = .int .i64 q := by
  obtain ⟨xs, k, _, _, _, hxl, hf⟩ := DataW.trod_struct Try.underlying27 h
  match xs, hxl with
  | [y0, y1], _ =>
    have g0 := hf 0 _ rfl
    have g1 := hf 1 _ rfl
    simp [cells_int] at g0 g1
    obtain ⟨p, e0, _⟩ := DataW.trod_int Try.underlying3 g0
    obtain ⟨q, e1, _⟩ := DataW.trod_int Try.underlying3 g1
    simp at e0 e1
    exact ⟨p, q, e0, e1⟩
theorem open_con {fuel : Nat} {v0 v1 : Value} {x : DataW H × List MemPlace} (h : DataW.trod enc Try.prog w base (fun _ => true) held fuel 31 [v0, v1] = some x) : ∃ A n ca B m cb c, v0 = .slice A n ca ∧ v1 = .slice B m cb ∧ Con w A n ca B m cb c := by
  obtain ⟨xs, k, _, _, _, hxl, hf⟩ := DataW.trod_struct Try.underlying31 h
  match xs, hxl with
  | [y0, y1], _ =>
    have g0 := hf 0 _ rfl
    have g1 := hf 1 _ rfl
    simp [cells_vec, cells_sl] at g0 g1
    obtain ⟨A, n, ca, l, rfl, d0⟩ := read_vec g0
    obtain ⟨B, m, cb, l', rfl, d1⟩ := read_dots g1
    exact ⟨A, n, ca, B, m, cb, (l, l'), rfl, rfl, d0, d1⟩
theorem open_vis {fuel : Nat} {v0 v1 v2 v3 v4 v5 : Value} {x : DataW H × List MemPlace} (h : DataW.trod enc Try.prog w base (fun _ => true) held fuel 33 [v0, v1, v2, v3, v4, v5] = some x) :
    ∃ s : VS, vcell s = [v0, v1, v2, v3, v4, v5] ∧ Con w s.A s.n s.ca s.B s.m s.cb s.v.x ∧ (Lit.int .i64 s.v.c).wf = true := by
  obtain ⟨xs, k, _, _, _, hxl, hf⟩ := DataW.trod_struct Try.underlying33 h
  match xs, hxl with
  | [y0, y1, y2, y3], _ =>
    have g0 := hf 0 _ rfl
    have g1 := hf 1 _ rfl
    have g2 := hf 2 _ rfl
    have g3 := hf 3 _ rfl
    simp [cells_int, cells_bool, cells_dot, cells_con] at g0 g1 g2 g3
    obtain ⟨c, e0, _, w0⟩ := DataW.trod_int Try.underlying3 g0
    obtain ⟨b, e1, _⟩ := DataW.trod_bool Try.underlying4 g1
    simp at e0 e1
    subst e0; subst e1
    obtain ⟨p, q, rfl, rfl⟩ := open_dot g2
    obtain ⟨A, n, ca, B, m, cb, cx, rfl, rfl, hc⟩ := open_con g3
    exact ⟨⟨⟨c, b, (p, q), cx⟩, A, n, ca, B, m, cb⟩, rfl, hc, w0⟩
theorem read_visits {fuel : Nat} {v : Value} {x : DataW H × List MemPlace} (h : DataW.trod enc Try.prog w base (fun _ => true) held fuel 22 [v] = some x) : ∃ A n c l, v = .slice A n c ∧ Visits w A n c l ∧ ∀ u ∈ l, (Lit.int .i64 u.c).wf = true := by
  rcases open_slice Try.underlying22 h with ⟨h1, _⟩ | ⟨a, len, cap, m, n, D, Pl, h1, hb, hl, hm, hmm, _, hx⟩
  · cases h1
    exact ⟨none, 0, 0, [], rfl, Visits.nil_, fun u hu => nomatch hu⟩
  · cases h1
    rw [if_pos rfl] at hmm
    have each : ∀ i, i < len → ∃ s : VS, (∀ j u, (vcell s)[j]? = some u → w.cell? (a.add (i * 6 + j)) = some u) ∧ Con w s.A s.n s.ca s.B s.m s.cb s.v.x ∧ (Lit.int .i64 s.v.c).wf = true := by
      intro i hi
      obtain ⟨cs', h1, h2⟩ := hx i (by omega)
      rw [cells_vis] at h1
      obtain ⟨_, hlen, hcell⟩ := World.cells?_some h1
      match cs', hlen with
      | [v0, v1, v2, v3, v4, v5], _ =>
        obtain ⟨s, hs, hc, hw⟩ := open_vis h2
        refine ⟨s, fun j u hj => ?_, hc, hw⟩
        rw [hs] at hj
        have hj6 : j < 6 := (List.getElem?_eq_some_iff.1 hj).1
        have := hcell j hj6
        rw [add_add] at this
        rw [this]; exact hj
    obtain ⟨q, hq⟩ := choose_lt each
    refine ⟨some a, len, cap, (List.range len).map fun i => (q i).v, rfl, ⟨by simp, hl, hm, (fun e => nomatch e), fun i v hi => ?_⟩, fun u hu => ?_⟩
    · have hil : i < len := by have := (List.getElem?_eq_some_iff.1 hi).1; simpa using this
      rw [List.getElem?_map, List.getElem?_range hil] at hi
      simp only [Option.map_some, Option.some.injEq] at hi
      subst hi
      obtain ⟨hc, hcon, _⟩ := hq i hil
      obtain ⟨b, o, s⟩ := a
      have hs : s = none := by have h9 := World.cell?_spot ((hq 0 (by omega)).1 0 _ rfl); simpa [Addr.add] using h9
      subst hs
      have cell : ∀ j u, (vcell (q i))[j]? = some u → w.cell? ⟨b, o + i * 6 + j, none⟩ = some u := fun j u hj => by
        have := hc j u hj
        rw [add_lit] at this
        rw [Nat.add_assoc]; exact this
      exact ⟨b, o, (q i).A, (q i).n, (q i).ca, (q i).B, (q i).m, (q i).cb, rfl, cell 0 _ rfl, cell 1 _ rfl, cell 2 _ rfl, cell 3 _ rfl, cell 4 _ rfl, cell 5 _ rfl, hcon⟩
    · obtain ⟨i, hi, rfl⟩ := List.mem_map.1 hu
      exact (hq i (List.mem_range.1 hi)).2.2
end
end Go.Proofs.Ytjbakmmmgejhlaa

/-
  A list of contexts that came in: what it reads as.
-/
namespace Go.Proofs.Ytjbakmmmgejhlaa
open Go.ChangeShapes Go.WideShapes Go.ChangeAt Go.RowKit Go.Deep Go.Joins

/-- A context and where its dots lie. -/
structure CS where
  x : Ctx
  A : Option Addr
  n : Nat
  ca : Nat
  B : Option Addr
  m : Nat
  cb : Nat
instance : Inhabited CS := ⟨⟨([], []), none, 0, 0, none, 0, 0⟩⟩
section
variable {H : Type} {enc : TypeId × Value → H} {w : World} {base : Nat} {held : Bool}
theorem read_ctxs {fuel : Nat} {v : Value} {x : DataW H × List MemPlace} (h : DataW.trod enc Try.prog w base (fun _ => true) held fuel 43 [v] = some x) : ∃ A n c l, v = .slice A n c ∧ Ctxs w A n c l := by
  rcases open_slice Try.underlying43 h with ⟨h1, _⟩ | ⟨a, len, cap, m, n, D, Pl, h1, hb, hl, hm, hmm, _, hx⟩
  · cases h1
    exact ⟨none, 0, 0, [], rfl, Ctxs.nil_⟩
  · cases h1
    rw [if_pos rfl] at hmm
    have each : ∀ i, i < len → ∃ s : CS, w.cell? (a.add (i * 2 + 0)) = some (.slice s.A s.n s.ca) ∧ w.cell? (a.add (i * 2 + 1)) = some (.slice s.B s.m s.cb) ∧ Con w s.A s.n s.ca s.B s.m s.cb s.x := by
      intro i hi
      obtain ⟨cs', h1, h2⟩ := hx i (by omega)
      rw [cells_con] at h1
      obtain ⟨_, hlen, hcell⟩ := World.cells?_some h1
      match cs', hlen with
      | [v0, v1], _ =>
        obtain ⟨A, n, ca, B, m, cb, c, rfl, rfl, hc⟩ := open_con h2
        have e0 := hcell 0 (by omega)
        have e1 := hcell 1 (by omega)
        rw [add_add] at e0 e1
        exact ⟨⟨c, A, n, ca, B, m, cb⟩, by rw [e0]; rfl, by rw [e1]; rfl, hc⟩
    obtain ⟨q, hq⟩ := choose_lt each
    refine ⟨some a, len, cap, (List.range len).map fun i => (q i).x, rfl, ⟨by simp, hl, hm, (fun e => nomatch e), fun i v hi => ?_⟩⟩
    have hil : i < len := by have := (List.getElem?_eq_some_iff.1 hi).1; simpa using this
    rw [List.getElem?_map, List.getElem?_range hil] at hi
    simp only [Option.map_some, Option.some.injEq] at hi
    subst hi
    obtain ⟨h0, h1, hcon⟩ := hq i hil
    obtain ⟨b, o, s⟩ := a
    have hs : s = none := by have h9 := World.cell?_spot (hq 0 (by omega)).1; simpa [Addr.add] using h9
    subst hs
    rw [add_lit] at h0 h1
    exact ⟨b, o, (q i).A, (q i).n, (q i).ca, (q i).B, (q i).m, (q i).cb, rfl, h0, by rw [Nat.add_assoc]; exact h1, hcon⟩
end
end Go.Proofs.Ytjbakmmmgejhlaa

/-
  SessionHolds: of any contexts and any context, with no condition, the law returns true, and its arguments read afterwards as before.
-/
namespace Go.Proofs.Ytjbakmmmgejhlaa
open Go.ChangeShapes Go.WideShapes Go.ChangeAt Go.RowKit Go.Deep Go.Joins

set_option maxRecDepth 100000 in
theorem sessionHolds_lifted (os : Os) (started : os.Started) (H : Type) (enc : TypeId × Value → H) :
    ReturnsInHanded {} Try.checked os 5 .any (Rows.sessionHoldsSpec.pre6 enc Try.prog Try.f5 Rows.sessionHoldsRow.domain false) (Rows.sessionHoldsSpec.post enc Try.prog Try.f5 false true false false) := by
  refine returnsInHanded_of_change (C := Try.checked) own_none started (by kernel_rfl) Try.func5
    (ChangeSpec.witness6 (enc := enc) (C := Try.checked) false ⟨#[], #[.slice none 0 0, .agg #[.slice none 0 0, .slice none 0 0]], []⟩ 8 (by kernel_rfl) (by kernel_rfl) (by kernel_rfl) (by kernel_rfl)) ?_
  intro W base args ds gs before hval0 hW hcnd _
  have hval : ∀ (j : Nat) t v, Try.f5.params[j]? = some t → args[j]? = some v → Value.okWide Try.prog W .any base t v := hval0
  have hW' := hW
  obtain ⟨p, q, hA0, hV, rfl, hfz, hnd⟩ := hW
  have hA : DataW.TrodAll enc Try.prog W 0 (fun _ => true) true Try.f5.params.toList args.toList ds p := hA0
  rw [Try.params5] at hA hval
  obtain ⟨v0, v1, d0, d1, p0, p1, rfl, rfl, rfl, h0, h1⟩ := trodAll_two hA
  obtain ⟨rfl, rfl⟩ := trodVars_none hV
  obtain ⟨A, n, c, rfl⟩ := okWide_slice Try.underlying43 (hval 0 43 v0 rfl rfl)
  obtain ⟨_, g0⟩ := h0
  obtain ⟨A', n', c', l, e, hl⟩ := read_ctxs g0
  cases e
  obtain ⟨A2, n2, ca, B, m, cb, q, rfl, hq⟩ := read_con (hval 1 31 v1 rfl rfl) h1
  clear hA0 hval0
  refine (lawSHolds A n c l A2 B n2 ca m cb q W hl hq).mono fun e W' ⟨_, he, hb, rfl⟩ => ?_
  subst he
  exact ⟨_, rfl, law_post laid_out (by kernel_rfl) (by kernel_rfl) Try.underlying4 rfl rfl hW' hb⟩

theorem sessionHolds_holds : Rows.SessionHoldsSaid :=
  OpenClaim.holds_of_wide 5 Try.f5 rfl rfl rfl rfl rfl rfl rfl ⟨rfl, rfl, rfl, rfl, rfl⟩ rfl rfl rfl rfl rfl (by kernel_rfl) Try.func5 (by kernel_rfl)
    (of_decide_eq_true (by kernel_rfl)) (by unfold Func.isWrapper; first | (rw [if_pos (by decide +kernel)]; kernel_rfl) | (rw [if_neg (by decide +kernel)]; exact ⟨rfl, rfl⟩))
    (fun os started H enc _ => sessionHolds_lifted os started H enc)
end Go.Proofs.Ytjbakmmmgejhlaa
