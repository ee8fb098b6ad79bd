/-
  A row of visits of the call's own: an append.
-/
import Derived.Test.YtjbakmmmgejhlaaWR
import Derived.Maps.AppendAt
import Derived.Test.YtjbakmmmgejhlaaWO
import Derived.Test.YtjbakmmmgejhlaaWM
namespace Go.Proofs.Ytjbakmmmgejhlaa
open Go.RowKit

/-- A visit and where its context's dots lie. -/
structure VS where
  v : Vis
  A : Option Addr
  n : Nat
  ca : Nat
  B : Option Addr
  m : Nat
  cb : Nat
def vcell (s : VS) : List Value := [.int .i64 s.v.c, .bool s.v.w, .int .i64 s.v.d.1, .int .i64 s.v.d.2, .slice s.A s.n s.ca, .slice s.B s.m s.cb]
def vcells (l : List VS) : List Value := l.flatMap vcell
theorem vcells_append (a b : List VS) : vcells (a ++ b) = vcells a ++ vcells b := by unfold vcells; rw [List.flatMap_append]
theorem vcells_length : ∀ l : List VS, (vcells l).length = l.length * 6
  | [] => rfl
  | s :: l => by
    have : vcells (s :: l) = vcell s ++ vcells l := rfl
    rw [this, List.length_append, vcells_length l]; simp [vcell]; omega
theorem vcells_get : ∀ (l : List VS) (i : Nat) (s : VS), l[i]? = some s → ∀ j u, (vcell s)[j]? = some u → (vcells l)[i * 6 + j]? = some u
  | [], i, s, h, _, _, _ => by simp at h
  | a :: l, 0, s, h, j, u, hj => by
    simp at h; subst h
    have : vcells (a :: l) = vcell a ++ vcells l := rfl
    rw [this, List.getElem?_append_left (by have := (List.getElem?_eq_some_iff.1 hj).1; omega)]
    simpa using hj
  | a :: l, i + 1, s, h, j, u, hj => by
    have := vcells_get l i s (by simpa using h) j u hj
    have e : vcells (a :: l) = vcell a ++ vcells l := rfl
    rw [e, List.getElem?_append_right (by simp [vcell]; omega)]
    have e2 : (i + 1) * 6 + j - (vcell a).length = i * 6 + j := by simp [vcell]; omega
    rw [e2]; exact this
theorem vcells_at (l : List VS) (j : Nat) (u : Value) (h : (vcells l)[j]? = some u) : ∃ s ∈ l, u ∈ vcell s := by
  have := List.mem_of_getElem? h
  unfold vcells at this
  exact List.mem_flatMap.1 this
theorem vcells_one (l : List VS) : ∀ u ∈ vcells l, u.oneCell' = true := by
  intro u hu
  obtain ⟨j, hj⟩ := List.getElem?_of_mem hu
  obtain ⟨s, _, h⟩ := vcells_at l j u hj
  simp only [vcell, List.mem_cons, List.not_mem_nil, or_false] at h
  rcases h with rfl | rfl | rfl | rfl | rfl | rfl <;> rfl
/-- The dots lie outside a block. -/
def OffB (r : Option Nat) (A : Option Addr) (l : List Dot) : Prop := l ≠ [] → ∀ a, A = some a → some a.block ≠ r
/-- A row of visits of the call's own, from block B on; the visits' dots lie outside it. -/
def VRow (w : World) (B : Nat) (u : Value) (l : List Vis) : Prop :=
  ∃ ss : List VS, ss.map (·.v) = l ∧ w.ownsRow B 33 6 u ss.length (vcells ss) ∧ ∀ s ∈ ss, Con w s.A s.n s.ca s.B s.m s.cb s.v.x ∧ OffB u.ownBlock s.A s.v.x.1 ∧ OffB u.ownBlock s.B s.v.x.2
section
variable {w w' : World} {B : Nat} {u : Value} {l : List Vis}
theorem Dots.grownOff {A : Option Addr} {n c : Nat} {l : List Dot} {r : Option Nat} (h : Dots w A n c l) (hg : w.grownBy w' r) (ho : OffB r A l) : Dots w' A n c l :=
  ⟨h.len, h.cap, h.max, h.nil, fun i d hi => by
    obtain ⟨b, o, e, hb, h1, h2⟩ := h.cell i d hi
    have hn := ho (fun e => by subst e; simp at hi) _ e
    exact ⟨b, o, e, Nat.lt_of_lt_of_le hb hg.size, hg.cell h1 hn, hg.cell h2 hn⟩⟩
theorem Dots.offNew {A : Option Addr} {n c : Nat} {l : List Dot} (h : Dots w A n c l) {k : Nat} (hk : w.heap.size ≤ k) : OffB (some k) A l := fun hne a ha e => by
  obtain ⟨d, t, rfl⟩ := List.exists_cons_of_ne_nil hne
  obtain ⟨b, o, e2, hb, _⟩ := h.cell 0 d rfl
  rw [ha] at e2; cases e2
  simp only [Option.some.injEq] at e
  have e : b = k := e
  omega
theorem VRow.nil_ (w : World) (B : Nat) : VRow w B (.slice none 0 0) [] := ⟨[], rfl, World.ownsRow_nil w B _ 6, fun _ h => nomatch h⟩
theorem ownsRow_below {e : TypeId} {z n : Nat} {xs : List Value} (h : w.ownsRow B e z u n xs) (hb : Below w.heap.size w w') : w'.ownsRow B e z u n xs := by
  refine ⟨h.1, ?_⟩
  rcases h.2 with h2 | ⟨g, cap, cur, hv, hg, hh, r⟩
  · exact .inl h2
  · exact .inr ⟨g, cap, cur, hv, hg, (hb.block g (Array.getElem?_eq_some_iff.1 hh).1).trans hh, r⟩
theorem VRow.mono (h : VRow w B u l) (hb : Below w.heap.size w w') : VRow w' B u l := by
  obtain ⟨ss, e, ho, hs⟩ := h
  exact ⟨ss, e, ownsRow_below ho hb, fun s hm => let ⟨a, b, c⟩ := hs s hm; ⟨a.mono hb, b, c⟩⟩
theorem VRow.own (h : VRow w B u l) : ∀ k, u.ownBlock = some k → B ≤ k ∧ k < w.heap.size := by
  obtain ⟨ss, e, ho, hs⟩ := h
  exact ho.lt
theorem VRow.visits (h : VRow w B u l) : ∃ A c, u = .slice A l.length c ∧ Visits w A l.length c l := by
  obtain ⟨ss, rfl, ho, hs⟩ := h
  rw [List.length_map]
  rcases ho.2 with ⟨rfl, h0⟩ | ⟨g, cap, cur, rfl, hg, hh, hn, hm, hsz, ht⟩
  · have : ss = [] := List.eq_nil_of_length_eq_zero h0
    subst this
    exact ⟨none, 0, rfl, Visits.nil_⟩
  · refine ⟨some ⟨g, 0, none⟩, cap, rfl, by simp, hn, hm, (fun e => nomatch e), fun i v hi => ?_⟩
    rw [List.getElem?_map] at hi
    cases hsi : ss[i]? with
    | none => rw [hsi] at hi; cases hi
    | some s =>
      rw [hsi] at hi; cases hi
      have cell : ∀ j u, (vcell s)[j]? = some u → w.cell? ⟨g, 0 + i * 6 + j, none⟩ = some u := fun j u hj => by
        have := ho.cells (g := g) rfl (i * 6 + j) u (vcells_get ss i s hsi j u hj)
        rw [add_lit] at this
        rw [Nat.add_assoc]; exact this
      exact ⟨g, 0, s.A, s.n, s.ca, s.B, s.m, s.cb, rfl, cell 0 _ rfl, cell 1 _ rfl, cell 2 _ rfl, cell 3 _ rfl, cell 4 _ rfl, cell 5 _ rfl, (hs s (List.mem_of_getElem? hsi)).1⟩
end
theorem info_vis : ∃ i : TypeInfo, Try.prog.info? 33 = some i ∧ i.zero = some (.agg #[.int .i64 0, .bool false, .int .i64 0, .int .i64 0, .slice none 0 0, .slice none 0 0]) ∧ i.size = 6 ∧ i.bytes = 80 := by
  obtain ⟨i, h1, h2, h3, h4⟩ := info_parts (P := Try.prog) (show (Try.prog.info? 33).map (fun i => (i.zero, i.size, i.bytes)) = some (some (.agg #[.int .i64 0, .bool false, .int .i64 0, .int .i64 0, .slice none 0 0, .slice none 0 0]), 6, 80) by kernel_rfl)
  exact ⟨i, h1, h2, h3, h4⟩
theorem wpList_appV {ops : Array Oper} {rest : List Oper} {o : Oper} {a : Act} {Q : Exit → Act → World → Prop} {s x : Operand} {t : TypeId} {w : World} {B b : Nat} {u : Value} {l : List Vis} {v : Vis} {A C : Option Addr} {n ca m cb : Nat}
    (hgd : o.guard = none) (ho : o.op = .call { callee := .builtin .append, args := #[s, x], argTypes := #[t, t] }) (ht : Try.prog.underlying t = some (.slice 33)) (hsv : a.eval s = u) (hxv : a.eval x = .slice (some ⟨b, 0, none⟩) 1 1)
    (h : VRow w B u l) (hv : VisAt b 0 A n ca C m cb v w) (o1 : OffB u.ownBlock A v.x.1) (o2 : OffB u.ownBlock C v.x.2) (hs : l.length + 1 ≤ 1000000) (hB : B ≤ w.heap.size)
    (K : ∀ u' w', VRow w' B u' (l ++ [v]) → w.grownBy w' u.ownBlock → (u'.ownBlock = u.ownBlock ∨ u'.ownBlock = some w.heap.size) → wpList Try.prog ops Q rest (a.put o.dst u') w') : wpList Try.prog ops Q (o :: rest) a w := by
  obtain ⟨i, hi, hz, hsz, hby⟩ := info_vis
  obtain ⟨ss, rfl, hown, hcon⟩ := h
  rw [List.length_map] at hs
  refine wpList_append_own_at w hgd s x t ho B 33 i _ 6 80 ht hi hz hsz hby rfl (by omega) u ss.length (vcells ss) hsv hown ⟨b, 0, none⟩ 1 1 (vcells [⟨v, A, n, ca, C, m, cb⟩]) hxv (by rw [vcells_length]; rfl) (fun j x hj => ?_) (vcells_one _) (by unfold maxLen; omega) (by omega) hB ?_
  · rw [add_lit]
    match j, hj with
    | 0, hj => cases hj; exact hv.c0
    | 1, hj => cases hj; exact hv.c1
    | 2, hj => cases hj; exact hv.c2
    | 3, hj => cases hj; exact hv.c3
    | 4, hj => cases hj; exact hv.c4
    | 5, hj => cases hj; exact hv.c5
    | j + 6, hj => exact absurd (List.getElem?_eq_some_iff.1 hj).1 (by rw [vcells_length]; simp)
  · intro u' w' h2 hg _ hat
    refine K u' w' ⟨ss ++ [⟨v, A, n, ca, C, m, cb⟩], by simp, by rw [vcells_append]; simpa using h2, fun s hm => ?_⟩ hg hat
    have key : ∀ s : VS, Con w s.A s.n s.ca s.B s.m s.cb s.v.x ∧ OffB u.ownBlock s.A s.v.x.1 ∧ OffB u.ownBlock s.B s.v.x.2 → Con w' s.A s.n s.ca s.B s.m s.cb s.v.x ∧ OffB u'.ownBlock s.A s.v.x.1 ∧ OffB u'.ownBlock s.B s.v.x.2 := by
      rintro s ⟨k1, k2, k3⟩
      refine ⟨⟨k1.v.grownOff hg k2, k1.k.grownOff hg k3⟩, ?_⟩
      rcases hat with e | e
      · rw [e]; exact ⟨k2, k3⟩
      · rw [e]; exact ⟨k1.v.offNew (Nat.le_refl _), k1.k.offNew (Nat.le_refl _)⟩
    rcases List.mem_append.1 hm with hm | hm
    · exact key s (hcon s hm)
    · rw [List.mem_singleton.1 hm]; exact key _ ⟨hv.con, o1, o2⟩
set_option maxRecDepth 100000 in
set_option maxHeartbeats 1000000 in
/-- one, and where its dot lies. -/
theorem sOneX (r : Int) (w : World) : Calls Try.prog 13 #[.int .i64 r] w (Ret w (fun w' v => v = .agg #[.slice (some ⟨w.heap.size + 1, 0, none⟩) 1 1, .slice none 0 0] ∧ Con w' (some ⟨w.heap.size + 1, 0, none⟩) 1 1 none 0 0 ([(r, 1)], []))) := by
  go_enter Try.func13, Try.ntmps13
  go_wp2
  refine bodyPost_ret (v := .agg #[.slice (some ⟨w.heap.size + 1, 0, none⟩) 1 1, .slice none 0 0]) (by simp [results, Try.results13, go_sem]) rfl ?_
  have hd := Dots.one (w.alloc (conBox (some ⟨w.heap.size + 1, 0, none⟩) 1 1 none 0 0)) r 1
  have hz : (w.alloc (conBox (some ⟨w.heap.size + 1, 0, none⟩) 1 1 none 0 0)).heap.size = w.heap.size + 1 := by simp
  rw [hz] at hd
  exact ⟨_, rfl, by go_grown, rfl, ⟨hd, Dots.nil_⟩⟩
end Go.Proofs.Ytjbakmmmgejhlaa

/-
  The statements' helper: dots.
-/
namespace Go.Proofs.Ytjbakmmmgejhlaa
open Go.RowKit

def runD (d : Dot) (j : Nat) : List Dot := (List.range j).map fun i : Nat => (d.1, (i : Int) + 1)
def dotsV (l : List Dot) : List Dot := l.flatMap fun d => runD d d.2.toNat
def dotsS (c : Ctx) : List Dot := dotsV c.1 ++ c.2
theorem runD_len (d : Dot) (j : Nat) : (runD d j).length = j := by unfold runD; simp
theorem runD_succ (d : Dot) (j : Nat) : runD d (j + 1) = runD d j ++ [(d.1, (j : Int) + 1)] := by unfold runD; rw [List.range_succ, List.map_append]; rfl
theorem dotsV_snoc (l : List Dot) (d : Dot) : dotsV (l ++ [d]) = dotsV l ++ runD d d.2.toNat := by unfold dotsV; rw [List.flatMap_append]; simp
theorem dotsV_len : ∀ (l : List Dot), (∀ d ∈ l, d.2 ≤ 60) → (dotsV l).length ≤ 60 * l.length
  | [], _ => by simp [dotsV]
  | d :: l, h => by
    have e : dotsV (d :: l) = runD d d.2.toNat ++ dotsV l := rfl
    have h1 := dotsV_len l (fun x hx => h x (List.mem_cons_of_mem _ hx))
    have h2 := h d (List.mem_cons_self ..)
    rw [e, List.length_append, runD_len, List.length_cons]
    omega
theorem small_iff {c : Ctx} (h : smallB c = true) : c.1.length ≤ 12 ∧ c.2.length ≤ 12 ∧ (∀ d ∈ c.1, d.2 ≤ 60) ∧ ∀ d ∈ c.2, d.2 ≤ 60 := by
  unfold smallB at h
  simp only [Bool.and_eq_true, decide_eq_true_eq, List.all_eq_true] at h
  obtain ⟨⟨⟨h1, h2⟩, h3⟩, h4⟩ := h
  refine ⟨h3, h4, fun d hd => ?_, fun d hd => ?_⟩
  · rw [List.take_of_length_le (by omega)] at h1; exact of_decide_eq_true (h1 d hd)
  · rw [List.take_of_length_le (by omega)] at h2; exact of_decide_eq_true (h2 d hd)
theorem dotsS_len {c : Ctx} (h : smallB c = true) : (dotsS c).length ≤ 732 := by
  obtain ⟨h1, h2, h3, h4⟩ := small_iff h
  have := dotsV_len c.1 h3
  unfold dotsS
  rw [List.length_append]; omega
def DotsRel (w : World) (n : Nat) (l : List Dot) (u i : Value) (wr : World) : Prop := ∃ k : Nat, i = .int .i64 k ∧ k ≤ n ∧ Below w.heap.size w wr ∧ Row wr w.heap.size u (dotsV (l.take k))
def DotsRel2 (w : World) (k : Nat) (l : List Dot) (d : Dot) (u i : Value) (wr : World) : Prop := ∃ j : Nat, i = .int .i64 ((j : Int) + 1) ∧ j ≤ d.2.toNat ∧ Below w.heap.size w wr ∧ Row wr w.heap.size u (dotsV (l.take k) ++ runD d j)
set_option maxRecDepth 100000 in
set_option maxHeartbeats 4000000 in
theorem sdots (A B : Option Addr) (n ca m cb : Nat) (c : Ctx) (w : World) (hc : Con w A n ca B m cb c) (hs : smallB c = true) :
    Calls Try.prog 32 #[.agg #[.slice A n ca, .slice B m cb]] w (Ret w (IsRow w.heap.size (dotsS c))) := by
  obtain ⟨W, hWdef⟩ : ∃ W, W = w.alloc (conBox A n ca B m cb) := ⟨_, rfl⟩
  have hb0 : Below w.heap.size w W := by rw [hWdef]; go_grown
  have bc : Boxed w.heap.size A B n ca m cb c W := by rw [hWdef]; exact Boxed.new hc
  have hn := hc.v.big; have hm := hc.k.big
  have LN := Lib.hid hc.v.len; have LM := Lib.hid hc.k.len
  have DEF := Lib.hid hWdef; have HB := Lib.hid hb0; have BC := Lib.hid bc
  have SM := Lib.hid (small_iff hs)
  have HZ := Lib.hid (show W.heap.size = w.heap.size + 1 by rw [hWdef]; simp)
  clear hWdef hb0 bc hc hs
  go_enter Try.func32, Try.ntmps32
  go_wp2
  rw [← DEF.out]
  go_loopw [3, 4] (fun u i wr => DotsRel W n c.1 u i wr) (fun _ i _ => n - (intOf i).toNat)
  case atStart => exact ⟨0, rfl, Nat.zero_le _, Below.refl _ _, Row.nil_ _ _⟩
  case round =>
    obtain ⟨k, rfl, hk, hb, hrow⟩ := hrel
    have BCr := Lib.hid (BC.out.mono hb); have HBW := Lib.hid hb; have ROW := Lib.hid hrow
    have x0 := BCr.out.c0; have x1 := BCr.out.c1
    clear hb hrow
    by_cases hlt : k < n
    · obtain ⟨b', o, p, q, rfl, hbk, e0, d1, k1, k3⟩ := BCr.out.con.v.at_ (k := k) hlt
      have hq60 : q ≤ 60 := SM.out.2.2.1 (p, q) (List.mem_of_getElem? e0)
      have E0 := Lib.hid e0; have K1 := Lib.hid k1; have K3 := Lib.hid k3
      clear e0 d1
      go_wp2
      clear x0 x1 k1 k3
      have SL := Lib.hid (show (dotsV (c.1.take k)).length ≤ 60 * 12 by
        have h1 := dotsV_len (c.1.take k) (fun d hd => SM.out.2.2.1 d (List.mem_of_mem_take hd))
        have h2 := SM.out.1
        rw [List.length_take] at h1; omega)
      go_loopw [3, 5] (fun u i w2 => DotsRel2 W k c.1 (p, q) u i w2) (fun _ i _ => 62 - (intOf i).toNat)
      case atStart => exact ⟨0, rfl, Nat.zero_le _, HBW.out, by unfold runD; simpa using ROW.out⟩
      case round =>
        obtain ⟨j, rfl, hj, hb2, hrow2⟩ := hrel
        have hj : j ≤ q.toNat := hj
        have BC2 := Lib.hid (BC.out.mono hb2); have HB2 := Lib.hid hb2; have ROW2 := Lib.hid hrow2
        have x0 := BC2.out.c0; have x1 := BC2.out.c1
        obtain ⟨b2, o2, p2, q2, e2, hbk2, e02, d2, k1, k3⟩ := BC2.out.con.v.at_ (k := k) hlt
        cases e2
        rw [E0.out] at e02; cases e02
        clear hb2 hrow2 d2
        by_cases hle : (j : Int) + 1 ≤ q
        · have hd : decide ((j : Int) + 1 ≤ q) = true := decide_eq_true hle
          have D1 := Lib.hid (Dots.one wr p ((j : Int) + 1))
          obtain ⟨L, hL⟩ : ∃ L, L = dotsV (c.1.take k) ++ runD (p, q) j := ⟨_, rfl⟩
          have ROW3 := Lib.hid (show Row wr W.heap.size u3 L by rw [hL]; exact ROW2.out)
          have LL := Lib.hid (show L.length ≤ 1000 by rw [hL, List.length_append, runD_len]; have := SL.out; omega)
          have HL := Lib.hid hL
          clear hL
          go_wp2_with (at_builtin; refine wpList_app (B := W.heap.size) (l := L) (k := [(p, (j : Int) + 1)]) rfl rfl Try.underlying28 rfl rfl (Row.mono ROW3.out (by go_grown)) D1.out (by have := LL.out; simp; omega) (by have := HB2.out.size; simp; omega) ?_; intro v' w' hr' hg'; have HR' := Lib.hid hr'; have HG' := Lib.hid hg'; clear hr' hg'; simp only [Act.put, List.setIfInBounds_toArray, List.set_cons_zero, List.set_cons_succ])
          go_roundw
          case rel => exact ⟨j + 1, by simp, by show j + 1 ≤ q.toNat; omega, (HB2.out.alloc HB2.out.size _).grown HG'.out (by have := HB2.out.size; simp; omega) (fun r hr => Row.own _ ROW3.out r hr), by rw [runD_succ, ← List.append_assoc, ← HL.out]; exact HR'.out⟩
          case measure => simp [intOf]; omega
        · have hd : decide ((j : Int) + 1 ≤ q) = false := decide_eq_false hle
          have hjq : j = q.toNat := by omega
          subst hjq
          go_wp2
          go_roundw
          case rel => exact ⟨k + 1, by simp, hlt, HB2.out, by rw [take_snoc E0.out, dotsV_snoc]; exact ROW2.out⟩
          case measure => simp [intOf]; omega
    · have hfull : c.1.take k = c.1 := List.take_of_length_le (by have := LN.out; omega)
      rw [hfull] at ROW
      obtain ⟨L, hL⟩ : ∃ L, L = dotsV c.1 := ⟨_, rfl⟩
      rw [← hL] at ROW
      have LL := Lib.hid (show L.length ≤ 60 * 12 by rw [hL]; have h1 := dotsV_len c.1 SM.out.2.2.1; have h2 := SM.out.1; omega)
      have HL := Lib.hid hL
      clear hL hfull
      have DK := Lib.hid BCr.out.con.k
      go_wp2_with (at_builtin; refine wpList_app (B := W.heap.size) (l := L) (k := c.2) rfl rfl Try.underlying28 rfl rfl ROW.out DK.out (by have := LL.out; have := SM.out.2.1; omega) HBW.out.size ?_; intro v' w' hr' hg'; have HR' := Lib.hid hr'; have HG' := Lib.hid hg'; clear hr' hg'; simp only [Act.put, List.setIfInBounds_toArray, List.set_cons_zero, List.set_cons_succ])
      go_ret
      exact ⟨_, rfl, HB.out.le (HBW.out.grown HG'.out HBW.out.size (fun r hr => Row.own _ ROW.out r hr)), Row.low (by unfold dotsS; rw [← HL.out]; exact HR'.out) (by rw [HZ.out]; omega)⟩
theorem entDots : Enters Try.prog 32 := enters_of Try.func32 (by kernel_rfl) rfl
/-- Its dots are those that are in it. -/
theorem mem_runD {d e : Dot} {j : Nat} : e ∈ runD d j ↔ e.1 = d.1 ∧ 1 ≤ e.2 ∧ e.2 ≤ j := by
  unfold runD
  rw [List.mem_map]
  constructor
  · rintro ⟨i, hi, rfl⟩
    have := List.mem_range.1 hi
    exact ⟨rfl, by show 1 ≤ (i : Int) + 1; omega, by show (i : Int) + 1 ≤ j; omega⟩
  · rintro ⟨h1, h2, h3⟩
    obtain ⟨a, b⟩ := e
    have h1 : a = d.1 := h1
    have h2 : 1 ≤ b := h2
    have h3 : b ≤ j := h3
    exact ⟨(b - 1).toNat, List.mem_range.2 (by omega), by rw [h1]; congr 1; omega⟩
theorem mem_dots {c : Ctx} (h : Ok c) {d : Dot} : d ∈ dotsS c ↔ In c d := by
  unfold dotsS dotsV
  rw [List.mem_append, List.mem_flatMap]
  constructor
  · rintro (⟨e, he, hd⟩ | hd)
    · obtain ⟨h1, h2, h3⟩ := mem_runD.1 hd
      have hv := validD_iff.1 (validL_mem h.vec he)
      have hg := getV_mem h.inc he
      refine ⟨validD_iff.2 ⟨by omega, by omega, h2, by omega⟩, .inl ?_⟩
      rw [h1, hg]; omega
    · exact ⟨validL_mem h.dots hd, .inr hd⟩
  · rintro ⟨hv, hd | hd⟩
    · have hv' := validD_iff.1 hv
      by_cases hr : ∃ e ∈ c.1, e.1 = d.1
      · obtain ⟨e, he, hee⟩ := hr
        rw [← hee, getV_mem h.inc he] at hd
        exact .inl ⟨e, he, mem_runD.2 ⟨hee.symm, hv'.2.2.1, by omega⟩⟩
      · rw [getV_zero (fun a ha e => hr ⟨a, ha, e⟩)] at hd
        omega
    · exact .inr hd
end Go.Proofs.Ytjbakmmmgejhlaa

/-
  The statements' model of a session: visit.
-/
namespace Go.Proofs.Ytjbakmmmgejhlaa
open Go.RowKit

abbrev Mo := List Dot × List Dot
def brokM (m : Mo) (v : Vis) : Int := (if m.2.all (hasC v.x) then 0 else if v.w then 8 else 1) + (if m.1.all (hasC v.x) then 0 else if v.w then 4 else 2)
def stepM (m : Mo) (v : Vis) : Mo := if v.w then (m.1, m.2 ++ [v.d]) else (m.1 ++ dotsS v.x, m.2)
theorem wpList_store {P : Program} {Q : Exit → Act → World → Prop} {ops : Array Oper} {rest : List Oper} {o : Oper} {a : Act} {w w' : World} {ty : TypeId} {x y : Operand} {p v : Value} (hg : o.guard = none) (ho : o.op = .store ty x y) (hd : o.dst = none) (hx : a.eval x = p) (hy : a.eval y = v) (e : (Instr.storeAt ty p v).run P w = .ok () w') (h : wpList P ops Q rest a w') : wpList P ops Q (o :: rest) a w :=
  wpList_plain hg fun _ hK => wp_store_to ho hd hx hy e (hK _ _ h)
theorem wpList_nilc {P : Program} {Q : Exit → Act → World → Prop} {ops : Array Oper} {rest : List Oper} {o : Oper} {a : Act} {w : World} {x : Operand} {d : Tmp} {p : Addr} (hg : o.guard = none) (ho : o.op = .nilCheck x) (hd : o.dst = some d) (hx : a.eval x = .pointer (some p)) (h : wpList P ops Q rest (a.put (some d) (.pointer (some p))) w) : wpList P ops Q (o :: rest) a w := by
  refine wpList_plain hg fun K hK => ?_
  unfold Oper.wp
  generalize a.eval = ρ at hx
  have : (execOp ρ o).run P w = .ok (.value (.pointer (some p))) w := by simp [execOp, ho, hx]
  rw [this]
  show K (a.put o.dst _) w
  rw [hd]; exact hK _ _ h
theorem wpList_field {P : Program} {Q : Exit → Act → World → Prop} {ops : Array Oper} {rest : List Oper} {o : Oper} {a : Act} {w : World} {x : Operand} {d : Tmp} {p r : Value} {ty : TypeId} {f : Nat} (hg : o.guard = none) (ho : o.op = .fieldAddr ty x f) (hd : o.dst = some d) (hx : a.eval x = p) (e : (Instr.fieldAt ty p f).run P w = .ok r w) (h : wpList P ops Q rest (a.put (some d) r) w) : wpList P ops Q (o :: rest) a w := by
  refine wpList_plain hg fun K hK => ?_
  unfold Oper.wp
  generalize a.eval = ρ at hx
  have : (execOp ρ o).run P w = .ok (.value r) w := by simp [execOp, ho, hx, e]
  rw [this]
  show K (a.put o.dst _) w
  rw [hd]; exact hK _ _ h
/-- A model in the heap. -/
def ModAt (M : Nat) (m : Mo) (w : World) : Prop := ∃ A n c B k d, w.cell? ⟨M, 0, none⟩ = some (.slice A n c) ∧ w.cell? ⟨M, 1, none⟩ = some (.slice B k d) ∧ Dots w A n c m.1 ∧ Dots w B k d m.2 ∧ (∀ o, w.frozen? ⟨M, o, none⟩ = false) ∧ NoInt w M
section
variable {M N : Nat} {m : Mo} {w w1 : World}
theorem ModAt.size (h : ModAt M m w) : M < w.heap.size := let ⟨_, _, _, _, _, _, c, _⟩ := h; World.block_lt_of_cell? w _ c
theorem ModAt.ni (h : ModAt M m w) : NoInt w M := let ⟨_, _, _, _, _, _, _, _, _, _, _, n⟩ := h; n
theorem ModAt.mono (h : ModAt M m w) (hb : Below w.heap.size w w1) : ModAt M m w1 := by
  have hz := h.size
  obtain ⟨A, n, c, B, k, d, c0, c1, d0, d1, f, ni⟩ := h
  exact ⟨A, n, c, B, k, d, cellKeep hb c0, cellKeep hb c1, d0.mono hb, d1.mono hb, fun o => (hb.frozen (p := ⟨M, o, none⟩) hz).trans (f o), ni.mono hb hz⟩
theorem ModAt.hole (h : ModAt M m w) (ni : NoInt w N) (hh : Hole N w w1) (hn : M ≠ N) : ModAt M m w1 := by
  have hz := h.size
  obtain ⟨A, n, c, B, k, d, c0, c1, d0, d1, f, nM⟩ := h
  exact ⟨A, n, c, B, k, d, hh.keep (p := ⟨M, 0, none⟩) hn c0, hh.keep (p := ⟨M, 1, none⟩) hn c1, d0.hole ni hh, d1.hole ni hh, fun o => (hh.frozen (p := ⟨M, o, none⟩) hz hn).trans (f o), nM.hole hh hz hn⟩
theorem ModAt.new (w : World) : ModAt w.heap.size ([], []) (w.alloc (.cells #[.slice none 0 0, .slice none 0 0] 38)) :=
  ⟨none, 0, 0, none, 0, 0, by simp [go_sem], by simp [go_sem], Dots.nil_, Dots.nil_, fun o => by simp [go_sem], fun o x e => by
    simp only [World.cell?, World.alloc] at e
    simp at e
    match o, e with
    | 0, e => simp at e
    | 1, e => simp at e
    | n + 2, e => simp at e⟩
theorem field_mod0 {b o : Nat} {w : World} : (Instr.fieldAt 38 (.pointer (some ⟨b, o, none⟩)) 0).run Try.prog w = .ok (.pointer (some ⟨b, o, none⟩)) w := by simp [go_sem]
theorem field_mod1 {b o : Nat} {w : World} : (Instr.fieldAt 38 (.pointer (some ⟨b, o, none⟩)) 1).run Try.prog w = .ok (.pointer (some ⟨b, o + 1, none⟩)) w := by simp [go_sem]
theorem field_vis2 {b o : Nat} {w : World} : (Instr.fieldAt 33 (.pointer (some ⟨b, o, none⟩)) 2).run Try.prog w = .ok (.pointer (some ⟨b, o + 2, none⟩)) w := by simp [go_sem]
theorem field_vis3 {b o : Nat} {w : World} : (Instr.fieldAt 33 (.pointer (some ⟨b, o, none⟩)) 3).run Try.prog w = .ok (.pointer (some ⟨b, o + 4, none⟩)) w := by simp [go_sem]
theorem load_sl {A : Option Addr} {n c b o : Nat} {w0 w : World} (hb : Below w0.heap.size w0 w) (h : w0.cell? ⟨b, o, none⟩ = some (.slice A n c)) : (Instr.loadAt 28 (.pointer (some ⟨b, o, none⟩))).run Try.prog w = .ok (.slice A n c) w := by
  have c1 := cellKeep hb h
  simp [go_sem, c1]
theorem VisAt.loadX {b o n ca k cb : Nat} {A B : Option Addr} {v : Vis} {w w1 : World} {u : Value} (h : VisAt b o A n ca B k cb v w) (hb : Below w.heap.size w w1) (hu : Is (.pointer (some ⟨b, o + 4, none⟩)) w1 u) : ∃ r, (Instr.loadAt 31 u).run Try.prog w1 = .ok r w1 ∧ IsCon v.x w1 r := by
  cases hu
  exact ⟨_, load_con hb h.c4 h.c5, A, n, ca, B, k, cb, rfl, h.con.mono hb⟩
theorem withinL {A : Option Addr} {n c : Nat} {l : List Dot} {x : Ctx} {w0 w : World} {u v : Value} (hu : Is (.slice A n c) w u) (hd : Dots w0 A n c l) (hb : Below w0.heap.size w0 w) (hv : IsCon x w v) (r : Bool) (hr : l.all (hasC x) = r) :
    Calls Try.prog 31 #[u, v] w (Ret w (IsB r)) := by
  cases hu; subst hr
  obtain ⟨A2, n2, ca2, B2, m2, cb2, rfl, hc⟩ := hv
  exact sWithin A A2 B2 n c n2 ca2 m2 cb2 l x w (hd.mono hb) hc
theorem entWithinL : Enters Try.prog 31 := enters_of Try.func31 (by kernel_rfl) rfl
end
theorem smallI {c : Ctx} {w : World} {u : Value} (hu : IsCon c w u) (r : Bool) (hr : smallB c = r) : Calls Try.prog 9 #[u] w (Ret w (IsB r)) := by
  obtain ⟨A, n, ca, B, m, cb, rfl, hc⟩ := hu
  subst hr
  exact sSmall A B n ca m cb c w hc
def VPost (M : Nat) (m : Mo) (w : World) (g : Int) (e : Ending) (w' : World) : Prop := e = .returned (.int .i64 g) ∧ Hole M w w' ∧ ModAt M m w'
theorem dotsI {x : Ctx} {w : World} {v : Value} {B : Nat} (hB : B ≤ w.heap.size) (hv : IsCon x w v) (hs : smallB x = true) : Calls Try.prog 32 #[v] w (Ret w (IsRow B (dotsS x))) := by
  obtain ⟨A2, n2, ca2, B2, m2, cb2, rfl, hc⟩ := hv
  exact (sdots A2 B2 n2 ca2 m2 cb2 x w hc hs).mono fun _ _ ⟨u, e, hb, hr⟩ => ⟨u, e, hb, Row.low hr hB⟩
set_option maxRecDepth 100000 in
set_option maxHeartbeats 8000000 in
theorem visit_true (M : Nat) (A B : Option Addr) (n ca k cb : Nat) (m : Mo) (cl p q : Int) (x : Ctx) (w : World) (hm : ModAt M m w) (hc : Con w A n ca B k cb x) (sx : smallB x = true) (l1 : m.1.length ≤ 100000) (l2 : m.2.length ≤ 100000) :
    Calls Try.prog 12 #[.pointer (some ⟨M, 0, none⟩), visV ⟨cl, true, (p, q), x⟩ A n ca B k cb] w (VPost M (stepM m ⟨cl, true, (p, q), x⟩) w (brokM m ⟨cl, true, (p, q), x⟩)) := by
  obtain ⟨W, hWdef⟩ : ∃ W, W = w.alloc (visBox ⟨cl, true, (p, q), x⟩ A n ca B k cb) := ⟨_, rfl⟩
  have hb0 : Below w.heap.size w W := by rw [hWdef]; go_grown
  have va : VisAt w.heap.size 0 A n ca B k cb ⟨cl, true, (p, q), x⟩ W := by rw [hWdef]; exact VisAt.new hc
  have MM := Lib.hid (hm.mono hb0); have VA := Lib.hid va; have HH := Lib.hid (Hole.of (N := M) hb0); have DEF := Lib.hid hWdef; have SX := Lib.hid sx
  have L1 := Lib.hid (show m.1.length ≤ 1000000000 by omega); have L2 := Lib.hid (show m.2.length ≤ 1000000000 by omega); have L3 := Lib.hid l2; have L4 := Lib.hid l1
  obtain ⟨b1, h1⟩ : ∃ b1, m.2.all (hasC x) = b1 := ⟨_, rfl⟩
  obtain ⟨b2, h2⟩ : ∃ b2, m.1.all (hasC x) = b2 := ⟨_, rfl⟩
  have H1 := Lib.hid h1; have H2 := Lib.hid h2
  clear hb0 va hWdef hm hc sx l1 l2 h1 h2
  obtain ⟨A1, n1, ca1, B1, m1, cb1, c0, c1, k0, k1, fz, ni⟩ := MM.out
  have C0 := Lib.hid c0; have C1 := Lib.hid c1; have K0 := Lib.hid k0; have K1 := Lib.hid k1; have FZ := Lib.hid fz; have NI := Lib.hid ni
  clear c0 c1 k0 k1 fz ni
  go_enter Try.func12, Try.ntmps12
  go_wp2_with fail
  rw [← DEF.out]
  refine wp_region_M mixed (by kernel_rfl) ?_
  refine MDerR.step (Ob.move Wanted.free Has.oldIs) ?_
  refine MDerR.step (Ob.nilV Wanted.free (Has.new 0 0)) ?_
  refine MDerR.step (Ob.fieldV Wanted.free (Has.new 1 0) (fun w1 => field_mod1)) ?_
  refine MDerR.step (Ob.loadV Wanted.free (Has.new 2 0) (fun w1 hb1 => load_sl hb1 C1.out)) ?_
  refine MDerR.step (Ob.fieldV Wanted.free Has.oldIs (fun w1 => field_vis3)) ?_
  refine MDerR.step (Ob.load (F := IsCon x) Wanted.free (Has.new 4 0) (fun w1 v hb1 hv => VA.out.loadX hb1 hv)) ?_
  refine MDerR.step (Ob.call2 Wanted.free entWithinL (Has.new 3 2) (Has.new 5 0) (fun w1 u v hb1 (hu : Is (.slice B1 m1 cb1) w1 u) (hv : IsCon x w1 v) => withinL hu K1.out hb1 hv b1 H1.out)) ?_
  refine MDerR.step (Ob.not Wanted.free (Has.new 6 0)) ?_
  simp only [MDerR, dstsOf, List.map, EndM, List.reverse_cons, List.reverse_nil, List.nil_append, List.cons_append]
  intro wE hE
  iterate 5 (rintro _ rfl)
  rintro _ _h5
  iterate 2 (rintro _ rfl)
  simp only [Act.put, List.setIfInBounds_toArray, List.set_cons_zero, List.set_cons_succ]
  have MM2 := Lib.hid (MM.out.mono hE); have HH2 := Lib.hid (HH.out.le hE); have VA2 := Lib.hid (VA.out.mono hE)
  clear hE _h5 C0 C1 K0 K1 FZ NI MM HH VA DEF
  have MM := MM2; have HH := HH2; have VA := VA2
  clear MM2 HH2 VA2
  generalize wE = W1 at *
  obtain ⟨A1, n1, ca1, B1, m1, cb1, c0, c1, k0, k1, fz, ni⟩ := MM.out
  have C0 := Lib.hid c0; have C1 := Lib.hid c1; have K0 := Lib.hid k0; have K1 := Lib.hid k1; have FZ := Lib.hid fz; have NI := Lib.hid ni
  clear c0 c1 k0 k1 fz ni
  have H1' := H1.out
  cases b1 with
  | true =>
    have y1 := VA.out.c1
    go_wp2_with fail
    clear y1
    refine wp_region_M mixed (by kernel_rfl) ?_
    refine MDerR.step (Ob.move Wanted.free Has.oldIs) ?_
    refine MDerR.step (Ob.nilV Wanted.free (Has.new 0 0)) ?_
    refine MDerR.step (Ob.fieldV Wanted.free (Has.new 1 0) (fun w1 => field_mod0)) ?_
    refine MDerR.step (Ob.loadV Wanted.free (Has.new 2 0) (fun w1 hb1 => load_sl hb1 C0.out)) ?_
    refine MDerR.step (Ob.fieldV Wanted.free Has.oldIs (fun w1 => field_vis3)) ?_
    refine MDerR.step (Ob.load (F := IsCon x) Wanted.free (Has.new 4 0) (fun w1 v hb1 hv => VA.out.loadX hb1 hv)) ?_
    refine MDerR.step (Ob.call2 Wanted.free entWithinL (Has.new 3 2) (Has.new 5 0) (fun w1 u v hb1 (hu : Is (.slice A1 n1 ca1) w1 u) (hv : IsCon x w1 v) => withinL hu K0.out hb1 hv b2 H2.out)) ?_
    refine MDerR.step (Ob.not Wanted.free (Has.new 6 0)) ?_
    simp only [MDerR, dstsOf, List.map, EndM, List.reverse_cons, List.reverse_nil, List.nil_append, List.cons_append]
    intro wE hE
    iterate 5 (rintro _ rfl)
    rintro _ _h5
    iterate 2 (rintro _ rfl)
    simp only [Act.put, List.setIfInBounds_toArray, List.set_cons_zero, List.set_cons_succ]
    have MM2 := Lib.hid (MM.out.mono hE); have HH2 := Lib.hid (HH.out.le hE); have VA2 := Lib.hid (VA.out.mono hE)
    clear hE _h5 C0 C1 K0 K1 FZ NI MM HH VA
    have MM := MM2; have HH := HH2; have VA := VA2
    clear MM2 HH2 VA2
    generalize wE = W2 at *
    obtain ⟨A1, n1, ca1, B1, m1, cb1, c0, c1, k0, k1, fz, ni⟩ := MM.out
    have C0 := Lib.hid c0; have C1 := Lib.hid c1; have K0 := Lib.hid k0; have K1 := Lib.hid k1; have FZ := Lib.hid fz; have NI := Lib.hid ni
    clear c0 c1 k0 k1 fz ni
    have y1 := VA.out.c1
    have H2' := H2.out
    cases b2
    · skip
      go_wp2_with fail
      refine wp_region_any mixed ?_
      refine take_pure (i := 0) rfl rfl (by kernel_rfl) (fun _ _ _ h => h) (v := .pointer (some ⟨M, 0, none⟩)) (fun w => by simp [execOp, Act.eval]) ?_
      simp only [Act.put, List.setIfInBounds_toArray, List.set_cons_zero, List.set_cons_succ]
      refine wp_left [1, 2, 3, 4, 5, 6, 7, 8, 9, 10, 11, 12] 8 (by kernel_rfl) (by kernel_rfl) (by kernel_rfl) (by kernel_rfl) ?_
      refine MDerT.step (Ob.move Wanted.free Has.oldIs) ?_
      refine MDerT.step (Ob.nilV Wanted.free (Has.new 0 0)) ?_
      refine MDerT.step (Ob.fieldV Wanted.free (Has.new 1 0) (fun w1 => field_mod1)) ?_
      refine MDerT.step (Ob.loadV Wanted.free (Has.new 2 0) (fun w1 hb1 => load_sl (Below.ofDrew hb1) C1.out)) ?_
      refine MDerT.step (Ob.appNilV Wanted.free Try.underlying28 (Has.new 3 0) (fun w1 hb1 => K1.out.mono (Below.ofDrew hb1)) (L2.out)) ?_
      refine MDerT.step (Ob.fieldV Wanted.free Has.oldIs (fun w1 => field_vis2)) ?_
      refine MDerT.step (Ob.loadV Wanted.free (Has.new 5 0) (fun w1 hb1 => load_dot (Below.ofDrew hb1) VA.out.c2 VA.out.c3)) ?_
      refine MDerT.step (Ob.mkDots128 Wanted.free (Has.new 6 0)) ?_
      intro wE hE
      change EndM _ [some 37, some 38, some 39, some 40, some 41, some 42, some 43, some 44] _ _ _
      simp only [EndM, List.reverse_cons, List.reverse_nil, List.nil_append, List.cons_append]
      iterate 4 (rintro _ rfl)
      rintro _ r5
      iterate 2 (rintro _ rfl)
      rintro _ ⟨A8, n8, c8, rfl, d8⟩
      simp only [Act.put, List.setIfInBounds_toArray, List.set_cons_zero, List.set_cons_succ]
      replace hE := Below.ofDrew hE
      have hsz := hE.size
      refine wpList_app (B := W2.heap.size) rfl rfl Try.underlying28 rfl rfl r5 d8 (by have := L3.out; simp; omega) hsz ?_
      intro v' w' hr' hg'
      have b6 : Below W2.heap.size W2 w' := hE.grown hg' hsz (fun q hq => Row.own _ r5 q hq)
      obtain ⟨A9, n9, c9, rfl, d9⟩ := IsRow.dots hr'
      change wpList _ _ _ _ (Act.put _ (some 45) (.slice A9 n9 c9)) w'
      simp only [Act.put, List.setIfInBounds_toArray, List.set_cons_zero, List.set_cons_succ]
      have x1 := cellKeep b6 C1.out
      have fz1 : w'.frozen? ⟨M, 1, none⟩ = false := (b6.frozen (p := ⟨M, 1, none⟩) MM.out.size).trans (FZ.out 1)
      have HHW := Lib.hid (HH.out.le b6)
      have C09 := Lib.hid (cellKeep b6 C0.out); have X1 := Lib.hid x1; have K09 := Lib.hid (K0.out.mono b6); have NI9 := Lib.hid (NI.out.mono b6 MM.out.size); have D9 := Lib.hid d9
      have FZ9 := Lib.hid (show ∀ o, w'.frozen? ⟨M, o, none⟩ = false from fun o => (b6.frozen (p := ⟨M, o, none⟩) MM.out.size).trans (FZ.out o))
      clear hr' hg' r5 d8 hE hsz b6 d9
      refine wpList_nilc (d := 46) (p := ⟨M, 0, none⟩) rfl rfl rfl rfl ?_
      simp only [Act.put, List.setIfInBounds_toArray, List.set_cons_zero, List.set_cons_succ]
      refine wpList_field (d := 47) (r := .pointer (some ⟨M, 1, none⟩)) rfl rfl rfl rfl field_mod1 ?_
      simp only [Act.put, List.setIfInBounds_toArray, List.set_cons_zero, List.set_cons_succ]
      refine wpList_store (p := .pointer (some ⟨M, 1, none⟩)) (v := .slice A9 n9 c9) (w' := w'.setCell ⟨M, 1, none⟩ (.slice A9 n9 c9)) rfl rfl rfl rfl rfl (by simp [go_sem, x1, fz1]) ?_
      refine wpList_nil ?_
      generalize HHW2 : w'.setCell ⟨M, 1, none⟩ (.slice A9 n9 c9) = wS
      have HS := Lib.hid HHW2
      clear HHW2 x1 fz1
      go_wp2
      go_ret
      rw [← HS.out]
      refine ⟨by simp [brokM, *], HHW.out.set_ 1 _, ?_⟩
      exact ⟨A1, n1, ca1, A9, n9, c9, cell_far (by simp) C09.out, cell_set X1.out, K09.out.setO (K09.out.noInt NI9.out) _, D9.out.setO (D9.out.noInt NI9.out) _, fun o => (World.frozen?_setCell _ _ _ _).trans (FZ9.out o), NoInt.set_ X1.out NI9.out⟩
    · skip
      go_wp2_with fail
      refine wp_region_any mixed ?_
      refine take_pure (i := 0) rfl rfl (by kernel_rfl) (fun _ _ _ h => h) (v := .pointer (some ⟨M, 0, none⟩)) (fun w => by simp [execOp, Act.eval]) ?_
      simp only [Act.put, List.setIfInBounds_toArray, List.set_cons_zero, List.set_cons_succ]
      refine wp_left [1, 2, 3, 4, 5, 6, 7, 8, 9, 10, 11, 12] 8 (by kernel_rfl) (by kernel_rfl) (by kernel_rfl) (by kernel_rfl) ?_
      refine MDerT.step (Ob.move Wanted.free Has.oldIs) ?_
      refine MDerT.step (Ob.nilV Wanted.free (Has.new 0 0)) ?_
      refine MDerT.step (Ob.fieldV Wanted.free (Has.new 1 0) (fun w1 => field_mod1)) ?_
      refine MDerT.step (Ob.loadV Wanted.free (Has.new 2 0) (fun w1 hb1 => load_sl (Below.ofDrew hb1) C1.out)) ?_
      refine MDerT.step (Ob.appNilV Wanted.free Try.underlying28 (Has.new 3 0) (fun w1 hb1 => K1.out.mono (Below.ofDrew hb1)) (L2.out)) ?_
      refine MDerT.step (Ob.fieldV Wanted.free Has.oldIs (fun w1 => field_vis2)) ?_
      refine MDerT.step (Ob.loadV Wanted.free (Has.new 5 0) (fun w1 hb1 => load_dot (Below.ofDrew hb1) VA.out.c2 VA.out.c3)) ?_
      refine MDerT.step (Ob.mkDots128 Wanted.free (Has.new 6 0)) ?_
      intro wE hE
      change EndM _ [some 37, some 38, some 39, some 40, some 41, some 42, some 43, some 44] _ _ _
      simp only [EndM, List.reverse_cons, List.reverse_nil, List.nil_append, List.cons_append]
      iterate 4 (rintro _ rfl)
      rintro _ r5
      iterate 2 (rintro _ rfl)
      rintro _ ⟨A8, n8, c8, rfl, d8⟩
      simp only [Act.put, List.setIfInBounds_toArray, List.set_cons_zero, List.set_cons_succ]
      replace hE := Below.ofDrew hE
      have hsz := hE.size
      refine wpList_app (B := W2.heap.size) rfl rfl Try.underlying28 rfl rfl r5 d8 (by have := L3.out; simp; omega) hsz ?_
      intro v' w' hr' hg'
      have b6 : Below W2.heap.size W2 w' := hE.grown hg' hsz (fun q hq => Row.own _ r5 q hq)
      obtain ⟨A9, n9, c9, rfl, d9⟩ := IsRow.dots hr'
      change wpList _ _ _ _ (Act.put _ (some 45) (.slice A9 n9 c9)) w'
      simp only [Act.put, List.setIfInBounds_toArray, List.set_cons_zero, List.set_cons_succ]
      have x1 := cellKeep b6 C1.out
      have fz1 : w'.frozen? ⟨M, 1, none⟩ = false := (b6.frozen (p := ⟨M, 1, none⟩) MM.out.size).trans (FZ.out 1)
      have HHW := Lib.hid (HH.out.le b6)
      have C09 := Lib.hid (cellKeep b6 C0.out); have X1 := Lib.hid x1; have K09 := Lib.hid (K0.out.mono b6); have NI9 := Lib.hid (NI.out.mono b6 MM.out.size); have D9 := Lib.hid d9
      have FZ9 := Lib.hid (show ∀ o, w'.frozen? ⟨M, o, none⟩ = false from fun o => (b6.frozen (p := ⟨M, o, none⟩) MM.out.size).trans (FZ.out o))
      clear hr' hg' r5 d8 hE hsz b6 d9
      refine wpList_nilc (d := 46) (p := ⟨M, 0, none⟩) rfl rfl rfl rfl ?_
      simp only [Act.put, List.setIfInBounds_toArray, List.set_cons_zero, List.set_cons_succ]
      refine wpList_field (d := 47) (r := .pointer (some ⟨M, 1, none⟩)) rfl rfl rfl rfl field_mod1 ?_
      simp only [Act.put, List.setIfInBounds_toArray, List.set_cons_zero, List.set_cons_succ]
      refine wpList_store (p := .pointer (some ⟨M, 1, none⟩)) (v := .slice A9 n9 c9) (w' := w'.setCell ⟨M, 1, none⟩ (.slice A9 n9 c9)) rfl rfl rfl rfl rfl (by simp [go_sem, x1, fz1]) ?_
      refine wpList_nil ?_
      generalize HHW2 : w'.setCell ⟨M, 1, none⟩ (.slice A9 n9 c9) = wS
      have HS := Lib.hid HHW2
      clear HHW2 x1 fz1
      go_wp2
      go_ret
      rw [← HS.out]
      refine ⟨by simp [brokM, *], HHW.out.set_ 1 _, ?_⟩
      exact ⟨A1, n1, ca1, A9, n9, c9, cell_far (by simp) C09.out, cell_set X1.out, K09.out.setO (K09.out.noInt NI9.out) _, D9.out.setO (D9.out.noInt NI9.out) _, fun o => (World.frozen?_setCell _ _ _ _).trans (FZ9.out o), NoInt.set_ X1.out NI9.out⟩
  | false =>
    have y1 := VA.out.c1
    go_wp2_with fail
    clear y1
    refine wp_region_M mixed (by kernel_rfl) ?_
    refine MDerR.step (Ob.move Wanted.free Has.oldIs) ?_
    refine MDerR.step (Ob.nilV Wanted.free (Has.new 0 0)) ?_
    refine MDerR.step (Ob.fieldV Wanted.free (Has.new 1 0) (fun w1 => field_mod0)) ?_
    refine MDerR.step (Ob.loadV Wanted.free (Has.new 2 0) (fun w1 hb1 => load_sl hb1 C0.out)) ?_
    refine MDerR.step (Ob.fieldV Wanted.free Has.oldIs (fun w1 => field_vis3)) ?_
    refine MDerR.step (Ob.load (F := IsCon x) Wanted.free (Has.new 4 0) (fun w1 v hb1 hv => VA.out.loadX hb1 hv)) ?_
    refine MDerR.step (Ob.call2 Wanted.free entWithinL (Has.new 3 2) (Has.new 5 0) (fun w1 u v hb1 (hu : Is (.slice A1 n1 ca1) w1 u) (hv : IsCon x w1 v) => withinL hu K0.out hb1 hv b2 H2.out)) ?_
    refine MDerR.step (Ob.not Wanted.free (Has.new 6 0)) ?_
    simp only [MDerR, dstsOf, List.map, EndM, List.reverse_cons, List.reverse_nil, List.nil_append, List.cons_append]
    intro wE hE
    iterate 5 (rintro _ rfl)
    rintro _ _h5
    iterate 2 (rintro _ rfl)
    simp only [Act.put, List.setIfInBounds_toArray, List.set_cons_zero, List.set_cons_succ]
    have MM2 := Lib.hid (MM.out.mono hE); have HH2 := Lib.hid (HH.out.le hE); have VA2 := Lib.hid (VA.out.mono hE)
    clear hE _h5 C0 C1 K0 K1 FZ NI MM HH VA
    have MM := MM2; have HH := HH2; have VA := VA2
    clear MM2 HH2 VA2
    generalize wE = W2 at *
    obtain ⟨A1, n1, ca1, B1, m1, cb1, c0, c1, k0, k1, fz, ni⟩ := MM.out
    have C0 := Lib.hid c0; have C1 := Lib.hid c1; have K0 := Lib.hid k0; have K1 := Lib.hid k1; have FZ := Lib.hid fz; have NI := Lib.hid ni
    clear c0 c1 k0 k1 fz ni
    have y1 := VA.out.c1
    have H2' := H2.out
    cases b2
    · skip
      go_wp2_with fail
      refine wp_region_any mixed ?_
      refine take_pure (i := 0) rfl rfl (by kernel_rfl) (fun _ _ _ h => h) (v := .pointer (some ⟨M, 0, none⟩)) (fun w => by simp [execOp, Act.eval]) ?_
      simp only [Act.put, List.setIfInBounds_toArray, List.set_cons_zero, List.set_cons_succ]
      refine wp_left [1, 2, 3, 4, 5, 6, 7, 8, 9, 10, 11, 12] 8 (by kernel_rfl) (by kernel_rfl) (by kernel_rfl) (by kernel_rfl) ?_
      refine MDerT.step (Ob.move Wanted.free Has.oldIs) ?_
      refine MDerT.step (Ob.nilV Wanted.free (Has.new 0 0)) ?_
      refine MDerT.step (Ob.fieldV Wanted.free (Has.new 1 0) (fun w1 => field_mod1)) ?_
      refine MDerT.step (Ob.loadV Wanted.free (Has.new 2 0) (fun w1 hb1 => load_sl (Below.ofDrew hb1) C1.out)) ?_
      refine MDerT.step (Ob.appNilV Wanted.free Try.underlying28 (Has.new 3 0) (fun w1 hb1 => K1.out.mono (Below.ofDrew hb1)) (L2.out)) ?_
      refine MDerT.step (Ob.fieldV Wanted.free Has.oldIs (fun w1 => field_vis2)) ?_
      refine MDerT.step (Ob.loadV Wanted.free (Has.new 5 0) (fun w1 hb1 => load_dot (Below.ofDrew hb1) VA.out.c2 VA.out.c3)) ?_
      refine MDerT.step (Ob.mkDots128 Wanted.free (Has.new 6 0)) ?_
      intro wE hE
      change EndM _ [some 37, some 38, some 39, some 40, some 41, some 42, some 43, some 44] _ _ _
      simp only [EndM, List.reverse_cons, List.reverse_nil, List.nil_append, List.cons_append]
      iterate 4 (rintro _ rfl)
      rintro _ r5
      iterate 2 (rintro _ rfl)
      rintro _ ⟨A8, n8, c8, rfl, d8⟩
      simp only [Act.put, List.setIfInBounds_toArray, List.set_cons_zero, List.set_cons_succ]
      replace hE := Below.ofDrew hE
      have hsz := hE.size
      refine wpList_app (B := W2.heap.size) rfl rfl Try.underlying28 rfl rfl r5 d8 (by have := L3.out; simp; omega) hsz ?_
      intro v' w' hr' hg'
      have b6 : Below W2.heap.size W2 w' := hE.grown hg' hsz (fun q hq => Row.own _ r5 q hq)
      obtain ⟨A9, n9, c9, rfl, d9⟩ := IsRow.dots hr'
      change wpList _ _ _ _ (Act.put _ (some 45) (.slice A9 n9 c9)) w'
      simp only [Act.put, List.setIfInBounds_toArray, List.set_cons_zero, List.set_cons_succ]
      have x1 := cellKeep b6 C1.out
      have fz1 : w'.frozen? ⟨M, 1, none⟩ = false := (b6.frozen (p := ⟨M, 1, none⟩) MM.out.size).trans (FZ.out 1)
      have HHW := Lib.hid (HH.out.le b6)
      have C09 := Lib.hid (cellKeep b6 C0.out); have X1 := Lib.hid x1; have K09 := Lib.hid (K0.out.mono b6); have NI9 := Lib.hid (NI.out.mono b6 MM.out.size); have D9 := Lib.hid d9
      have FZ9 := Lib.hid (show ∀ o, w'.frozen? ⟨M, o, none⟩ = false from fun o => (b6.frozen (p := ⟨M, o, none⟩) MM.out.size).trans (FZ.out o))
      clear hr' hg' r5 d8 hE hsz b6 d9
      refine wpList_nilc (d := 46) (p := ⟨M, 0, none⟩) rfl rfl rfl rfl ?_
      simp only [Act.put, List.setIfInBounds_toArray, List.set_cons_zero, List.set_cons_succ]
      refine wpList_field (d := 47) (r := .pointer (some ⟨M, 1, none⟩)) rfl rfl rfl rfl field_mod1 ?_
      simp only [Act.put, List.setIfInBounds_toArray, List.set_cons_zero, List.set_cons_succ]
      refine wpList_store (p := .pointer (some ⟨M, 1, none⟩)) (v := .slice A9 n9 c9) (w' := w'.setCell ⟨M, 1, none⟩ (.slice A9 n9 c9)) rfl rfl rfl rfl rfl (by simp [go_sem, x1, fz1]) ?_
      refine wpList_nil ?_
      generalize HHW2 : w'.setCell ⟨M, 1, none⟩ (.slice A9 n9 c9) = wS
      have HS := Lib.hid HHW2
      clear HHW2 x1 fz1
      go_wp2
      go_ret
      rw [← HS.out]
      refine ⟨by simp [brokM, *], HHW.out.set_ 1 _, ?_⟩
      exact ⟨A1, n1, ca1, A9, n9, c9, cell_far (by simp) C09.out, cell_set X1.out, K09.out.setO (K09.out.noInt NI9.out) _, D9.out.setO (D9.out.noInt NI9.out) _, fun o => (World.frozen?_setCell _ _ _ _).trans (FZ9.out o), NoInt.set_ X1.out NI9.out⟩
    · skip
      go_wp2_with fail
      refine wp_region_any mixed ?_
      refine take_pure (i := 0) rfl rfl (by kernel_rfl) (fun _ _ _ h => h) (v := .pointer (some ⟨M, 0, none⟩)) (fun w => by simp [execOp, Act.eval]) ?_
      simp only [Act.put, List.setIfInBounds_toArray, List.set_cons_zero, List.set_cons_succ]
      refine wp_left [1, 2, 3, 4, 5, 6, 7, 8, 9, 10, 11, 12] 8 (by kernel_rfl) (by kernel_rfl) (by kernel_rfl) (by kernel_rfl) ?_
      refine MDerT.step (Ob.move Wanted.free Has.oldIs) ?_
      refine MDerT.step (Ob.nilV Wanted.free (Has.new 0 0)) ?_
      refine MDerT.step (Ob.fieldV Wanted.free (Has.new 1 0) (fun w1 => field_mod1)) ?_
      refine MDerT.step (Ob.loadV Wanted.free (Has.new 2 0) (fun w1 hb1 => load_sl (Below.ofDrew hb1) C1.out)) ?_
      refine MDerT.step (Ob.appNilV Wanted.free Try.underlying28 (Has.new 3 0) (fun w1 hb1 => K1.out.mono (Below.ofDrew hb1)) (L2.out)) ?_
      refine MDerT.step (Ob.fieldV Wanted.free Has.oldIs (fun w1 => field_vis2)) ?_
      refine MDerT.step (Ob.loadV Wanted.free (Has.new 5 0) (fun w1 hb1 => load_dot (Below.ofDrew hb1) VA.out.c2 VA.out.c3)) ?_
      refine MDerT.step (Ob.mkDots128 Wanted.free (Has.new 6 0)) ?_
      intro wE hE
      change EndM _ [some 37, some 38, some 39, some 40, some 41, some 42, some 43, some 44] _ _ _
      simp only [EndM, List.reverse_cons, List.reverse_nil, List.nil_append, List.cons_append]
      iterate 4 (rintro _ rfl)
      rintro _ r5
      iterate 2 (rintro _ rfl)
      rintro _ ⟨A8, n8, c8, rfl, d8⟩
      simp only [Act.put, List.setIfInBounds_toArray, List.set_cons_zero, List.set_cons_succ]
      replace hE := Below.ofDrew hE
      have hsz := hE.size
      refine wpList_app (B := W2.heap.size) rfl rfl Try.underlying28 rfl rfl r5 d8 (by have := L3.out; simp; omega) hsz ?_
      intro v' w' hr' hg'
      have b6 : Below W2.heap.size W2 w' := hE.grown hg' hsz (fun q hq => Row.own _ r5 q hq)
      obtain ⟨A9, n9, c9, rfl, d9⟩ := IsRow.dots hr'
      change wpList _ _ _ _ (Act.put _ (some 45) (.slice A9 n9 c9)) w'
      simp only [Act.put, List.setIfInBounds_toArray, List.set_cons_zero, List.set_cons_succ]
      have x1 := cellKeep b6 C1.out
      have fz1 : w'.frozen? ⟨M, 1, none⟩ = false := (b6.frozen (p := ⟨M, 1, none⟩) MM.out.size).trans (FZ.out 1)
      have HHW := Lib.hid (HH.out.le b6)
      have C09 := Lib.hid (cellKeep b6 C0.out); have X1 := Lib.hid x1; have K09 := Lib.hid (K0.out.mono b6); have NI9 := Lib.hid (NI.out.mono b6 MM.out.size); have D9 := Lib.hid d9
      have FZ9 := Lib.hid (show ∀ o, w'.frozen? ⟨M, o, none⟩ = false from fun o => (b6.frozen (p := ⟨M, o, none⟩) MM.out.size).trans (FZ.out o))
      clear hr' hg' r5 d8 hE hsz b6 d9
      refine wpList_nilc (d := 46) (p := ⟨M, 0, none⟩) rfl rfl rfl rfl ?_
      simp only [Act.put, List.setIfInBounds_toArray, List.set_cons_zero, List.set_cons_succ]
      refine wpList_field (d := 47) (r := .pointer (some ⟨M, 1, none⟩)) rfl rfl rfl rfl field_mod1 ?_
      simp only [Act.put, List.setIfInBounds_toArray, List.set_cons_zero, List.set_cons_succ]
      refine wpList_store (p := .pointer (some ⟨M, 1, none⟩)) (v := .slice A9 n9 c9) (w' := w'.setCell ⟨M, 1, none⟩ (.slice A9 n9 c9)) rfl rfl rfl rfl rfl (by simp [go_sem, x1, fz1]) ?_
      refine wpList_nil ?_
      generalize HHW2 : w'.setCell ⟨M, 1, none⟩ (.slice A9 n9 c9) = wS
      have HS := Lib.hid HHW2
      clear HHW2 x1 fz1
      go_wp2
      go_ret
      rw [← HS.out]
      refine ⟨by simp [brokM, *], HHW.out.set_ 1 _, ?_⟩
      exact ⟨A1, n1, ca1, A9, n9, c9, cell_far (by simp) C09.out, cell_set X1.out, K09.out.setO (K09.out.noInt NI9.out) _, D9.out.setO (D9.out.noInt NI9.out) _, fun o => (World.frozen?_setCell _ _ _ _).trans (FZ9.out o), NoInt.set_ X1.out NI9.out⟩
set_option maxRecDepth 100000 in
set_option maxHeartbeats 8000000 in
theorem visit_false (M : Nat) (A B : Option Addr) (n ca k cb : Nat) (m : Mo) (cl p q : Int) (x : Ctx) (w : World) (hm : ModAt M m w) (hc : Con w A n ca B k cb x) (sx : smallB x = true) (l1 : m.1.length ≤ 100000) (l2 : m.2.length ≤ 100000) :
    Calls Try.prog 12 #[.pointer (some ⟨M, 0, none⟩), visV ⟨cl, false, (p, q), x⟩ A n ca B k cb] w (VPost M (stepM m ⟨cl, false, (p, q), x⟩) w (brokM m ⟨cl, false, (p, q), x⟩)) := by
  obtain ⟨W, hWdef⟩ : ∃ W, W = w.alloc (visBox ⟨cl, false, (p, q), x⟩ A n ca B k cb) := ⟨_, rfl⟩
  have hb0 : Below w.heap.size w W := by rw [hWdef]; go_grown
  have va : VisAt w.heap.size 0 A n ca B k cb ⟨cl, false, (p, q), x⟩ W := by rw [hWdef]; exact VisAt.new hc
  have MM := Lib.hid (hm.mono hb0); have VA := Lib.hid va; have HH := Lib.hid (Hole.of (N := M) hb0); have DEF := Lib.hid hWdef; have SX := Lib.hid sx
  have L1 := Lib.hid (show m.1.length ≤ 1000000000 by omega); have L2 := Lib.hid (show m.2.length ≤ 1000000000 by omega); have L3 := Lib.hid l2; have L4 := Lib.hid l1
  obtain ⟨b1, h1⟩ : ∃ b1, m.2.all (hasC x) = b1 := ⟨_, rfl⟩
  obtain ⟨b2, h2⟩ : ∃ b2, m.1.all (hasC x) = b2 := ⟨_, rfl⟩
  have H1 := Lib.hid h1; have H2 := Lib.hid h2
  clear hb0 va hWdef hm hc sx l1 l2 h1 h2
  obtain ⟨A1, n1, ca1, B1, m1, cb1, c0, c1, k0, k1, fz, ni⟩ := MM.out
  have C0 := Lib.hid c0; have C1 := Lib.hid c1; have K0 := Lib.hid k0; have K1 := Lib.hid k1; have FZ := Lib.hid fz; have NI := Lib.hid ni
  clear c0 c1 k0 k1 fz ni
  go_enter Try.func12, Try.ntmps12
  go_wp2_with fail
  rw [← DEF.out]
  refine wp_region_M mixed (by kernel_rfl) ?_
  refine MDerR.step (Ob.move Wanted.free Has.oldIs) ?_
  refine MDerR.step (Ob.nilV Wanted.free (Has.new 0 0)) ?_
  refine MDerR.step (Ob.fieldV Wanted.free (Has.new 1 0) (fun w1 => field_mod1)) ?_
  refine MDerR.step (Ob.loadV Wanted.free (Has.new 2 0) (fun w1 hb1 => load_sl hb1 C1.out)) ?_
  refine MDerR.step (Ob.fieldV Wanted.free Has.oldIs (fun w1 => field_vis3)) ?_
  refine MDerR.step (Ob.load (F := IsCon x) Wanted.free (Has.new 4 0) (fun w1 v hb1 hv => VA.out.loadX hb1 hv)) ?_
  refine MDerR.step (Ob.call2 Wanted.free entWithinL (Has.new 3 2) (Has.new 5 0) (fun w1 u v hb1 (hu : Is (.slice B1 m1 cb1) w1 u) (hv : IsCon x w1 v) => withinL hu K1.out hb1 hv b1 H1.out)) ?_
  refine MDerR.step (Ob.not Wanted.free (Has.new 6 0)) ?_
  simp only [MDerR, dstsOf, List.map, EndM, List.reverse_cons, List.reverse_nil, List.nil_append, List.cons_append]
  intro wE hE
  iterate 5 (rintro _ rfl)
  rintro _ _h5
  iterate 2 (rintro _ rfl)
  simp only [Act.put, List.setIfInBounds_toArray, List.set_cons_zero, List.set_cons_succ]
  have MM2 := Lib.hid (MM.out.mono hE); have HH2 := Lib.hid (HH.out.le hE); have VA2 := Lib.hid (VA.out.mono hE)
  clear hE _h5 C0 C1 K0 K1 FZ NI MM HH VA DEF
  have MM := MM2; have HH := HH2; have VA := VA2
  clear MM2 HH2 VA2
  generalize wE = W1 at *
  obtain ⟨A1, n1, ca1, B1, m1, cb1, c0, c1, k0, k1, fz, ni⟩ := MM.out
  have C0 := Lib.hid c0; have C1 := Lib.hid c1; have K0 := Lib.hid k0; have K1 := Lib.hid k1; have FZ := Lib.hid fz; have NI := Lib.hid ni
  clear c0 c1 k0 k1 fz ni
  have H1' := H1.out
  cases b1 with
  | true =>
    have y1 := VA.out.c1
    go_wp2_with fail
    clear y1
    refine wp_region_M mixed (by kernel_rfl) ?_
    refine MDerR.step (Ob.move Wanted.free Has.oldIs) ?_
    refine MDerR.step (Ob.nilV Wanted.free (Has.new 0 0)) ?_
    refine MDerR.step (Ob.fieldV Wanted.free (Has.new 1 0) (fun w1 => field_mod0)) ?_
    refine MDerR.step (Ob.loadV Wanted.free (Has.new 2 0) (fun w1 hb1 => load_sl hb1 C0.out)) ?_
    refine MDerR.step (Ob.fieldV Wanted.free Has.oldIs (fun w1 => field_vis3)) ?_
    refine MDerR.step (Ob.load (F := IsCon x) Wanted.free (Has.new 4 0) (fun w1 v hb1 hv => VA.out.loadX hb1 hv)) ?_
    refine MDerR.step (Ob.call2 Wanted.free entWithinL (Has.new 3 2) (Has.new 5 0) (fun w1 u v hb1 (hu : Is (.slice A1 n1 ca1) w1 u) (hv : IsCon x w1 v) => withinL hu K0.out hb1 hv b2 H2.out)) ?_
    refine MDerR.step (Ob.not Wanted.free (Has.new 6 0)) ?_
    simp only [MDerR, dstsOf, List.map, EndM, List.reverse_cons, List.reverse_nil, List.nil_append, List.cons_append]
    intro wE hE
    iterate 5 (rintro _ rfl)
    rintro _ _h5
    iterate 2 (rintro _ rfl)
    simp only [Act.put, List.setIfInBounds_toArray, List.set_cons_zero, List.set_cons_succ]
    have MM2 := Lib.hid (MM.out.mono hE); have HH2 := Lib.hid (HH.out.le hE); have VA2 := Lib.hid (VA.out.mono hE)
    clear hE _h5 C0 C1 K0 K1 FZ NI MM HH VA
    have MM := MM2; have HH := HH2; have VA := VA2
    clear MM2 HH2 VA2
    generalize wE = W2 at *
    obtain ⟨A1, n1, ca1, B1, m1, cb1, c0, c1, k0, k1, fz, ni⟩ := MM.out
    have C0 := Lib.hid c0; have C1 := Lib.hid c1; have K0 := Lib.hid k0; have K1 := Lib.hid k1; have FZ := Lib.hid fz; have NI := Lib.hid ni
    clear c0 c1 k0 k1 fz ni
    have y1 := VA.out.c1
    have H2' := H2.out
    cases b2
    · skip
      go_wp2_with fail
      refine wp_region_any mixed ?_
      refine take_pure (i := 0) rfl rfl (by kernel_rfl) (fun _ _ _ h => h) (v := .pointer (some ⟨M, 0, none⟩)) (fun w => by simp [execOp, Act.eval]) ?_
      simp only [Act.put, List.setIfInBounds_toArray, List.set_cons_zero, List.set_cons_succ]
      refine wp_left [1, 2, 3, 4, 5, 6, 7, 8, 9, 10, 11, 12] 8 (by kernel_rfl) (by kernel_rfl) (by kernel_rfl) (by kernel_rfl) ?_
      refine MDerT.step (Ob.move Wanted.free Has.oldIs) ?_
      refine MDerT.step (Ob.nilV Wanted.free (Has.new 0 0)) ?_
      refine MDerT.step (Ob.fieldV Wanted.free (Has.new 1 0) (fun w1 => field_mod0)) ?_
      refine MDerT.step (Ob.loadV Wanted.free (Has.new 2 0) (fun w1 hb1 => load_sl (Below.ofDrew hb1) C0.out)) ?_
      refine MDerT.step (Ob.appNilV Wanted.free Try.underlying28 (Has.new 3 0) (fun w1 hb1 => K0.out.mono (Below.ofDrew hb1)) (L1.out)) ?_
      refine MDerT.step (Ob.fieldV Wanted.free Has.oldIs (fun w1 => field_vis3)) ?_
      refine MDerT.step (Ob.load (F := IsCon x) Wanted.free (Has.new 5 0) (fun w1 v hb1 hv => VA.out.loadX (Below.ofDrew hb1) hv)) ?_
      refine MDerT.step (Ob.call1 Wanted.free entDots (Has.new 6 0) (fun w1 u hb1 (hu : IsCon x w1 u) => dotsI (B := W2.heap.size) (Below.ofDrew hb1).size hu SX.out)) ?_
      intro wE hE
      change EndM _ [some 49, some 50, some 51, some 52, some 53, some 54, some 55, some 56] _ _ _
      simp only [EndM, List.reverse_cons, List.reverse_nil, List.nil_append, List.cons_append]
      iterate 4 (rintro _ rfl)
      rintro _ r5
      iterate 1 (rintro _ rfl)
      rintro _ _h7
      rintro _ r8
      simp only [Act.put, List.setIfInBounds_toArray, List.set_cons_zero, List.set_cons_succ]
      replace hE := Below.ofDrew hE
      have hsz := hE.size
      obtain ⟨A8, n8, c8, rfl, d8⟩ := IsRow.dots r8
      refine wpList_app (B := W2.heap.size) rfl rfl Try.underlying28 rfl rfl r5 d8 (by have := L4.out; have := dotsS_len SX.out; omega) hsz ?_
      intro v' w' hr' hg'
      have b6 : Below W2.heap.size W2 w' := hE.grown hg' hsz (fun q hq => Row.own _ r5 q hq)
      obtain ⟨A9, n9, c9, rfl, d9⟩ := IsRow.dots hr'
      change wpList _ _ _ _ (Act.put _ (some 57) (.slice A9 n9 c9)) w'
      simp only [Act.put, List.setIfInBounds_toArray, List.set_cons_zero, List.set_cons_succ]
      have x1 := cellKeep b6 C0.out
      have fz1 : w'.frozen? ⟨M, 0, none⟩ = false := (b6.frozen (p := ⟨M, 0, none⟩) MM.out.size).trans (FZ.out 0)
      have HHW := Lib.hid (HH.out.le b6)
      have C19 := Lib.hid (cellKeep b6 C1.out); have X1 := Lib.hid x1; have K19 := Lib.hid (K1.out.mono b6); have NI9 := Lib.hid (NI.out.mono b6 MM.out.size); have D9 := Lib.hid d9
      have FZ9 := Lib.hid (show ∀ o, w'.frozen? ⟨M, o, none⟩ = false from fun o => (b6.frozen (p := ⟨M, o, none⟩) MM.out.size).trans (FZ.out o))
      clear hr' hg' r5 d8 r8 hE hsz b6 d9 _h7
      refine wpList_nilc (d := 58) (p := ⟨M, 0, none⟩) rfl rfl rfl rfl ?_
      simp only [Act.put, List.setIfInBounds_toArray, List.set_cons_zero, List.set_cons_succ]
      refine wpList_field (d := 59) (r := .pointer (some ⟨M, 0, none⟩)) rfl rfl rfl rfl field_mod0 ?_
      simp only [Act.put, List.setIfInBounds_toArray, List.set_cons_zero, List.set_cons_succ]
      refine wpList_store (p := .pointer (some ⟨M, 0, none⟩)) (v := .slice A9 n9 c9) (w' := w'.setCell ⟨M, 0, none⟩ (.slice A9 n9 c9)) rfl rfl rfl rfl rfl (by simp [go_sem, x1, fz1]) ?_
      refine wpList_nil ?_
      generalize HHW2 : w'.setCell ⟨M, 0, none⟩ (.slice A9 n9 c9) = wS
      have HS := Lib.hid HHW2
      clear HHW2 x1 fz1
      go_wp2
      go_ret
      rw [← HS.out]
      refine ⟨by simp [brokM, *], HHW.out.set_ 0 _, ?_⟩
      exact ⟨A9, n9, c9, B1, m1, cb1, cell_set X1.out, cell_far (by simp) C19.out, D9.out.setO (D9.out.noInt NI9.out) _, K19.out.setO (K19.out.noInt NI9.out) _, fun o => (World.frozen?_setCell _ _ _ _).trans (FZ9.out o), NoInt.set_ X1.out NI9.out⟩
    · skip
      go_wp2_with fail
      refine wp_region_any mixed ?_
      refine take_pure (i := 0) rfl rfl (by kernel_rfl) (fun _ _ _ h => h) (v := .pointer (some ⟨M, 0, none⟩)) (fun w => by simp [execOp, Act.eval]) ?_
      simp only [Act.put, List.setIfInBounds_toArray, List.set_cons_zero, List.set_cons_succ]
      refine wp_left [1, 2, 3, 4, 5, 6, 7, 8, 9, 10, 11, 12] 8 (by kernel_rfl) (by kernel_rfl) (by kernel_rfl) (by kernel_rfl) ?_
      refine MDerT.step (Ob.move Wanted.free Has.oldIs) ?_
      refine MDerT.step (Ob.nilV Wanted.free (Has.new 0 0)) ?_
      refine MDerT.step (Ob.fieldV Wanted.free (Has.new 1 0) (fun w1 => field_mod0)) ?_
      refine MDerT.step (Ob.loadV Wanted.free (Has.new 2 0) (fun w1 hb1 => load_sl (Below.ofDrew hb1) C0.out)) ?_
      refine MDerT.step (Ob.appNilV Wanted.free Try.underlying28 (Has.new 3 0) (fun w1 hb1 => K0.out.mono (Below.ofDrew hb1)) (L1.out)) ?_
      refine MDerT.step (Ob.fieldV Wanted.free Has.oldIs (fun w1 => field_vis3)) ?_
      refine MDerT.step (Ob.load (F := IsCon x) Wanted.free (Has.new 5 0) (fun w1 v hb1 hv => VA.out.loadX (Below.ofDrew hb1) hv)) ?_
      refine MDerT.step (Ob.call1 Wanted.free entDots (Has.new 6 0) (fun w1 u hb1 (hu : IsCon x w1 u) => dotsI (B := W2.heap.size) (Below.ofDrew hb1).size hu SX.out)) ?_
      intro wE hE
      change EndM _ [some 49, some 50, some 51, some 52, some 53, some 54, some 55, some 56] _ _ _
      simp only [EndM, List.reverse_cons, List.reverse_nil, List.nil_append, List.cons_append]
      iterate 4 (rintro _ rfl)
      rintro _ r5
      iterate 1 (rintro _ rfl)
      rintro _ _h7
      rintro _ r8
      simp only [Act.put, List.setIfInBounds_toArray, List.set_cons_zero, List.set_cons_succ]
      replace hE := Below.ofDrew hE
      have hsz := hE.size
      obtain ⟨A8, n8, c8, rfl, d8⟩ := IsRow.dots r8
      refine wpList_app (B := W2.heap.size) rfl rfl Try.underlying28 rfl rfl r5 d8 (by have := L4.out; have := dotsS_len SX.out; omega) hsz ?_
      intro v' w' hr' hg'
      have b6 : Below W2.heap.size W2 w' := hE.grown hg' hsz (fun q hq => Row.own _ r5 q hq)
      obtain ⟨A9, n9, c9, rfl, d9⟩ := IsRow.dots hr'
      change wpList _ _ _ _ (Act.put _ (some 57) (.slice A9 n9 c9)) w'
      simp only [Act.put, List.setIfInBounds_toArray, List.set_cons_zero, List.set_cons_succ]
      have x1 := cellKeep b6 C0.out
      have fz1 : w'.frozen? ⟨M, 0, none⟩ = false := (b6.frozen (p := ⟨M, 0, none⟩) MM.out.size).trans (FZ.out 0)
      have HHW := Lib.hid (HH.out.le b6)
      have C19 := Lib.hid (cellKeep b6 C1.out); have X1 := Lib.hid x1; have K19 := Lib.hid (K1.out.mono b6); have NI9 := Lib.hid (NI.out.mono b6 MM.out.size); have D9 := Lib.hid d9
      have FZ9 := Lib.hid (show ∀ o, w'.frozen? ⟨M, o, none⟩ = false from fun o => (b6.frozen (p := ⟨M, o, none⟩) MM.out.size).trans (FZ.out o))
      clear hr' hg' r5 d8 r8 hE hsz b6 d9 _h7
      refine wpList_nilc (d := 58) (p := ⟨M, 0, none⟩) rfl rfl rfl rfl ?_
      simp only [Act.put, List.setIfInBounds_toArray, List.set_cons_zero, List.set_cons_succ]
      refine wpList_field (d := 59) (r := .pointer (some ⟨M, 0, none⟩)) rfl rfl rfl rfl field_mod0 ?_
      simp only [Act.put, List.setIfInBounds_toArray, List.set_cons_zero, List.set_cons_succ]
      refine wpList_store (p := .pointer (some ⟨M, 0, none⟩)) (v := .slice A9 n9 c9) (w' := w'.setCell ⟨M, 0, none⟩ (.slice A9 n9 c9)) rfl rfl rfl rfl rfl (by simp [go_sem, x1, fz1]) ?_
      refine wpList_nil ?_
      generalize HHW2 : w'.setCell ⟨M, 0, none⟩ (.slice A9 n9 c9) = wS
      have HS := Lib.hid HHW2
      clear HHW2 x1 fz1
      go_wp2
      go_ret
      rw [← HS.out]
      refine ⟨by simp [brokM, *], HHW.out.set_ 0 _, ?_⟩
      exact ⟨A9, n9, c9, B1, m1, cb1, cell_set X1.out, cell_far (by simp) C19.out, D9.out.setO (D9.out.noInt NI9.out) _, K19.out.setO (K19.out.noInt NI9.out) _, fun o => (World.frozen?_setCell _ _ _ _).trans (FZ9.out o), NoInt.set_ X1.out NI9.out⟩
  | false =>
    have y1 := VA.out.c1
    go_wp2_with fail
    clear y1
    refine wp_region_M mixed (by kernel_rfl) ?_
    refine MDerR.step (Ob.move Wanted.free Has.oldIs) ?_
    refine MDerR.step (Ob.nilV Wanted.free (Has.new 0 0)) ?_
    refine MDerR.step (Ob.fieldV Wanted.free (Has.new 1 0) (fun w1 => field_mod0)) ?_
    refine MDerR.step (Ob.loadV Wanted.free (Has.new 2 0) (fun w1 hb1 => load_sl hb1 C0.out)) ?_
    refine MDerR.step (Ob.fieldV Wanted.free Has.oldIs (fun w1 => field_vis3)) ?_
    refine MDerR.step (Ob.load (F := IsCon x) Wanted.free (Has.new 4 0) (fun w1 v hb1 hv => VA.out.loadX hb1 hv)) ?_
    refine MDerR.step (Ob.call2 Wanted.free entWithinL (Has.new 3 2) (Has.new 5 0) (fun w1 u v hb1 (hu : Is (.slice A1 n1 ca1) w1 u) (hv : IsCon x w1 v) => withinL hu K0.out hb1 hv b2 H2.out)) ?_
    refine MDerR.step (Ob.not Wanted.free (Has.new 6 0)) ?_
    simp only [MDerR, dstsOf, List.map, EndM, List.reverse_cons, List.reverse_nil, List.nil_append, List.cons_append]
    intro wE hE
    iterate 5 (rintro _ rfl)
    rintro _ _h5
    iterate 2 (rintro _ rfl)
    simp only [Act.put, List.setIfInBounds_toArray, List.set_cons_zero, List.set_cons_succ]
    have MM2 := Lib.hid (MM.out.mono hE); have HH2 := Lib.hid (HH.out.le hE); have VA2 := Lib.hid (VA.out.mono hE)
    clear hE _h5 C0 C1 K0 K1 FZ NI MM HH VA
    have MM := MM2; have HH := HH2; have VA := VA2
    clear MM2 HH2 VA2
    generalize wE = W2 at *
    obtain ⟨A1, n1, ca1, B1, m1, cb1, c0, c1, k0, k1, fz, ni⟩ := MM.out
    have C0 := Lib.hid c0; have C1 := Lib.hid c1; have K0 := Lib.hid k0; have K1 := Lib.hid k1; have FZ := Lib.hid fz; have NI := Lib.hid ni
    clear c0 c1 k0 k1 fz ni
    have y1 := VA.out.c1
    have H2' := H2.out
    cases b2
    · skip
      go_wp2_with fail
      refine wp_region_any mixed ?_
      refine take_pure (i := 0) rfl rfl (by kernel_rfl) (fun _ _ _ h => h) (v := .pointer (some ⟨M, 0, none⟩)) (fun w => by simp [execOp, Act.eval]) ?_
      simp only [Act.put, List.setIfInBounds_toArray, List.set_cons_zero, List.set_cons_succ]
      refine wp_left [1, 2, 3, 4, 5, 6, 7, 8, 9, 10, 11, 12] 8 (by kernel_rfl) (by kernel_rfl) (by kernel_rfl) (by kernel_rfl) ?_
      refine MDerT.step (Ob.move Wanted.free Has.oldIs) ?_
      refine MDerT.step (Ob.nilV Wanted.free (Has.new 0 0)) ?_
      refine MDerT.step (Ob.fieldV Wanted.free (Has.new 1 0) (fun w1 => field_mod0)) ?_
      refine MDerT.step (Ob.loadV Wanted.free (Has.new 2 0) (fun w1 hb1 => load_sl (Below.ofDrew hb1) C0.out)) ?_
      refine MDerT.step (Ob.appNilV Wanted.free Try.underlying28 (Has.new 3 0) (fun w1 hb1 => K0.out.mono (Below.ofDrew hb1)) (L1.out)) ?_
      refine MDerT.step (Ob.fieldV Wanted.free Has.oldIs (fun w1 => field_vis3)) ?_
      refine MDerT.step (Ob.load (F := IsCon x) Wanted.free (Has.new 5 0) (fun w1 v hb1 hv => VA.out.loadX (Below.ofDrew hb1) hv)) ?_
      refine MDerT.step (Ob.call1 Wanted.free entDots (Has.new 6 0) (fun w1 u hb1 (hu : IsCon x w1 u) => dotsI (B := W2.heap.size) (Below.ofDrew hb1).size hu SX.out)) ?_
      intro wE hE
      change EndM _ [some 49, some 50, some 51, some 52, some 53, some 54, some 55, some 56] _ _ _
      simp only [EndM, List.reverse_cons, List.reverse_nil, List.nil_append, List.cons_append]
      iterate 4 (rintro _ rfl)
      rintro _ r5
      iterate 1 (rintro _ rfl)
      rintro _ _h7
      rintro _ r8
      simp only [Act.put, List.setIfInBounds_toArray, List.set_cons_zero, List.set_cons_succ]
      replace hE := Below.ofDrew hE
      have hsz := hE.size
      obtain ⟨A8, n8, c8, rfl, d8⟩ := IsRow.dots r8
      refine wpList_app (B := W2.heap.size) rfl rfl Try.underlying28 rfl rfl r5 d8 (by have := L4.out; have := dotsS_len SX.out; omega) hsz ?_
      intro v' w' hr' hg'
      have b6 : Below W2.heap.size W2 w' := hE.grown hg' hsz (fun q hq => Row.own _ r5 q hq)
      obtain ⟨A9, n9, c9, rfl, d9⟩ := IsRow.dots hr'
      change wpList _ _ _ _ (Act.put _ (some 57) (.slice A9 n9 c9)) w'
      simp only [Act.put, List.setIfInBounds_toArray, List.set_cons_zero, List.set_cons_succ]
      have x1 := cellKeep b6 C0.out
      have fz1 : w'.frozen? ⟨M, 0, none⟩ = false := (b6.frozen (p := ⟨M, 0, none⟩) MM.out.size).trans (FZ.out 0)
      have HHW := Lib.hid (HH.out.le b6)
      have C19 := Lib.hid (cellKeep b6 C1.out); have X1 := Lib.hid x1; have K19 := Lib.hid (K1.out.mono b6); have NI9 := Lib.hid (NI.out.mono b6 MM.out.size); have D9 := Lib.hid d9
      have FZ9 := Lib.hid (show ∀ o, w'.frozen? ⟨M, o, none⟩ = false from fun o => (b6.frozen (p := ⟨M, o, none⟩) MM.out.size).trans (FZ.out o))
      clear hr' hg' r5 d8 r8 hE hsz b6 d9 _h7
      refine wpList_nilc (d := 58) (p := ⟨M, 0, none⟩) rfl rfl rfl rfl ?_
      simp only [Act.put, List.setIfInBounds_toArray, List.set_cons_zero, List.set_cons_succ]
      refine wpList_field (d := 59) (r := .pointer (some ⟨M, 0, none⟩)) rfl rfl rfl rfl field_mod0 ?_
      simp only [Act.put, List.setIfInBounds_toArray, List.set_cons_zero, List.set_cons_succ]
      refine wpList_store (p := .pointer (some ⟨M, 0, none⟩)) (v := .slice A9 n9 c9) (w' := w'.setCell ⟨M, 0, none⟩ (.slice A9 n9 c9)) rfl rfl rfl rfl rfl (by simp [go_sem, x1, fz1]) ?_
      refine wpList_nil ?_
      generalize HHW2 : w'.setCell ⟨M, 0, none⟩ (.slice A9 n9 c9) = wS
      have HS := Lib.hid HHW2
      clear HHW2 x1 fz1
      go_wp2
      go_ret
      rw [← HS.out]
      refine ⟨by simp [brokM, *], HHW.out.set_ 0 _, ?_⟩
      exact ⟨A9, n9, c9, B1, m1, cb1, cell_set X1.out, cell_far (by simp) C19.out, D9.out.setO (D9.out.noInt NI9.out) _, K19.out.setO (K19.out.noInt NI9.out) _, fun o => (World.frozen?_setCell _ _ _ _).trans (FZ9.out o), NoInt.set_ X1.out NI9.out⟩
    · skip
      go_wp2_with fail
      refine wp_region_any mixed ?_
      refine take_pure (i := 0) rfl rfl (by kernel_rfl) (fun _ _ _ h => h) (v := .pointer (some ⟨M, 0, none⟩)) (fun w => by simp [execOp, Act.eval]) ?_
      simp only [Act.put, List.setIfInBounds_toArray, List.set_cons_zero, List.set_cons_succ]
      refine wp_left [1, 2, 3, 4, 5, 6, 7, 8, 9, 10, 11, 12] 8 (by kernel_rfl) (by kernel_rfl) (by kernel_rfl) (by kernel_rfl) ?_
      refine MDerT.step (Ob.move Wanted.free Has.oldIs) ?_
      refine MDerT.step (Ob.nilV Wanted.free (Has.new 0 0)) ?_
      refine MDerT.step (Ob.fieldV Wanted.free (Has.new 1 0) (fun w1 => field_mod0)) ?_
      refine MDerT.step (Ob.loadV Wanted.free (Has.new 2 0) (fun w1 hb1 => load_sl (Below.ofDrew hb1) C0.out)) ?_
      refine MDerT.step (Ob.appNilV Wanted.free Try.underlying28 (Has.new 3 0) (fun w1 hb1 => K0.out.mono (Below.ofDrew hb1)) (L1.out)) ?_
      refine MDerT.step (Ob.fieldV Wanted.free Has.oldIs (fun w1 => field_vis3)) ?_
      refine MDerT.step (Ob.load (F := IsCon x) Wanted.free (Has.new 5 0) (fun w1 v hb1 hv => VA.out.loadX (Below.ofDrew hb1) hv)) ?_
      refine MDerT.step (Ob.call1 Wanted.free entDots (Has.new 6 0) (fun w1 u hb1 (hu : IsCon x w1 u) => dotsI (B := W2.heap.size) (Below.ofDrew hb1).size hu SX.out)) ?_
      intro wE hE
      change EndM _ [some 49, some 50, some 51, some 52, some 53, some 54, some 55, some 56] _ _ _
      simp only [EndM, List.reverse_cons, List.reverse_nil, List.nil_append, List.cons_append]
      iterate 4 (rintro _ rfl)
      rintro _ r5
      iterate 1 (rintro _ rfl)
      rintro _ _h7
      rintro _ r8
      simp only [Act.put, List.setIfInBounds_toArray, List.set_cons_zero, List.set_cons_succ]
      replace hE := Below.ofDrew hE
      have hsz := hE.size
      obtain ⟨A8, n8, c8, rfl, d8⟩ := IsRow.dots r8
      refine wpList_app (B := W2.heap.size) rfl rfl Try.underlying28 rfl rfl r5 d8 (by have := L4.out; have := dotsS_len SX.out; omega) hsz ?_
      intro v' w' hr' hg'
      have b6 : Below W2.heap.size W2 w' := hE.grown hg' hsz (fun q hq => Row.own _ r5 q hq)
      obtain ⟨A9, n9, c9, rfl, d9⟩ := IsRow.dots hr'
      change wpList _ _ _ _ (Act.put _ (some 57) (.slice A9 n9 c9)) w'
      simp only [Act.put, List.setIfInBounds_toArray, List.set_cons_zero, List.set_cons_succ]
      have x1 := cellKeep b6 C0.out
      have fz1 : w'.frozen? ⟨M, 0, none⟩ = false := (b6.frozen (p := ⟨M, 0, none⟩) MM.out.size).trans (FZ.out 0)
      have HHW := Lib.hid (HH.out.le b6)
      have C19 := Lib.hid (cellKeep b6 C1.out); have X1 := Lib.hid x1; have K19 := Lib.hid (K1.out.mono b6); have NI9 := Lib.hid (NI.out.mono b6 MM.out.size); have D9 := Lib.hid d9
      have FZ9 := Lib.hid (show ∀ o, w'.frozen? ⟨M, o, none⟩ = false from fun o => (b6.frozen (p := ⟨M, o, none⟩) MM.out.size).trans (FZ.out o))
      clear hr' hg' r5 d8 r8 hE hsz b6 d9 _h7
      refine wpList_nilc (d := 58) (p := ⟨M, 0, none⟩) rfl rfl rfl rfl ?_
      simp only [Act.put, List.setIfInBounds_toArray, List.set_cons_zero, List.set_cons_succ]
      refine wpList_field (d := 59) (r := .pointer (some ⟨M, 0, none⟩)) rfl rfl rfl rfl field_mod0 ?_
      simp only [Act.put, List.setIfInBounds_toArray, List.set_cons_zero, List.set_cons_succ]
      refine wpList_store (p := .pointer (some ⟨M, 0, none⟩)) (v := .slice A9 n9 c9) (w' := w'.setCell ⟨M, 0, none⟩ (.slice A9 n9 c9)) rfl rfl rfl rfl rfl (by simp [go_sem, x1, fz1]) ?_
      refine wpList_nil ?_
      generalize HHW2 : w'.setCell ⟨M, 0, none⟩ (.slice A9 n9 c9) = wS
      have HS := Lib.hid HHW2
      clear HHW2 x1 fz1
      go_wp2
      go_ret
      rw [← HS.out]
      refine ⟨by simp [brokM, *], HHW.out.set_ 0 _, ?_⟩
      exact ⟨A9, n9, c9, B1, m1, cb1, cell_set X1.out, cell_far (by simp) C19.out, D9.out.setO (D9.out.noInt NI9.out) _, K19.out.setO (K19.out.noInt NI9.out) _, fun o => (World.frozen?_setCell _ _ _ _).trans (FZ9.out o), NoInt.set_ X1.out NI9.out⟩
end Go.Proofs.Ytjbakmmmgejhlaa

/-
  PLAIN: a session and the statements' model of it.
-/
namespace Go.Proofs.Ytjbakmmmgejhlaa
open Go.RowKit

def szC (c : Ctx) : Nat := c.1.length + c.2.length
theorem fold_total : ∀ (l : List Dot) (s : Ctx), szC (l.foldl stepC s) ≤ szC s + l.length
  | [], s => Nat.le_refl _
  | d :: t, s => by
    rw [List.foldl_cons, List.length_cons]
    have h1 := fold_total t (stepC s d)
    have h2 : szC (stepC s d) ≤ szC s + 1 := by
      unfold stepC szC
      split
      · omega
      · split
        · have := raiseV_length s.1 d; simp only; omega
        · simp only [List.length_append, List.length_cons, List.length_nil]; omega
    omega
theorem pass_total (c : Ctx) : szC (passC c) ≤ szC c := by
  have := fold_total c.2 (c.1, [])
  unfold passC
  unfold szC at *
  simp only [List.length_nil] at this
  omega
theorem union_total (a b : Ctx) : szC (unionC a b) ≤ szC a + szC b := by
  unfold unionC
  rw [compact_pass]
  have h1 := pass_total (mergeV a.1 b.1, unionD a.2 b.2)
  have h3 := mergeV_length b.1 a.1
  have h4 := unionD_length a.2 b.2
  unfold szC at *
  simp only at h1
  omega
theorem add_total (a : Ctx) (l : List Dot) : szC (addC a l) ≤ szC a + l.length := by
  unfold addC
  rw [compact_pass]
  have h1 := pass_total (a.1, unionD a.2 l)
  have h4 := unionD_length a.2 l
  unfold szC at *
  simp only at h1
  omega

/-- A visit that the statements' walks make. -/
structure Good (v : Vis) : Prop where
  ok : badS v = false
  sm : smallB v.x = true
theorem Good.valid {v : Vis} (h : Good v) : validC v.x = true := by
  have := h.ok
  simp only [badS, Bool.or_eq_false_iff, Bool.not_eq_false'] at this
  exact this.1
theorem Good.dot {v : Vis} (h : Good v) (hw : v.w = true) : validD v.d = true ∧ hasC v.x v.d = false := by
  have := h.ok
  simp only [badS, Bool.or_eq_false_iff, hw, Bool.true_and, Bool.not_eq_false'] at this
  exact this.2
theorem Good.size {v : Vis} (h : Good v) : szC v.x ≤ 24 := by
  obtain ⟨h1, h2, _⟩ := small_iff h.sm
  unfold szC; omega
/-- The session is in the state of the model. -/
structure AlikeS (s : St) (m : Mo) : Prop where
  t1 : Tight s.1
  t2 : Tight s.2
  e1 : ∀ d, In s.1 d ↔ d ∈ m.1
  e2 : ∀ d, In s.2 d ↔ d ∈ m.2
theorem tight_nil : Tight ([], []) := tight_iff.1 (by kernel_rfl)
theorem alike0 : AlikeS st0 ([], []) := ⟨tight_nil, tight_nil, fun _ => ⟨fun h => absurd h in_nil, fun h => nomatch h⟩, fun _ => ⟨fun h => absurd h in_nil, fun h => nomatch h⟩⟩
theorem AlikeS.step {s : St} {m : Mo} {v : Vis} (h : AlikeS s m) (g : Good v) : AlikeS (stepS s v) (stepM m v) := by
  unfold stepS stepM
  cases hw : v.w with
  | true =>
    obtain ⟨a1, a2⟩ := add_spec h.t2.ok (valid_one (g.dot hw).1)
    simp only [if_true]
    exact ⟨h.t1, a1, h.e1, fun d => by rw [a2, h.e2]; simp⟩
  | false =>
    have hx := ok_iff.1 g.valid
    obtain ⟨a1, a2⟩ := union_spec h.t1.ok hx
    simp only [Bool.false_eq_true, if_false]
    exact ⟨a1, h.t2, fun d => by rw [a2, h.e1, List.mem_append, mem_dots hx], h.e2⟩
theorem win_all {a x : Ctx} {l : List Dot} (ha : Ok a) (hx : Ok x) (h : ∀ d, In a d ↔ d ∈ l) (g : Int) : winS a x g = if l.all (hasC x) then 0 else g := by
  unfold winS
  have : inC a x = l.all (hasC x) := by
    rw [Bool.eq_iff_iff, inC_iff ha hx, List.all_eq_true]
    exact ⟨fun k d hd => in_iff.2 (k d ((h d).2 hd)), fun k d hd => in_iff.1 (k d ((h d).1 hd))⟩
  rw [this]
theorem AlikeS.brok {s : St} {m : Mo} {v : Vis} (h : AlikeS s m) (g : Good v) : brokS s v = brokM m v := by
  have hx := ok_iff.1 g.valid
  unfold brokS brokM
  cases hw : v.w with
  | true =>
    simp only [if_true]
    rw [win_all h.t1.ok hx h.e1, win_all h.t2.ok hx h.e2, Int.add_comm]
  | false =>
    simp only [Bool.false_eq_true, if_false]
    rw [win_all h.t1.ok hx h.e1, win_all h.t2.ok hx h.e2]
def modOf (l : List Vis) (c : Int) : Mo := (l.filter fun v => v.c == c).foldl stepM ([], [])
theorem modOf_snoc (l : List Vis) (v : Vis) (c : Int) : modOf (l ++ [v]) c = if v.c = c then stepM (modOf l c) v else modOf l c := by
  unfold modOf
  rw [List.filter_append, List.foldl_append]
  by_cases h : v.c = c
  · rw [if_pos h, List.filter_cons_of_pos (by simp [h])]; rfl
  · rw [if_neg h, List.filter_cons_of_neg (by simp [h])]; rfl
theorem fold_alike : ∀ (l : List Vis) (s : St) (m : Mo), AlikeS s m → (∀ v ∈ l, Good v) → AlikeS (l.foldl stepS s) (l.foldl stepM m)
  | [], _, _, h, _ => h
  | v :: t, _, _, h, g => fold_alike t _ _ (h.step (g v (List.mem_cons_self ..))) (fun u hu => g u (List.mem_cons_of_mem _ hu))
theorem alike_of {l : List Vis} (g : ∀ v ∈ l, Good v) (c : Int) : AlikeS (stOf l c) (modOf l c) := fold_alike _ _ _ alike0 (fun v hv => g v ((List.mem_filter.1 hv).1))
theorem fold_szS : ∀ (l : List Vis) (s : St), (∀ v ∈ l, Good v) → szC (l.foldl stepS s).1 ≤ szC s.1 + 24 * l.length ∧ szC (l.foldl stepS s).2 ≤ szC s.2 + 24 * l.length
  | [], _, _ => ⟨Nat.le_refl _, Nat.le_refl _⟩
  | v :: t, s, g => by
    obtain ⟨h1, h2⟩ := fold_szS t (stepS s v) (fun u hu => g u (List.mem_cons_of_mem _ hu))
    have hv := g v (List.mem_cons_self ..)
    have h3 : szC (stepS s v).1 ≤ szC s.1 + 24 ∧ szC (stepS s v).2 ≤ szC s.2 + 24 := by
      unfold stepS
      cases v.w with
      | true =>
        have := add_total s.2 [v.d]
        simp only [if_true]
        simp only [List.length_cons, List.length_nil] at this
        exact ⟨by omega, by omega⟩
      | false =>
        have := union_total s.1 v.x
        have := hv.size
        simp only [Bool.false_eq_true, if_false]
        exact ⟨by omega, by omega⟩
    rw [List.foldl_cons, List.length_cons]
    exact ⟨by omega, by omega⟩
theorem AlikeS.okS {s : St} {m : Mo} (h : AlikeS s m) (l1 : szC s.1 ≤ 1000) (l2 : szC s.2 ≤ 1000) : OkS s := ⟨ok_iff.2 h.t1.ok, ok_iff.2 h.t2.ok, l1, l2⟩
theorem fits_good {l : List Vis} (g : ∀ v ∈ l, Good v) (hn : l.length ≤ 40) : Fits l := fun k c => by
  have gk : ∀ v ∈ l.take k, Good v := fun v hv => g v (List.mem_of_mem_take hv)
  have h1 := alike_of gk c
  have h2 := fold_szS ((l.take k).filter fun v => v.c == c) st0 (fun v hv => gk v ((List.mem_filter.1 hv).1))
  have h3 : ((l.take k).filter fun v => v.c == c).length ≤ l.length := Nat.le_trans (List.length_filter_le _ _) (List.length_take_le' _ _)
  have e : szC st0.1 = 0 ∧ szC st0.2 = 0 := ⟨rfl, rfl⟩
  exact h1.okS (by unfold stOf; omega) (by unfold stOf; omega)
theorem bad_good {l : List Vis} (g : ∀ v ∈ l, Good v) : l.any badS = false := by
  rw [List.any_eq_false]
  intro v hv
  rw [(g v hv).ok]; simp
theorem len_good {l : List Vis} (g : ∀ v ∈ l, Good v) : ∀ v ∈ l, v.x.1.length + v.x.2.length ≤ 1000 := fun v hv => by have := (g v hv).size; unfold szC at this; omega
/-- How long the model's lists grow. -/
theorem fold_mlen : ∀ (l : List Vis) (m : Mo), (∀ v ∈ l, Good v) → (l.foldl stepM m).1.length ≤ m.1.length + 732 * l.length ∧ (l.foldl stepM m).2.length ≤ m.2.length + l.length
  | [], _, _ => ⟨Nat.le_refl _, Nat.le_refl _⟩
  | v :: t, m, g => by
    obtain ⟨h1, h2⟩ := fold_mlen t (stepM m v) (fun u hu => g u (List.mem_cons_of_mem _ hu))
    have h4 := dotsS_len (g v (List.mem_cons_self ..)).sm
    have h3 : (stepM m v).1.length ≤ m.1.length + 732 ∧ (stepM m v).2.length ≤ m.2.length + 1 := by
      unfold stepM
      cases v.w with
      | true => simp only [if_true, List.length_append, List.length_cons, List.length_nil]; exact ⟨by omega, by omega⟩
      | false => simp only [Bool.false_eq_true, if_false, List.length_append]; exact ⟨by omega, by omega⟩
    rw [List.foldl_cons, List.length_cons]
    exact ⟨by omega, by omega⟩
theorem mlen_good {l : List Vis} (g : ∀ v ∈ l, Good v) (hn : l.length ≤ 40) (c : Int) : (modOf l c).1.length ≤ 100000 ∧ (modOf l c).2.length ≤ 100000 := by
  have h2 := fold_mlen (l.filter fun v => v.c == c) ([], []) (fun v hv => g v ((List.mem_filter.1 hv).1))
  have h3 : (l.filter fun v => v.c == c).length ≤ l.length := List.length_filter_le _ _
  have e : (([], []) : Mo).1.length = 0 ∧ (([], []) : Mo).2.length = 0 := ⟨rfl, rfl⟩
  unfold modOf
  exact ⟨by omega, by omega⟩
/-- What the statement finds of visit i, and what Judge finds. -/
def gM (l : List Vis) (i : Nat) (v : Vis) : Int := brokM (modOf (l.take i) v.c) v
theorem gM_eq {l : List Vis} {i : Nat} {v : Vis} (g : ∀ v ∈ l, Good v) (hi : l[i]? = some v) : brokS (stOf (l.take i) v.c) v = gM l i v :=
  (alike_of (fun u hu => g u (List.mem_of_mem_take hu)) v.c).brok (g v (List.mem_of_getElem? hi))
theorem judge_from {l : List Vis} {asked : Int} (g : ∀ v ∈ l, Good v) : ∀ (i : Nat), i ≤ l.length → (∀ j v, j < i → l[j]? = some v → andI (gM l j v) asked = 0) → judgeS asked [] l = judgeS asked (l.take i) (l.drop i)
  | 0, _, _ => rfl
  | i + 1, hi, h => by
    have hl : l[i]? = some l[i] := List.getElem?_eq_getElem (by omega)
    rw [judge_from g i (by omega) (fun j v hj => h j v (by omega)), judge_next hl (by rw [List.drop_eq_getElem_cons (by omega)]) (by rw [gM_eq g hl]; exact h i _ (by omega) hl)]
theorem judge_found {l : List Vis} {asked : Int} (g : ∀ v ∈ l, Good v) {i : Nat} {v : Vis} (hi : l[i]? = some v) (h : ∀ j v, j < i → l[j]? = some v → andI (gM l j v) asked = 0) (hv : ¬ andI (gM l i v) asked = 0) : judgeS asked [] l = ((i : Int), andI (gM l i v) asked) := by
  have hl := (List.getElem?_eq_some_iff.1 hi).1
  have hd : l.drop i = v :: l.drop (i + 1) := by rw [List.drop_eq_getElem_cons hl, (List.getElem?_eq_some_iff.1 hi).2]
  rw [judge_from g i (by omega) h, judge_stop (by omega) hd (by rw [gM_eq g hi]; exact hv), gM_eq g hi]
theorem judge_none {l : List Vis} {asked : Int} (g : ∀ v ∈ l, Good v) (h : ∀ j v, j < l.length → l[j]? = some v → andI (gM l j v) asked = 0) : judgeS asked [] l = (-1, 0) := by
  rw [judge_from g l.length (Nat.le_refl _) h, List.drop_length]; rfl
end Go.Proofs.Ytjbakmmmgejhlaa

/-
  session.Copy.
-/
namespace Go.Proofs.Ytjbakmmmgejhlaa
open Go.RowKit

/-- A session as a value; a pointer to a session in a block of its own. -/
def IsSessV (s : St) (w : World) (v : Value) : Prop := ∃ A n ca B m cb A2 n2 ca2 B2 m2 cb2, v = .agg #[.slice A n ca, .slice B m cb, .slice A2 n2 ca2, .slice B2 m2 cb2] ∧ Con w A n ca B m cb s.1 ∧ Con w A2 n2 ca2 B2 m2 cb2 s.2
instance (s : St) : Grows (IsSessV s) := ⟨fun hb ⟨A, n, ca, B, m, cb, A2, n2, ca2, B2, m2, cb2, e, h, k⟩ => ⟨A, n, ca, B, m, cb, A2, n2, ca2, B2, m2, cb2, e, h.mono hb, k.mono hb⟩⟩
def IsSessP (K : Nat) (s : St) (w : World) (v : Value) : Prop := ∃ N, v = .pointer (some ⟨N, 0, none⟩) ∧ K ≤ N ∧ SessOk N s w
instance (K : Nat) (s : St) : Grows (IsSessP K s) := ⟨fun hb ⟨N, e, h, k⟩ => ⟨N, e, h, k.mono hb⟩⟩
theorem SessAt.of {w : World} {A B A2 B2 : Option Addr} {n ca m cb n2 ca2 m2 cb2 : Nat} {h r : Ctx} (h1 : Con w A n ca B m cb h) (h2 : Con w A2 n2 ca2 B2 m2 cb2 r) :
    SessAt w.heap.size h r (w.alloc (.cells #[.slice A n ca, .slice B m cb, .slice A2 n2 ca2, .slice B2 m2 cb2] 46)) := by
  have hb : Below w.heap.size w (w.alloc (.cells #[.slice A n ca, .slice B m cb, .slice A2 n2 ca2, .slice B2 m2 cb2] 46)) := (Below.refl _ _).alloc (Nat.le_refl _) _
  refine ⟨A, n, ca, B, m, cb, A2, n2, ca2, B2, m2, cb2, by simp [go_sem], by simp [go_sem], by simp [go_sem], by simp [go_sem], h1.mono hb, h2.mono hb, fun o => by simp [go_sem], fun o x e => ?_⟩
  simp only [World.cell?, World.alloc] at e
  simp at e
  match o, e with
  | 0, e => simp at e
  | 1, e => simp at e
  | 2, e => simp at e
  | 3, e => simp at e
  | n + 4, e => simp at e
section
variable {ops : List Oper} {Fs : List VT} {w0 : World} {a0 : Act} {i : Nat} {d : Option Tmp} {ty : TypeId} {pos : String} {after : Array Edge} {g : Option (Nat × Bool)}
theorem Ob.mkSess {x y : Operand} {s : St} (hw : Wanted ops Fs w0 a0 i ⟨d, .build 46 #[(0, x), (1, y)], ty, pos, after, g⟩) (hx : Has ops Fs w0 a0 i ⟨d, .build 46 #[(0, x), (1, y)], ty, pos, after, g⟩ x (IsCon s.1)) (hy : Has ops Fs w0 a0 i ⟨d, .build 46 #[(0, x), (1, y)], ty, pos, after, g⟩ y (IsCon s.2)) :
    Ob Try.prog ops Fs w0 a0 i ⟨d, .build 46 #[(0, x), (1, y)], ty, pos, after, g⟩ (IsSessV s) :=
  Ob.stay hw fun a w cx => by
    obtain ⟨A, n, ca, B, m, cb, h1, k1⟩ := hx a w cx
    obtain ⟨A2, n2, ca2, B2, m2, cb2, h2, k2⟩ := hy a w cx
    refine ⟨.agg #[.slice A n ca, .slice B m cb, .slice A2 n2 ca2, .slice B2 m2 cb2], ?_, A, n, ca, B, m, cb, A2, n2, ca2, B2, m2, cb2, rfl, k1, k2⟩
    generalize a.eval = ρ at h1 h2
    simp [execOp, h1, h2, go_sem]
theorem Ob.boxSess {x : Operand} {s : St} (hw : Wanted ops Fs w0 a0 i ⟨d, .box 46 x, ty, pos, after, g⟩) (hx : Has ops Fs w0 a0 i ⟨d, .box 46 x, ty, pos, after, g⟩ x (IsSessV s)) :
    Ob Try.prog ops Fs w0 a0 i ⟨d, .box 46 x, ty, pos, after, g⟩ (IsSessP w0.heap.size s) :=
  Ob.any hw fun a w cx => by
    obtain ⟨A, n, ca, B, m, cb, A2, n2, ca2, B2, m2, cb2, h1, k1, k2⟩ := hx a w cx
    refine ⟨.pointer (some ⟨w.heap.size, 0, none⟩), w.alloc (.cells #[.slice A n ca, .slice B m cb, .slice A2 n2 ca2, .slice B2 m2 cb2] 46), ?_, (Below.refl _ _).alloc (Nat.le_refl _) _, w.heap.size, rfl, cx.le.size, SessAt.of k1 k2⟩
    generalize a.eval = ρ at h1
    simp [execOp, h1, go_sem]
end
theorem copiedI {c : Ctx} {w : World} {u : Value} (hu : IsCon c w u) (hl : c.1.length + c.2.length ≤ 1000) : Calls Try.prog 42 #[u] w (Ret w (IsCon c)) := by
  obtain ⟨A, n, ca, B, m, cb, rfl, hc⟩ := hu
  exact (lcopied A B n ca m cb c w hc (by have := hc.v.len; unfold Small; omega) (by have := hc.k.len; unfold Small; omega)).mono fun _ _ ⟨v, e, hb, hx⟩ => ⟨v, e, hb, hx.con⟩
set_option maxRecDepth 100000 in
set_option maxHeartbeats 1000000 in
theorem scopy (N : Nat) (s : St) (w : World) (hs : SessOk N s w) (ok : OkS s) : Calls Try.prog 26 #[.pointer (some ⟨N, 0, none⟩)] w (Ret w (IsSessP w.heap.size s)) := by
  have SS := Lib.hid hs; have OK := Lib.hid ok
  clear hs ok
  go_enter Try.func26, Try.ntmps26
  go_wp2_with fail
  refine wp_region_M mixed (by kernel_rfl) ?_
  refine MDerR.step (Ob.move Wanted.free Has.oldIs) ?_
  refine MDerR.step (Ob.nilV Wanted.free (Has.new 0 0)) ?_
  refine MDerR.step (Ob.fieldV Wanted.free (Has.new 1 0) (fun w1 => field_sess0)) ?_
  refine MDerR.step (Ob.load (F := IsCon s.1) Wanted.free (Has.new 2 0) (fun w1 v hb1 hv => SS.out.load0 hb1 hv)) ?_
  refine MDerR.step (Ob.call1 Wanted.free entCopied (Has.new 3 0) (fun w1 u hb1 (hu : IsCon s.1 w1 u) => copiedI hu OK.out.l1)) ?_
  refine MDerR.step (Ob.move Wanted.free Has.oldIs) ?_
  refine MDerR.step (Ob.nilV Wanted.free (Has.new 5 0)) ?_
  refine MDerR.step (Ob.fieldV Wanted.free (Has.new 6 0) (fun w1 => field_sess1)) ?_
  refine MDerR.step (Ob.load (F := IsCon s.2) Wanted.free (Has.new 7 0) (fun w1 v hb1 hv => SS.out.load1 hb1 hv)) ?_
  refine MDerR.step (Ob.call1 Wanted.free entCopied (Has.new 8 0) (fun w1 u hb1 (hu : IsCon s.2 w1 u) => copiedI hu OK.out.l2)) ?_
  refine MDerR.step (Ob.mkSess Wanted.free (Has.new 4 5) (Has.new 9 0)) ?_
  refine MDerR.step (Ob.boxSess Wanted.free (Has.new 10 0)) ?_
  refine MDerR.step (Ob.assign Wanted.free (Has.new 11 0)) ?_
  simp only [MDerR, dstsOf, List.map, EndM, List.reverse_cons, List.reverse_nil, List.nil_append, List.cons_append]
  intro wE hE
  iterate 3 (rintro _ rfl)
  rintro _ _h3
  rintro _ _h4
  iterate 3 (rintro _ rfl)
  rintro _ _h8
  rintro _ _h9
  rintro _ _h10
  rintro _ _h11
  rintro _ ⟨N1, rfl, hN1, hs1⟩
  simp only [Act.put, List.setIfInBounds_toArray, List.set_cons_zero, List.set_cons_succ]
  have HE := Lib.hid hE; have HS1 := Lib.hid hs1; have HN1 := Lib.hid hN1
  clear hE hs1 hN1 _h11 _h3 _h4 _h8 _h9 _h10
  go_wp2
  go_ret
  exact ⟨_, rfl, HE.out, N1, rfl, HN1.out, HS1.out⟩
end Go.Proofs.Ytjbakmmmgejhlaa

/-
  ContextLooks: what its two loops want, that write into what was returned.
-/
namespace Go.Proofs.Ytjbakmmmgejhlaa
open Go.RowKit

theorem isNil2 (w : World) : IsCon ([], []) w (.agg #[.slice none 0 0, .slice none 0 0]) := ⟨none, 0, 0, none, 0, 0, rfl, ⟨Dots.nil_, Dots.nil_⟩⟩
theorem compR_no {c : Ctx} (h : validC c = false) : (eqC (compR c).1 ([], []) && ((compR c).2 == 2)) = true := by
  unfold compR
  rw [if_neg (by rw [h]; simp)]
  rfl
theorem dcells_put : ∀ (l : List Dot) (i : Nat) (z : Int), i < l.length → ∃ l' : List Dot, l'.length = l.length ∧ (dcells l).set (i * 2 + 1) (.int .i64 z) = dcells l'
  | [], i, z, h => by simp at h
  | d :: l, 0, z, _ => ⟨(d.1, z) :: l, rfl, rfl⟩
  | d :: l, i + 1, z, h => by
    obtain ⟨l', h1, h2⟩ := dcells_put l i z (by simpa using h)
    refine ⟨d :: l', by simp [h1], ?_⟩
    rw [dcells_cons, dcells_cons, show (i + 1) * 2 + 1 = i * 2 + 1 + 1 + 1 by omega, List.set_cons_succ, List.set_cons_succ, h2]
/-- A count of a row of the call's own: where it lies, and the row behind a store. -/
theorem Row.count {w : World} {B : Nat} {A : Option Addr} {n c i : Nat} {l : List Dot} (h : Row w B (.slice A n c) l) (hi : i < n) :
    ∃ g y, A = some ⟨g, 0, none⟩ ∧ B ≤ g ∧ g < w.heap.size ∧ w.cell? ⟨g, i * 2 + 1, none⟩ = some (.int .i64 y) ∧ w.frozen? ⟨g, i * 2 + 1, none⟩ = false ∧ ∀ z, ∃ l', Row (w.setCell ⟨g, i * 2 + 1, none⟩ (.int .i64 z)) B (.slice A n c) l' := by
  obtain ⟨A', c', e, hd⟩ := Row.dots h
  cases e
  obtain ⟨g, e, hB, hg⟩ : ∃ g, A = some ⟨g, 0, none⟩ ∧ B ≤ g ∧ g < w.heap.size := by
    rcases h.2 with ⟨_, h0⟩ | ⟨g, cap, cur, e, hB, hh, _⟩
    · omega
    · cases e
      exact ⟨g, rfl, hB, (Array.getElem?_eq_some_iff.1 hh).1⟩
  subst e
  obtain ⟨b, o, x, y, e, _, _, _, _, k2⟩ := hd.at_ hi
  cases e
  rw [Nat.zero_add] at k2
  refine ⟨g, y, rfl, hB, hg, k2, World.ownsRow.frozenAt h _, fun z => ?_⟩
  obtain ⟨l', h1, h2⟩ := dcells_put l i z hi
  refine ⟨l', ?_⟩
  have h3 := (World.ownsRow.stored h (i * 2 + 1) (.int .i64 z)).1
  rw [h2, ← h1] at h3
  rw [← h1]
  exact h3
/-- What holds at the heads of both loops. -/
structure LookAt (b N : Nat) (W : World) (A B : Option Addr) (n ca m cb : Nat) (wr : World) : Prop where
  c0 : wr.cell? ⟨N, 0, none⟩ = some (.slice A n ca)
  c1 : wr.cell? ⟨N, 1, none⟩ = some (.slice B m cb)
  below : Below b W wr
  r1 : ∃ l, Row wr b (.slice A n ca) l
  r2 : ∃ l, Row wr b (.slice B m cb) l
  o1 : ∀ k, (Value.slice A n ca).ownBlock = some k → k ≠ N
  o2 : ∀ k, (Value.slice B m cb).ownBlock = some k → k ≠ N
  apart : ∀ k, (Value.slice A n ca).ownBlock = some k → (Value.slice B m cb).ownBlock ≠ some k
section
variable {b N : Nat} {W wr : World} {A B : Option Addr} {n ca m cb i : Nat}
theorem LookAt.first (h : LookAt b N W A B n ca m cb wr) (hi : i < n) : ∃ g y, A = some ⟨g, 0, none⟩ ∧ g < wr.heap.size ∧ wr.cell? ⟨g, i * 2 + 1, none⟩ = some (.int .i64 y) ∧ wr.frozen? ⟨g, i * 2 + 1, none⟩ = false ∧
    ∀ z, LookAt b N W A B n ca m cb (wr.setCell ⟨g, i * 2 + 1, none⟩ (.int .i64 z)) := by
  obtain ⟨l, r⟩ := h.r1
  obtain ⟨g, y, e, hb, hg, h1, h2, h3⟩ := r.count hi
  have hN : g ≠ N := h.o1 g (by rw [e]; rfl)
  have hne : ∀ o v, (⟨g, i * 2 + 1, none⟩ : Addr) ≠ ⟨N, o, v⟩ := fun o v e => hN (by cases e; rfl)
  refine ⟨g, y, e, hg, h1, h2, fun z => ⟨cell_far (hne _ _) h.c0, cell_far (hne _ _) h.c1, h.below.setCell (p := ⟨g, i * 2 + 1, none⟩) hb _, h3 z, ?_, h.o1, h.o2, h.apart⟩⟩
  obtain ⟨l2, r2⟩ := h.r2
  exact ⟨l2, Row.set_ r2 (fun k hk e2 => h.apart g (by rw [e]; rfl) (by rw [hk, e2])) _⟩
theorem LookAt.second (h : LookAt b N W A B n ca m cb wr) (hi : i < m) : ∃ g y, B = some ⟨g, 0, none⟩ ∧ g < wr.heap.size ∧ wr.cell? ⟨g, i * 2 + 1, none⟩ = some (.int .i64 y) ∧ wr.frozen? ⟨g, i * 2 + 1, none⟩ = false ∧
    ∀ z, LookAt b N W A B n ca m cb (wr.setCell ⟨g, i * 2 + 1, none⟩ (.int .i64 z)) := by
  obtain ⟨l, r⟩ := h.r2
  obtain ⟨g, y, e, hb, hg, h1, h2, h3⟩ := r.count hi
  have hN : g ≠ N := h.o2 g (by rw [e]; rfl)
  have hne : ∀ o v, (⟨g, i * 2 + 1, none⟩ : Addr) ≠ ⟨N, o, v⟩ := fun o v e => hN (by cases e; rfl)
  refine ⟨g, y, e, hg, h1, h2, fun z => ⟨cell_far (hne _ _) h.c0, cell_far (hne _ _) h.c1, h.below.setCell (p := ⟨g, i * 2 + 1, none⟩) hb _, ?_, h3 z, h.o1, h.o2, h.apart⟩⟩
  obtain ⟨l2, r2⟩ := h.r1
  exact ⟨l2, Row.set_ r2 (fun k hk e2 => h.apart k hk (by rw [e]; exact congrArg some e2.symm)) _⟩
def LookRel (b N : Nat) (W : World) (A B : Option Addr) (n ca m cb lim : Nat) (i : Value) (wr : World) : Prop := ∃ k : Nat, i = .int .i64 k ∧ k ≤ lim ∧ LookAt b N W A B n ca m cb wr
theorem LookAt.len1 (h : LookAt b N W A B n ca m cb wr) : n ≤ 9223372036854775807 := h.r1.elim fun _ r => r.asDots.big
theorem LookAt.len2 (h : LookAt b N W A B n ca m cb wr) : m ≤ 9223372036854775807 := h.r2.elim fun _ r => r.asDots.big
end
end Go.Proofs.Ytjbakmmmgejhlaa

/-
  The statements' helper: alike.
-/
namespace Go.Proofs.Ytjbakmmmgejhlaa
open Go.RowKit

/-- What holds at the heads of alike's loops. -/
structure AlkAt (W0 : World) (K1 K bH bW bA bB : Nat) (A1 : Option Addr) (n1 c1 : Nat) (B2 : Option Addr) (m2 d2 : Nat) (Aa : Option Addr) (na ca : Nat) (Ba : Option Addr) (ma da : Nat) (Ab : Option Addr) (nb cb : Nat) (Bb : Option Addr) (mb db : Nat) (x y : Ctx) (wr : World) : Prop where
  below : Below W0.heap.size W0 wr
  h0 : wr.cell? ⟨bH, 0, none⟩ = some (.slice A1 n1 c1)
  w1 : wr.cell? ⟨bW, 1, none⟩ = some (.slice B2 m2 d2)
  r1 : ∃ l, Row wr W0.heap.size (.slice A1 n1 c1) l
  r2 : ∃ l, Row wr W0.heap.size (.slice B2 m2 d2) l
  o1 : ∀ k, (Value.slice A1 n1 c1).ownBlock = some k → k < K1
  o2 : ∀ k, (Value.slice B2 m2 d2).ownBlock = some k → K1 ≤ k ∧ k < K
  a0 : wr.cell? ⟨bA, 0, none⟩ = some (.slice Aa na ca)
  a1 : wr.cell? ⟨bA, 1, none⟩ = some (.slice Ba ma da)
  ra1 : Row wr K (.slice Aa na ca) x.1
  ra2 : Row wr K (.slice Ba ma da) x.2
  b0 : wr.cell? ⟨bB, 0, none⟩ = some (.slice Ab nb cb)
  b1 : wr.cell? ⟨bB, 1, none⟩ = some (.slice Bb mb db)
  rb1 : Row wr K (.slice Ab nb cb) y.1
  rb2 : Row wr K (.slice Bb mb db) y.2
  kk : K1 ≤ K
  kH : K ≤ bH
  kW : K ≤ bW
  kA : K ≤ bA
  kB : K ≤ bB
section
variable {W0 wr : World} {K1 K bH bW bA bB : Nat} {A1 : Option Addr} {n1 c1 : Nat} {B2 : Option Addr} {m2 d2 : Nat} {Aa : Option Addr} {na ca : Nat} {Ba : Option Addr} {ma da : Nat} {Ab : Option Addr} {nb cb : Nat} {Bb : Option Addr} {mb db : Nat} {x y : Ctx} {i : Nat}
theorem AlkAt.store (h : AlkAt W0 K1 K bH bW bA bB A1 n1 c1 B2 m2 d2 Aa na ca Ba ma da Ab nb cb Bb mb db x y wr) {g o : Nat} {z : Int} (hg : g < K) (hB : W0.heap.size ≤ g) (r1 : ∃ l, Row (wr.setCell ⟨g, o, none⟩ (.int .i64 z)) W0.heap.size (.slice A1 n1 c1) l) (r2 : ∃ l, Row (wr.setCell ⟨g, o, none⟩ (.int .i64 z)) W0.heap.size (.slice B2 m2 d2) l) :
    AlkAt W0 K1 K bH bW bA bB A1 n1 c1 B2 m2 d2 Aa na ca Ba ma da Ab nb cb Bb mb db x y (wr.setCell ⟨g, o, none⟩ (.int .i64 z)) := by
  have ne : ∀ {b : Nat} (o' : Nat), K ≤ b → (⟨g, o, none⟩ : Addr) ≠ ⟨b, o', none⟩ := fun {b} o' hb e => by
    have := congrArg Addr.block e
    have : g = b := this
    omega
  have rw_ : ∀ {v : Value} {l : List Dot}, Row wr K v l → Row (wr.setCell ⟨g, o, none⟩ (.int .i64 z)) K v l := fun hr => Row.set_ hr (fun k hk e => by
    have := Row.own _ hr k hk
    have e : k = g := e
    omega) _
  exact ⟨h.below.setCell (p := ⟨g, o, none⟩) hB _, cell_far (ne _ h.kH) h.h0, cell_far (ne _ h.kW) h.w1, r1, r2, h.o1, h.o2, cell_far (ne _ h.kA) h.a0, cell_far (ne _ h.kA) h.a1, rw_ h.ra1, rw_ h.ra2, cell_far (ne _ h.kB) h.b0, cell_far (ne _ h.kB) h.b1, rw_ h.rb1, rw_ h.rb2, h.kk, h.kH, h.kW, h.kA, h.kB⟩
theorem AlkAt.first (h : AlkAt W0 K1 K bH bW bA bB A1 n1 c1 B2 m2 d2 Aa na ca Ba ma da Ab nb cb Bb mb db x y wr) (hi : i < n1) : ∃ g y', A1 = some ⟨g, 0, none⟩ ∧ wr.cell? ⟨g, i * 2 + 1, none⟩ = some (.int .i64 y') ∧ wr.frozen? ⟨g, i * 2 + 1, none⟩ = false ∧
    ∀ z, AlkAt W0 K1 K bH bW bA bB A1 n1 c1 B2 m2 d2 Aa na ca Ba ma da Ab nb cb Bb mb db x y (wr.setCell ⟨g, i * 2 + 1, none⟩ (.int .i64 z)) := by
  obtain ⟨l, r⟩ := h.r1
  obtain ⟨g, y', e, hb, hg, k1, k2, k3⟩ := r.count hi
  have hgk := h.o1 g (by rw [e]; rfl)
  refine ⟨g, y', e, k1, k2, fun z => h.store (by have := h.kk; omega) hb (k3 z) ?_⟩
  obtain ⟨l2, r2⟩ := h.r2
  exact ⟨l2, Row.set_ r2 (fun k hk e2 => by
    have := (h.o2 k hk).1
    have e2 : k = g := e2
    omega) _⟩
theorem AlkAt.second (h : AlkAt W0 K1 K bH bW bA bB A1 n1 c1 B2 m2 d2 Aa na ca Ba ma da Ab nb cb Bb mb db x y wr) (hi : i < m2) : ∃ g y', B2 = some ⟨g, 0, none⟩ ∧ wr.cell? ⟨g, i * 2 + 1, none⟩ = some (.int .i64 y') ∧ wr.frozen? ⟨g, i * 2 + 1, none⟩ = false ∧
    ∀ z, AlkAt W0 K1 K bH bW bA bB A1 n1 c1 B2 m2 d2 Aa na ca Ba ma da Ab nb cb Bb mb db x y (wr.setCell ⟨g, i * 2 + 1, none⟩ (.int .i64 z)) := by
  obtain ⟨l, r⟩ := h.r2
  obtain ⟨g, y', e, hb, hg, k1, k2, k3⟩ := r.count hi
  have hgk := h.o2 g (by rw [e]; rfl)
  refine ⟨g, y', e, k1, k2, fun z => h.store hgk.2 hb ?_ (k3 z)⟩
  obtain ⟨l2, r2⟩ := h.r1
  exact ⟨l2, Row.set_ r2 (fun k hk e2 => by
    have := h.o1 k hk
    have e2 : k = g := e2
    omega) _⟩
theorem AlkAt.mono (h : AlkAt W0 K1 K bH bW bA bB A1 n1 c1 B2 m2 d2 Aa na ca Ba ma da Ab nb cb Bb mb db x y wr) {w' : World} (b : Below wr.heap.size wr w') : AlkAt W0 K1 K bH bW bA bB A1 n1 c1 B2 m2 d2 Aa na ca Ba ma da Ab nb cb Bb mb db x y w' :=
  ⟨h.below.le b, cellKeep b h.h0, cellKeep b h.w1, h.r1.imp fun _ r => r.mono b, h.r2.imp fun _ r => r.mono b, h.o1, h.o2, cellKeep b h.a0, cellKeep b h.a1, h.ra1.mono b, h.ra2.mono b, cellKeep b h.b0, cellKeep b h.b1, h.rb1.mono b, h.rb2.mono b, h.kk, h.kH, h.kW, h.kA, h.kB⟩
theorem AlkAt.len1 (h : AlkAt W0 K1 K bH bW bA bB A1 n1 c1 B2 m2 d2 Aa na ca Ba ma da Ab nb cb Bb mb db x y wr) : n1 ≤ 9223372036854775807 := h.r1.elim fun _ r => r.asDots.big
theorem AlkAt.len2 (h : AlkAt W0 K1 K bH bW bA bB A1 n1 c1 B2 m2 d2 Aa na ca Ba ma da Ab nb cb Bb mb db x y wr) : m2 ≤ 9223372036854775807 := h.r2.elim fun _ r => r.asDots.big
theorem AlkAt.boxA (h : AlkAt W0 K1 K bH bW bA bB A1 n1 c1 B2 m2 d2 Aa na ca Ba ma da Ab nb cb Bb mb db x y wr) : Boxed bA Aa Ba na ca ma da x wr := ⟨h.a0, h.a1, h.ra1.asDots, h.ra2.asDots⟩
theorem AlkAt.boxB (h : AlkAt W0 K1 K bH bW bA bB A1 n1 c1 B2 m2 d2 Aa na ca Ba ma da Ab nb cb Bb mb db x y wr) : Boxed bB Ab Bb nb cb mb db y wr := ⟨h.b0, h.b1, h.rb1.asDots, h.rb2.asDots⟩
def AlkRel (W0 : World) (K1 K bH bW bA bB : Nat) (A1 : Option Addr) (n1 c1 : Nat) (B2 : Option Addr) (m2 d2 : Nat) (Aa : Option Addr) (na ca : Nat) (Ba : Option Addr) (ma da : Nat) (Ab : Option Addr) (nb cb : Nat) (Bb : Option Addr) (mb db : Nat) (x y : Ctx) (lim : Nat) (i : Value) (wr : World) : Prop :=
  ∃ k : Nat, i = .int .i64 k ∧ k ≤ lim ∧ AlkAt W0 K1 K bH bW bA bB A1 n1 c1 B2 m2 d2 Aa na ca Ba ma da Ab nb cb Bb mb db x y wr
end
/-- What Of makes of the model's list. -/
theorem of_alike {a : Ctx} {l : List Dot} (ht : Tight a) (h : ∀ d, In a d ↔ d ∈ l) : addR ([], []) l = (a, 0) := by
  have hv : validL l = true := validL_of fun d hd => ((h d).2 hd).1
  unfold addR
  rw [if_pos (by rw [hv]; rfl)]
  obtain ⟨t, k⟩ := add_spec tight_nil.ok hv
  have : addC ([], []) l = a := tight_ext t ht fun d => by rw [k, h]; exact ⟨fun e => e.elim (fun e => absurd e in_nil) id, .inr⟩
  rw [this]
theorem iofM {C : Option Addr} {k ck : Nat} {l : List Dot} {a : Ctx} {w : World} (hl : Dots w C k ck l) (hs : l.length ≤ 100000) (ht : Tight a) (h : ∀ d, In a d ↔ d ∈ l) : Calls Try.prog 45 #[.slice C k ck] w (Ret w (IsPair (IsConA w.heap.size a) 0)) := by
  have := iofR C k ck l w hl (by have := hl.len; unfold Small; omega)
  rw [of_alike ht h] at this
  exact this
theorem hasL {N : Nat} {s : St} {w w0 : World} {u : Value} (hs : SessOk N s w0) (ok : OkS s) (hb : Below w0.heap.size w0 w) (hu : Is (.pointer (some ⟨N, 0, none⟩)) w u) : Calls Try.prog 21 #[u] w (Ret w (IsCon s.1)) := by
  cases hu
  exact (sHas N s.1 s.2 w (hs.mono hb) ok.l1).mono fun _ _ ⟨v, e, b, h⟩ => ⟨v, e, b, h.con⟩
theorem wroteL {N : Nat} {s : St} {w w0 : World} {u : Value} (hs : SessOk N s w0) (ok : OkS s) (hb : Below w0.heap.size w0 w) (hu : Is (.pointer (some ⟨N, 0, none⟩)) w u) : Calls Try.prog 22 #[u] w (Ret w (IsCon s.2)) := by
  cases hu
  exact (sWrote N s.1 s.2 w (hs.mono hb) ok.l2).mono fun _ _ ⟨v, e, b, h⟩ => ⟨v, e, b, h.con⟩
set_option maxRecDepth 100000 in
set_option maxHeartbeats 8000000 in
theorem salike (N M : Nat) (A B : Option Addr) (n ca m cb : Nat) (s : St) (mo : Mo) (p : Ctx) (w : World) (hs : SessOk N s w) (ok : OkS s) (hm : ModAt M mo w) (al : AlikeS s mo) (l1 : mo.1.length ≤ 100000) (l2 : mo.2.length ≤ 100000) (hp : Con w A n ca B m cb p) (lp : p.1.length + p.2.length ≤ 1000) :
    Calls Try.prog 27 #[.pointer (some ⟨N, 0, none⟩), .pointer (some ⟨M, 0, none⟩), .agg #[.slice A n ca, .slice B m cb]] w (Ret w (IsB true)) := by
  obtain ⟨W0, hW0⟩ : ∃ W0, W0 = w.alloc (conBox A n ca B m cb) := ⟨_, rfl⟩
  have hb0 : Below w.heap.size w W0 := by rw [hW0]; go_grown
  have bp : Boxed w.heap.size A B n ca m cb p W0 := by rw [hW0]; exact Boxed.new hp
  have DEF := Lib.hid hW0; have HB := Lib.hid hb0; have BP := Lib.hid bp; have SS := Lib.hid (hs.mono hb0); have OK := Lib.hid ok; have MM := Lib.hid (hm.mono hb0); have AL := Lib.hid al; have L1 := Lib.hid l1; have L2 := Lib.hid l2; have LP := Lib.hid lp
  clear hW0 hb0 bp hs ok hm al l1 l2 hp lp
  go_enter Try.func27, Try.ntmps27
  go_wp2_with fail
  rw [← DEF.out]
  refine (sHas N s.1 s.2 W0 SS.out OK.out.l1).mono ?_
  rintro _ w1 ⟨_, rfl, hb1, A1, n1, c1, B1, m1, d1, rfl, hc1, r1, r1'⟩
  have HB1 := Lib.hid hb1; have C1 := Lib.hid hc1; have R1 := Lib.hid r1
  clear hb1 hc1 r1 r1' DEF
  go_wp2_with fail
  refine (sWrote N s.1 s.2 w1 (SS.out.mono HB1.out) OK.out.l2).mono ?_
  rintro _ w2 ⟨_, rfl, hb2, A2, n2, c2, B2, m2, d2, rfl, hc2, r2', r2⟩
  have HB2 := Lib.hid (HB1.out.le hb2); have C12 := Lib.hid (C1.out.mono hb2); have C2 := Lib.hid hc2; have R12 := Lib.hid (R1.out.mono hb2); have R2 := Lib.hid r2
  have O1 := Lib.hid (show ∀ k, (Value.slice A1 n1 c1).ownBlock = some k → k < w1.heap.size from fun k hk => (World.ownsRow.lt R1.out k hk).2)
  have O2 := Lib.hid (show ∀ k, (Value.slice B2 m2 d2).ownBlock = some k → w1.heap.size ≤ k ∧ k < w2.heap.size from fun k hk => World.ownsRow.lt r2 k hk)
  have KK := Lib.hid hb2.size
  have K0 := Lib.hid HB1.out.size
  clear hb2 hc2 r2 r2' HB1 C1 R1
  obtain ⟨Wa, hWa⟩ : ∃ Wa, Wa = (w2.alloc (conBox A1 n1 c1 B1 m1 d1)).alloc (conBox A2 n2 c2 B2 m2 d2) := ⟨_, rfl⟩
  have hba : Below w2.heap.size w2 Wa := by rw [hWa]; go_grown
  have bh : Boxed w2.heap.size A1 B1 n1 c1 m1 d1 s.1 Wa := ⟨by rw [hWa]; simp [go_sem], by rw [hWa]; simp [go_sem], C12.out.mono hba⟩
  have bw : Boxed (w2.heap.size + 1) A2 B2 n2 c2 m2 d2 s.2 Wa := ⟨by rw [hWa]; simp [go_sem], by rw [hWa]; simp [go_sem], C2.out.mono hba⟩
  have DEFA := Lib.hid hWa; have HBA := Lib.hid (HB2.out.le hba); have BH := Lib.hid bh; have BW := Lib.hid bw; have RA1 := Lib.hid (R12.out.mono hba); have RA2 := Lib.hid (R2.out.mono hba); have KA := Lib.hid hba.size
  have MA := MM.out.mono HBA.out
  obtain ⟨X1, x1, y1, X2, x2, y2, q0, q1, qd0, qd1, _, _⟩ := MA
  have QD0 := Lib.hid qd0; have QD1 := Lib.hid qd1; have Q0 := Lib.hid q0; have Q1 := Lib.hid q1
  rw [hWa] at q0 q1
  clear hba bh bw hWa qd0 qd1 C12 C2 R12 R2 HB2
  go_wp2_with fail
  rw [← DEFA.out]
  refine (iofM QD0.out L1.out AL.out.t1 AL.out.e1).mono ?_
  rintro _ w3 ⟨_, rfl, hb3, _, rfl, Aa, na, ca', Ba, ma, da, rfl, ra1, ra2, _⟩
  have HB3 := Lib.hid (HBA.out.le hb3); have BH3 := Lib.hid (BH.out.mono hb3); have BW3 := Lib.hid (BW.out.mono hb3); have RH3 := Lib.hid (RA1.out.mono hb3); have RW3 := Lib.hid (RA2.out.mono hb3); have K3 := Lib.hid (Nat.le_trans KA.out hb3.size)
  have A13 := Lib.hid ra1; have A23 := Lib.hid ra2
  have QD13 := Lib.hid (QD1.out.mono hb3)
  have q1 := cellKeep hb3 Q1.out
  clear hb3 ra1 ra2 QD0 QD1 Q0 q0 BH BW RA1 RA2 HBA DEFA
  obtain ⟨W3, hW3⟩ : ∃ W3, W3 = w3.alloc (conBox Aa na ca' Ba ma da) := ⟨_, rfl⟩
  have hb3 : Below w3.heap.size w3 W3 := by rw [hW3]; go_grown
  have z0 : W3.cell? ⟨w3.heap.size, 0, none⟩ = some (.slice Aa na ca') := by rw [hW3]; simp [go_sem]
  have z1 : W3.cell? ⟨w3.heap.size, 1, none⟩ = some (.slice Ba ma da) := by rw [hW3]; simp [go_sem]
  have HBW3 := Lib.hid (HB3.out.le hb3); have BH4 := Lib.hid (BH3.out.mono hb3); have BW4 := Lib.hid (BW3.out.mono hb3); have RH4 := Lib.hid (RH3.out.mono hb3); have RW4 := Lib.hid (RW3.out.mono hb3)
  have A14 := Lib.hid (A13.out.mono hb3); have A24 := Lib.hid (A23.out.mono hb3); have Z0 := Lib.hid z0; have Z1 := Lib.hid z1
  have QD14 := Lib.hid (QD13.out.mono hb3); have DEF3 := Lib.hid hW3; have K4 := Lib.hid (Nat.le_trans K3.out hb3.size)
  have q2 := cellKeep hb3 q1
  rw [hW3] at q2
  clear q1
  clear hb3 z0 z1 hW3 HB3 BH3 BW3 RH3 RW3 A13 A23 QD13
  go_wp2_with fail
  rw [← DEF3.out]
  refine (iofM QD14.out L2.out AL.out.t2 AL.out.e2).mono ?_
  rintro _ w5 ⟨_, rfl, hb5, _, rfl, Ab, nb, cb', Bb, mb, db, rfl, rb1, rb2, _⟩
  obtain ⟨W5, hW5⟩ : ∃ W5, W5 = w5.alloc (conBox Ab nb cb' Bb mb db) := ⟨_, rfl⟩
  have hb6 : Below w5.heap.size w5 W5 := by rw [hW5]; go_grown
  have hb56 := hb5.le hb6
  have at5 : AlkAt W0 w1.heap.size w2.heap.size w2.heap.size (w2.heap.size + 1) w3.heap.size w5.heap.size A1 n1 c1 B2 m2 d2 Aa na ca' Ba ma da Ab nb cb' Bb mb db s.1 s.2 W5 :=
    ⟨HBW3.out.le hb56, (BH4.out.mono hb56).c0, (BW4.out.mono hb56).c1, ⟨_, RH4.out.mono hb56⟩, ⟨_, Row.low (RW4.out.mono hb56) K0.out⟩, O1.out, O2.out, cellKeep hb56 Z0.out, cellKeep hb56 Z1.out, Row.low (A14.out.mono hb56) KA.out, Row.low (A24.out.mono hb56) KA.out, by rw [hW5]; simp [go_sem], by rw [hW5]; simp [go_sem], Row.low (rb1.mono hb6) K4.out, Row.low (rb2.mono hb6) K4.out, KK.out, Nat.le_refl _, by omega, K3.out, Nat.le_trans K4.out hb5.size⟩
  have AT := Lib.hid at5; have DEF5 := Lib.hid hW5
  have BH6 := Lib.hid (BH4.out.mono hb56); have BW6 := Lib.hid (BW4.out.mono hb56)
  clear at5 hW5 hb56 hb6 hb5 rb1 rb2 q2 QD14 A14 A24 RH4 RW4 BH4 BW4 HBW3 K4 K3 Z0 Z1 DEF3 O1 O2
  have x0 := BH6.out.c0; have x1 := BH6.out.c1; have x2 := AT.out.a0; have x3 := AT.out.a1
  have x4 := BW6.out.c0; have x5 := BW6.out.c1; have x6 := AT.out.b0; have x7 := AT.out.b1
  rw [DEF5.out] at x0 x1 x2 x3 x4 x5 x6 x7
  go_wp2_with fail
  clear x0 x1 x2 x3 x4 x5 x6 x7
  rw [← DEF5.out]
  refine (ceqI BH6.out.is AT.out.boxA.is true (eqC_self s.1)).mono ?_
  rintro _ w7 ⟨_, rfl, hb7, rfl⟩
  have AT7 := Lib.hid (AT.out.mono hb7); have BW7 := Lib.hid (BW6.out.mono hb7)
  have x4 := BW7.out.c0; have x5 := BW7.out.c1; have x6 := AT7.out.b0; have x7 := AT7.out.b1
  clear hb7 AT BH6 BW6 DEF5
  go_wp2_with fail
  clear x4 x5 x6 x7
  refine (ceqI BW7.out.is AT7.out.boxB.is true (eqC_self s.2)).mono ?_
  rintro _ w8 ⟨_, rfl, hb8, rfl⟩
  have AT8 := Lib.hid (AT7.out.mono hb8)
  have ln1 := AT8.out.len1; have ln2 := AT8.out.len2
  clear hb8 AT7 BW7
  go_wp2
  generalize w1.heap.size = K1 at *
  generalize w3.heap.size = bA at *
  generalize w5.heap.size = bB at *
  generalize w2.heap.size + 1 = bW at *
  generalize w2.heap.size = K at *
  go_loopw [13] (fun i wr => AlkRel W0 K1 K K bW bA bB A1 n1 c1 B2 m2 d2 Aa na ca' Ba ma da Ab nb cb' Bb mb db s.1 s.2 n1 i wr) (fun i _ => n1 - (intOf i).toNat)
  case atStart => exact ⟨0, rfl, Nat.zero_le _, AT8.out⟩
  case round =>
    clear AT8
    obtain ⟨k, rfl, hk, hat⟩ := hrel
    have AT := Lib.hid hat
    by_cases hlt : k < n1
    · obtain ⟨g, y', rfl, k1, k2, st⟩ := hat.first hlt
      have ST := Lib.hid st
      have h0 := hat.h0
      clear hat st
      go_wp2
      go_roundw
      case rel => exact ⟨k + 1, by simp, hlt, ST.out _⟩
      case measure => simp [intOf]; omega
    · have h0 := hat.h0
      clear hat
      go_wp2
      clear h0
      go_loopw [14] (fun i wr => AlkRel W0 K1 K K bW bA bB A1 n1 c1 B2 m2 d2 Aa na ca' Ba ma da Ab nb cb' Bb mb db s.1 s.2 m2 i wr) (fun i _ => m2 - (intOf i).toNat)
      case atStart => exact ⟨0, rfl, Nat.zero_le _, AT.out⟩
      case round =>
        clear AT
        obtain ⟨k', rfl, hk', hat⟩ := hrel
        have AT := Lib.hid hat
        by_cases hlt' : k' < m2
        · obtain ⟨g, y', rfl, k1, k2, st⟩ := hat.second hlt'
          have ST := Lib.hid st
          have h0 := hat.w1
          clear hat st
          go_wp2
          go_roundw
          case rel => exact ⟨k' + 1, by simp, hlt', ST.out _⟩
          case measure => simp [intOf]; omega
        · have h0 := hat.w1
          have SS1 := Lib.hid (SS.out.mono hat.below); have MM1 := Lib.hid (MM.out.mono hat.below); have BP1 := Lib.hid (BP.out.mono hat.below); have HBr := Lib.hid (HB.out.le hat.below)
          clear hat
          go_wp2_with fail
          clear h0
          refine wp_region_M mixed (by kernel_rfl) ?_
          refine MDerR.step (Ob.move Wanted.free Has.oldIs) ?_
          refine MDerR.step (Ob.call1 Wanted.free entSHas (Has.new 0 0) (fun w1 u hb1 (hu : Is (.pointer (some ⟨N, 0, none⟩)) w1 u) => hasL SS1.out OK.out hb1 hu)) ?_
          refine MDerR.step (Ob.load (F := IsCon s.1) Wanted.free Has.oldIs (fun w1 v hb1 hv => AT.out.boxA.loadI hb1 hv)) ?_
          refine MDerR.step (Ob.call2 Wanted.free entCeq (Has.new 1 1) (Has.new 2 0) (fun w1 u v hb1 (hu : IsCon s.1 w1 u) (hv : IsCon s.1 w1 v) => ceqI hu hv true (eqC_self s.1))) ?_
          refine MDerR.step (Ob.not Wanted.free (Has.new 3 0)) ?_
          refine MDerR.step (Ob.move Wanted.free (Has.new 4 0)) ?_
          refine MDerR.step (Ob.move (Wanted.on 5 0) Has.oldIs) ?_
          refine MDerR.step (Ob.call1 (Wanted.on 5 1) entWrote (Has.new 6 0) (fun w1 u hb1 (hu : Is (.pointer (some ⟨N, 0, none⟩)) w1 u) => wroteL SS1.out OK.out hb1 hu)) ?_
          refine MDerR.step (Ob.load (F := IsCon s.2) (Wanted.on 5 2) Has.oldIs (fun w1 v hb1 hv => AT.out.boxB.loadI hb1 hv)) ?_
          refine MDerR.step (Ob.call2 (Wanted.on 5 3) entCeq (Has.new 7 1) (Has.new 8 0) (fun w1 u v hb1 (hu : IsCon s.2 w1 u) (hv : IsCon s.2 w1 v) => ceqI hu hv true (eqC_self s.2))) ?_
          refine MDerR.step (Ob.not (Wanted.on 5 4) (Has.new 9 0)) ?_
          refine MDerR.step (Ob.pickF Wanted.free (Has.new 5 5) (Has.new 10 0)) ?_
          simp only [MDerR, dstsOf, List.map, EndM, List.reverse_cons, List.reverse_nil, List.nil_append, List.cons_append]
          intro wE hE
          iterate 1 (rintro _ rfl)
          rintro _ _h1
          rintro _ _h2
          iterate 4 (rintro _ rfl)
          rintro _ _h7
          rintro _ _h8
          iterate 3 (rintro _ rfl)
          simp only [Act.put, List.setIfInBounds_toArray, List.set_cons_zero, List.set_cons_succ]
          have SS2 := Lib.hid (SS1.out.mono hE); have MM2 := Lib.hid (MM1.out.mono hE); have BP2 := Lib.hid (BP1.out.mono hE); have HB2 := Lib.hid (HBr.out.le hE)
          clear hE _h1 _h2 _h7 _h8 SS1 MM1 BP1 HBr AT SS MM BP HB
          generalize wE = w9 at *
          have x0 := BP2.out.c0; have x1 := BP2.out.c1
          cases hvp : validC p with
          | false =>
            have HVP := Lib.hid hvp
            clear hvp
            go_wp2_with fail
            refine (cvalidI BP2.out.is false HVP.out).mono ?_
            rintro _ wa ⟨_, rfl, hba, rfl⟩
            have BP3 := Lib.hid (BP2.out.mono hba); have HB3 := Lib.hid (HB2.out.le hba)
            clear x0 x1 hba BP2 HB2
            have x0 := BP3.out.c0; have x1 := BP3.out.c1
            go_wp2_with fail
            refine (krefusedS BP3.out.con HVP.out).mono ?_
            rintro _ wb ⟨_, rfl, hbb, rfl⟩
            have HB4 := Lib.hid (HB3.out.le hbb)
            clear hbb x0 x1
            go_wp2
            go_ret
            exact retB rfl HB4.out
          | true =>
            have HVP := Lib.hid hvp
            clear hvp
            have OKP := ok_iff.1 HVP.out
            have W1 := Lib.hid (win_all AL.out.t1.ok OKP AL.out.e1 6); have W2 := Lib.hid (win_all AL.out.t2.ok OKP AL.out.e2 9)
            clear OKP
            obtain ⟨b1, hb1⟩ : ∃ b1, mo.2.all (hasC p) = b1 := ⟨_, rfl⟩
            obtain ⟨b2, hb2⟩ : ∃ b2, mo.1.all (hasC p) = b2 := ⟨_, rfl⟩
            rw [hb2] at W1
            rw [hb1] at W2
            have H1 := Lib.hid hb1; have H2 := Lib.hid hb2
            clear hb1 hb2
            go_wp2_with fail
            refine (cvalidI BP2.out.is true HVP.out).mono ?_
            rintro _ wa ⟨_, rfl, hba, rfl⟩
            have BP3 := Lib.hid (BP2.out.mono hba); have HB3 := Lib.hid (HB2.out.le hba); have SS3 := Lib.hid (SS2.out.mono hba); have MM3 := Lib.hid (MM2.out.mono hba)
            clear x0 x1 hba BP2 HB2 SS2 MM2
            obtain ⟨X1, x1, y1, X2, x2, y2, q0, q1, qd0, qd1, _, _⟩ := MM3.out
            have QD0 := Lib.hid qd0; have QD1 := Lib.hid qd1; have Q0 := Lib.hid q0; have Q1 := Lib.hid q1
            clear q0 q1 qd0 qd1
            go_wp2_with fail
            refine wp_region_M mixed (by kernel_rfl) ?_
            refine MDerR.step (Ob.move Wanted.free Has.oldIs) ?_
            refine MDerR.step (Ob.nilV Wanted.free (Has.new 0 0)) ?_
            refine MDerR.step (Ob.fieldV Wanted.free (Has.new 1 0) (fun w1 => field_mod1)) ?_
            refine MDerR.step (Ob.loadV Wanted.free (Has.new 2 0) (fun w1 hb1 => load_sl hb1 Q1.out)) ?_
            refine MDerR.step (Ob.load (F := IsCon p) Wanted.free Has.oldIs (fun w1 v hb1 hv => BP3.out.loadI hb1 hv)) ?_
            refine MDerR.step (Ob.call2 Wanted.free entWithinL (Has.new 3 1) (Has.new 4 0) (fun w1 u v hb1 (hu : Is (.slice X2 x2 y2) w1 u) (hv : IsCon p w1 v) => withinL hu QD1.out hb1 hv b1 H1.out)) ?_
            simp only [MDerR, dstsOf, List.map, EndM, List.reverse_cons, List.reverse_nil, List.nil_append, List.cons_append]
            intro wE hE
            iterate 4 (rintro _ rfl)
            rintro _ _h4
            iterate 1 (rintro _ rfl)
            simp only [Act.put, List.setIfInBounds_toArray, List.set_cons_zero, List.set_cons_succ]
            have BP4 := Lib.hid (BP3.out.mono hE); have HB4 := Lib.hid (HB3.out.le hE); have SS4 := Lib.hid (SS3.out.mono hE)
            have Q04 := Lib.hid (cellKeep hE Q0.out); have QD04 := Lib.hid (QD0.out.mono hE)
            clear hE _h4 BP3 HB3 SS3 MM3 Q0 Q1 QD0 QD1
            generalize wE = w10 at *
            cases b1
            · skip
              go_wp2_with fail
              refine wp_region_M mixed (by kernel_rfl) ?_
              refine MDerR.step (Ob.move Wanted.free Has.oldIs) ?_
              refine MDerR.step (Ob.nilV Wanted.free (Has.new 0 0)) ?_
              refine MDerR.step (Ob.fieldV Wanted.free (Has.new 1 0) (fun w1 => field_mod0)) ?_
              refine MDerR.step (Ob.loadV Wanted.free (Has.new 2 0) (fun w1 hb1 => load_sl hb1 Q04.out)) ?_
              refine MDerR.step (Ob.load (F := IsCon p) Wanted.free Has.oldIs (fun w1 v hb1 hv => BP4.out.loadI hb1 hv)) ?_
              refine MDerR.step (Ob.call2 Wanted.free entWithinL (Has.new 3 1) (Has.new 4 0) (fun w1 u v hb1 (hu : Is (.slice X1 x1 y1) w1 u) (hv : IsCon p w1 v) => withinL hu QD04.out hb1 hv b2 H2.out)) ?_
              simp only [MDerR, dstsOf, List.map, EndM, List.reverse_cons, List.reverse_nil, List.nil_append, List.cons_append]
              intro wE hE
              iterate 4 (rintro _ rfl)
              rintro _ _h4
              iterate 1 (rintro _ rfl)
              simp only [Act.put, List.setIfInBounds_toArray, List.set_cons_zero, List.set_cons_succ]
              have BP5 := Lib.hid (BP4.out.mono hE); have HB5 := Lib.hid (HB4.out.le hE); have SS5 := Lib.hid (SS4.out.mono hE)
              clear hE _h4
              generalize wE = w11 at *
              have x0 := BP5.out.c0; have x1 := BP5.out.c1
              cases b2
              · skip
                go_wp2_with fail
                refine (ksafe SS5.out OK.out BP5.out.con LP.out HVP.out _ (by rw [W1.out, W2.out]; rfl)).mono ?_
                rintro _ wb ⟨_, rfl, hbb, rfl⟩
                have HB6 := Lib.hid (HB5.out.le hbb)
                clear hbb x0 x1
                go_wp2
                go_ret
                exact retB rfl HB6.out
              · skip
                go_wp2_with fail
                refine (ksafe SS5.out OK.out BP5.out.con LP.out HVP.out _ (by rw [W1.out, W2.out]; rfl)).mono ?_
                rintro _ wb ⟨_, rfl, hbb, rfl⟩
                have HB6 := Lib.hid (HB5.out.le hbb)
                clear hbb x0 x1
                go_wp2
                go_ret
                exact retB rfl HB6.out
            · skip
              go_wp2_with fail
              refine wp_region_M mixed (by kernel_rfl) ?_
              refine MDerR.step (Ob.move Wanted.free Has.oldIs) ?_
              refine MDerR.step (Ob.nilV Wanted.free (Has.new 0 0)) ?_
              refine MDerR.step (Ob.fieldV Wanted.free (Has.new 1 0) (fun w1 => field_mod0)) ?_
              refine MDerR.step (Ob.loadV Wanted.free (Has.new 2 0) (fun w1 hb1 => load_sl hb1 Q04.out)) ?_
              refine MDerR.step (Ob.load (F := IsCon p) Wanted.free Has.oldIs (fun w1 v hb1 hv => BP4.out.loadI hb1 hv)) ?_
              refine MDerR.step (Ob.call2 Wanted.free entWithinL (Has.new 3 1) (Has.new 4 0) (fun w1 u v hb1 (hu : Is (.slice X1 x1 y1) w1 u) (hv : IsCon p w1 v) => withinL hu QD04.out hb1 hv b2 H2.out)) ?_
              simp only [MDerR, dstsOf, List.map, EndM, List.reverse_cons, List.reverse_nil, List.nil_append, List.cons_append]
              intro wE hE
              iterate 4 (rintro _ rfl)
              rintro _ _h4
              iterate 1 (rintro _ rfl)
              simp only [Act.put, List.setIfInBounds_toArray, List.set_cons_zero, List.set_cons_succ]
              have BP5 := Lib.hid (BP4.out.mono hE); have HB5 := Lib.hid (HB4.out.le hE); have SS5 := Lib.hid (SS4.out.mono hE)
              clear hE _h4
              generalize wE = w11 at *
              have x0 := BP5.out.c0; have x1 := BP5.out.c1
              cases b2
              · skip
                go_wp2_with fail
                refine (ksafe SS5.out OK.out BP5.out.con LP.out HVP.out _ (by rw [W1.out, W2.out]; rfl)).mono ?_
                rintro _ wb ⟨_, rfl, hbb, rfl⟩
                have HB6 := Lib.hid (HB5.out.le hbb)
                clear hbb x0 x1
                go_wp2
                go_ret
                exact retB rfl HB6.out
              · skip
                go_wp2_with fail
                refine (ksafe SS5.out OK.out BP5.out.con LP.out HVP.out _ (by rw [W1.out, W2.out]; rfl)).mono ?_
                rintro _ wb ⟨_, rfl, hbb, rfl⟩
                have HB6 := Lib.hid (HB5.out.le hbb)
                clear hbb x0 x1
                go_wp2
                go_ret
                exact retB rfl HB6.out
theorem entAlike : Enters Try.prog 27 := enters_of Try.func27 (by kernel_rfl) rfl
end Go.Proofs.Ytjbakmmmgejhlaa

/-
  SessionPlays: for any visits, any number and any context, with no further condition, the law returns true, and its arguments read afterwards as they read before.
-/
namespace Go.Proofs.Ytjbakmmmgejhlaa
open Go.RowKit

/-- What the law has in memory. -/
structure PAt (w : World) (bP : Nat) (A B : Option Addr) (n ca m cb : Nat) (p : Ctx) (N M : Nat) (st : St) (mo : Mo) (wr : World) : Prop where
  hb : Below w.heap.size w wr
  bp : Boxed bP A B n ca m cb p wr
  ss : SessOk N st wr
  mm : ModAt M mo wr
  wN : w.heap.size ≤ N
  wM : w.heap.size ≤ M
  nm : N ≠ M
  pN : bP ≠ N
  pM : bP ≠ M
section
variable {w wr w' : World} {bP : Nat} {A B : Option Addr} {n ca m cb : Nat} {p : Ctx} {N M : Nat} {st st' : St} {mo mo' : Mo}
theorem PAt.mono (h : PAt w bP A B n ca m cb p N M st mo wr) (b : Below wr.heap.size wr w') : PAt w bP A B n ca m cb p N M st mo w' := ⟨h.hb.le b, h.bp.mono b, h.ss.mono b, h.mm.mono b, h.wN, h.wM, h.nm, h.pN, h.pM⟩
theorem PAt.sess (h : PAt w bP A B n ca m cb p N M st mo wr) (b : Hole N wr w') (hs : SessOk N st' w') : PAt w bP A B n ca m cb p N M st' mo w' :=
  ⟨h.hb.hole b h.wN h.hb.size, h.bp.hole h.ss.ni b h.pN, hs, h.mm.hole h.ss.ni b (fun e => h.nm e.symm), h.wN, h.wM, h.nm, h.pN, h.pM⟩
theorem PAt.model (h : PAt w bP A B n ca m cb p N M st mo wr) (b : Hole M wr w') (hm : ModAt M mo' w') : PAt w bP A B n ca m cb p N M st mo' w' :=
  ⟨h.hb.hole b h.wM h.hb.size, h.bp.hole h.mm.ni b h.pM, h.ss.hole h.mm.ni b h.nm, hm, h.wN, h.wM, h.nm, h.pN, h.pM⟩
/-- Another session takes its place. -/
theorem PAt.swap (h : PAt w bP A B n ca m cb p N M st mo wr) {N' : Nat} (hs : SessOk N' st' wr) (h1 : w.heap.size ≤ N') (h2 : N' ≠ M) (h3 : bP ≠ N') : PAt w bP A B n ca m cb p N' M st' mo wr := ⟨h.hb, h.bp, hs, h.mm, h1, h.wM, h2, h3, h.pM⟩
end
/-- How far it has come. -/
structure PSz (k : Nat) (st : St) (mo : Mo) : Prop where
  al : AlikeS st mo
  z1 : szC st.1 ≤ 24 * k
  z2 : szC st.2 ≤ 24 * k
  l1 : mo.1.length ≤ 732 * k
  l2 : mo.2.length ≤ k
theorem PSz.zero : PSz 0 st0 ([], []) := ⟨alike0, Nat.le_refl _, Nat.le_refl _, Nat.le_refl _, Nat.le_refl _⟩
theorem PSz.more {k : Nat} {st : St} {mo : Mo} (h : PSz k st mo) : PSz (k + 1) st mo := ⟨h.al, by have := h.z1; omega, by have := h.z2; omega, by have := h.l1; omega, by have := h.l2; omega⟩
theorem PSz.step {k : Nat} {st : St} {mo : Mo} {v : Vis} (h : PSz k st mo) (g : Good v) : PSz (k + 1) (stepS st v) (stepM mo v) := by
  have h1 := fold_szS [v] st (fun u hu => by rw [List.mem_singleton.1 hu]; exact g)
  have h2 := fold_mlen [v] mo (fun u hu => by rw [List.mem_singleton.1 hu]; exact g)
  simp only [List.foldl_cons, List.foldl_nil, List.length_cons, List.length_nil] at h1 h2
  have a1 := h.z1; have a2 := h.z2; have a3 := h.l1; have a4 := h.l2
  exact ⟨h.al.step g, by omega, by omega, by omega, by omega⟩
theorem PSz.okS {k : Nat} {st : St} {mo : Mo} (h : PSz k st mo) (hk : k ≤ 21) : OkS st := h.al.okS (by have := h.z1; omega) (by have := h.z2; omega)
def PRel (w : World) (bP : Nat) (A B : Option Addr) (n ca m cb : Nat) (p : Ctx) (M lim : Nat) (u i : Value) (wr : World) : Prop :=
  ∃ (k N : Nat) (st : St) (mo : Mo), i = .int .i64 k ∧ k ≤ lim ∧ u = .pointer (some ⟨N, 0, none⟩) ∧ PAt w bP A B n ca m cb p N M st mo wr ∧ PSz k st mo
set_option maxRecDepth 100000 in
set_option maxHeartbeats 16000000 in
theorem lawPlays (C : Option Addr) (n c : Nat) (l : List Vis) (at_ : Int) (A B : Option Addr) (n1 ca m1 cb : Nat) (p : Ctx) (w : World) (h : Visits w C n c l) (hp : Con w A n1 ca B m1 cb p) (hat : 0 ≤ at_ ∧ at_ ≤ 255) :
    Calls Try.prog 7 #[.slice C n c, .int .u8 at_, .agg #[.slice A n1 ca, .slice B m1 cb]] w (Ret w (IsB true)) := by
  have hbig := h.big
  obtain ⟨W0, hW0⟩ : ∃ W0, W0 = w.alloc (conBox A n1 ca B m1 cb) := ⟨_, rfl⟩
  have hb0 : Below w.heap.size w W0 := by rw [hW0]; go_grown
  have bp : Boxed w.heap.size A B n1 ca m1 cb p W0 := by rw [hW0]; exact Boxed.new hp
  have hz0 : W0.heap.size = w.heap.size + 1 := by rw [hW0]; simp
  have DEF := Lib.hid hW0; have HB := Lib.hid hb0; have BP := Lib.hid bp; have H := Lib.hid h; have HZ := Lib.hid hz0; have HAT := Lib.hid hat
  have x0 := bp.c0; have x1 := bp.c1
  rw [hW0] at x0 x1
  clear hW0 hb0 bp hp h hz0 hat
  by_cases hn : 20 < n
  · have hd : decide ((20 : Int) < (n : Int)) = true := decide_eq_true (by omega)
    have HBK := Lib.hid HB.out
    go_enter Try.func7, Try.ntmps7
    go_wp2_with fail
    rw [← DEF.out]
    refine (known43 _).mono ?_
    rintro _ wK ⟨_, rfl, hbK, rfl⟩
    have HBK2 := Lib.hid (HBK.out.le hbK)
    clear hbK
    go_wp2
    go_ret
    exact retB rfl HBK2.out
  have hd : decide ((20 : Int) < (n : Int)) = false := decide_eq_false (by omega)
  have HN := Lib.hid (show n ≤ 20 by omega)
  clear hn
  cases hsp : smallB p with
  | false =>
    have HSP := Lib.hid hsp
    clear hsp
    go_enter Try.func7, Try.ntmps7
    go_wp2_with fail
    rw [← DEF.out]
    refine (smallI BP.out.is false HSP.out).mono ?_
    rintro _ w1 ⟨_, rfl, hb1, rfl⟩
    have HBK := Lib.hid (HB.out.le hb1)
    clear hb1 x0 x1
    go_wp2_with fail
    refine (known43 _).mono ?_
    rintro _ wK ⟨_, rfl, hbK, rfl⟩
    have HBK2 := Lib.hid (HBK.out.le hbK)
    clear hbK
    go_wp2
    go_ret
    exact retB rfl HBK2.out
  | true =>
    have HSP := Lib.hid hsp
    have LP := Lib.hid (show p.1.length + p.2.length ≤ 1000 by obtain ⟨h1, h2, _⟩ := small_iff hsp; omega)
    clear hsp
    go_enter Try.func7, Try.ntmps7
    go_wp2_with fail
    rw [← DEF.out]
    refine (smallI BP.out.is true HSP.out).mono ?_
    rintro _ w1 ⟨_, rfl, hb1, rfl⟩
    have BP1 := Lib.hid (BP.out.mono hb1); have HB1 := Lib.hid (HB.out.le hb1)
    have hz1 := hb1.size
    have Z1 := Lib.hid (show w.heap.size + 1 ≤ w1.heap.size by rw [← HZ.out]; exact hz1)
    clear hb1 x0 x1 hz1 DEF HB BP
    obtain ⟨W2, hW2⟩ : ∃ W2, W2 = (w1.alloc (.cells #[.slice none 0 0, .slice none 0 0, .slice none 0 0, .slice none 0 0] 46)).alloc (.cells #[.slice none 0 0, .slice none 0 0] 38) := ⟨_, rfl⟩
    have hb2 : Below w1.heap.size w1 W2 := by rw [hW2]; go_grown
    have hb2' : Below (w1.alloc (.cells #[.slice none 0 0, .slice none 0 0, .slice none 0 0, .slice none 0 0] 46)).heap.size (w1.alloc (.cells #[.slice none 0 0, .slice none 0 0, .slice none 0 0, .slice none 0 0] 46)) W2 := by rw [hW2]; exact (Below.refl _ _).alloc (Nat.le_refl _) _
    have hzz : (w1.alloc (.cells #[.slice none 0 0, .slice none 0 0, .slice none 0 0, .slice none 0 0] 46)).heap.size = w1.heap.size + 1 := by simp
    have hms := ModAt.new (w1.alloc (.cells #[.slice none 0 0, .slice none 0 0, .slice none 0 0, .slice none 0 0] 46))
    rw [hzz, ← hW2] at hms
    have pat : PAt w w.heap.size A B n1 ca m1 cb p w1.heap.size (w1.heap.size + 1) st0 ([], []) W2 :=
      ⟨HB1.out.le hb2, BP1.out.mono hb2, (SessAt.new w1).mono hb2', hms, by have := Z1.out; omega, by have := Z1.out; omega, by omega, by have := Z1.out; omega, by have := Z1.out; omega⟩
    have PA := Lib.hid pat; have DEF2 := Lib.hid hW2
    have x0 := pat.bp.c0; have x1 := pat.bp.c1
    rw [hW2] at x0 x1
    clear hb2 hb2' hzz hms pat hW2 BP1 HB1
    go_wp2_with fail
    rw [← DEF2.out]
    refine (salike w1.heap.size (w1.heap.size + 1) A B n1 ca m1 cb st0 ([], []) p W2 PA.out.ss ok0 PA.out.mm alike0 (by simp) (by simp) PA.out.bp.con LP.out).mono ?_
    rintro _ w3 ⟨_, rfl, hb3, rfl⟩
    have PA3 := Lib.hid (PA.out.mono hb3)
    clear x0 x1 hb3 PA DEF2
    go_wp2
    generalize w1.heap.size + 1 = M at *
    generalize w1.heap.size = N0 at *
    go_loopw [7, 9] (fun u i wr => PRel w w.heap.size A B n1 ca m1 cb p M n u i wr) (fun _ i _ => n - (intOf i).toNat)
    case atStart => exact ⟨0, N0, st0, ([], []), rfl, Nat.zero_le _, rfl, PA3.out, PSz.zero⟩
    case round =>
      clear PA3
      obtain ⟨k, N, st, mo, rfl, hk, rfl, hpa, hsz⟩ := hrel
      have PA := Lib.hid hpa; have SZ := Lib.hid hsz
      clear hpa hsz
      by_cases hlt : k < n
      · obtain ⟨b, o, A2, n2, ca2, B2, m2, cb2, v, rfl, hv, hm, -⟩ := (H.out.mono PA.out.hb).at_ (k := n) (i := k) hlt
        have e0 := hv.c0; have e1 := hv.c1; have e2 := hv.c2; have e3 := hv.c3; have e4 := hv.c4; have e5 := hv.c5
        have hal : Below wr.heap.size wr (wr.alloc (visBox v A2 n2 ca2 B2 m2 cb2)) := (Below.refl _ _).alloc (Nat.le_refl _) _
        have VA := Lib.hid (VisAt.new hv.con); have PA1 := Lib.hid (PA.out.mono hal)
        have NV := Lib.hid (show wr.heap.size ≠ N from fun e => by have := PA.out.ss.size; omega)
        have MV := Lib.hid (show wr.heap.size ≠ M from fun e => by have := PA.out.mm.size; omega)
        have BV := Lib.hid (show w.heap.size ≠ wr.heap.size from fun e => by have := PA.out.bp.size; omega)
        have KN := Lib.hid (show k ≤ 20 by have := HN.out; omega)
        obtain ⟨cl, wt, ⟨dp, dq⟩, x⟩ := v
        clear hv hm hal PA
        cases hs : smallB x with
        | false =>
          have F := Lib.hid (smallI (IsCon_of VA.out.con) false hs)
          clear hs
          go_wp2_with fail
          refine F.out.mono ?_
          rintro _ w4 ⟨_, rfl, hb4, rfl⟩
          have HBK := Lib.hid (PA1.out.hb.le hb4)
          clear hb4 F e0 e1 e2 e3 e4 e5
          go_wp2_with fail
          refine (known43 _).mono ?_
          rintro _ wK ⟨_, rfl, hbK, rfl⟩
          have HBK2 := Lib.hid (HBK.out.le hbK)
          clear hbK
          go_wp2
          go_ret
          exact retB rfl HBK2.out
        | true =>
          have F := Lib.hid (smallI (IsCon_of VA.out.con) true hs)
          have SX := Lib.hid hs
          have LX := Lib.hid (show x.1.length + x.2.length ≤ 1000 by obtain ⟨h1, h2, _⟩ := small_iff hs; omega)
          clear hs
          by_cases hka : (k : Int) = at_
          · subst hka
            go_wp2_with fail
            refine F.out.mono ?_
            rintro _ w4 ⟨_, rfl, hb4, rfl⟩
            have PA4 := Lib.hid (PA1.out.mono hb4); have VA4 := Lib.hid (VA.out.mono hb4)
            have Z4 := Lib.hid (show wr.heap.size < w4.heap.size from VA4.out.size)
            clear hb4 F e0 e1 e2 e3 e4 e5 PA1 VA
            have OK := Lib.hid (SZ.out.okS (by have := KN.out; omega))
            go_wp2_with fail
            refine (scopy N st w4 PA4.out.ss OK.out).mono ?_
            rintro _ w5 ⟨_, rfl, hb5, N2, rfl, hN2, hs2⟩
            have PA5 := Lib.hid (PA4.out.mono hb5); have VA5 := Lib.hid (VA4.out.mono hb5); have S2 := Lib.hid hs2; have N2K := Lib.hid hN2
            clear hb5 hs2 hN2
            go_wp2_with fail
            refine (sOne 9 w5).mono ?_
            rintro _ w6 ⟨_, rfl, hb6, A6, n6, c6, B6, m6, d6, rfl, hc6⟩
            have PA6 := Lib.hid (PA5.out.mono hb6); have VA6 := Lib.hid (VA5.out.mono hb6); have S6 := Lib.hid (S2.out.mono hb6); have C6 := Lib.hid hc6
            clear hb6 hc6 PA5 VA5 S2
            go_wp2_with fail
            refine (sread N A6 B6 n6 c6 m6 d6 st.1 st.2 ([(9, 1)], []) w6 PA6.out.ss C6.out OK.out.l1 OK.out.l2 (by simp) OK.out.v1 OK.out.v2 (by kernel_rfl)).mono ?_
            rintro _ w7 ⟨rfl, hh7, hs7⟩
            have NN := Lib.hid (show N2 ≠ N from fun e => by have := PA4.out.ss.size; have := N2K.out; omega)
            have PA7 := Lib.hid (PA6.out.sess (st' := (unionC st.1 ([(9, 1)], []), st.2)) hh7 hs7)
            have VA7 := Lib.hid (VA6.out.hole PA6.out.ss.ni hh7 NV.out)
            have S7 := Lib.hid (S6.out.hole PA6.out.ss.ni hh7 NN.out)
            clear hh7 hs7 PA6 VA6 S6 C6
            go_wp2_with fail
            refine (sOne 9 w7).mono ?_
            rintro _ w8 ⟨_, rfl, hb8, A8, n8, c8, B8, m8, d8, rfl, hc8⟩
            have PA8 := Lib.hid (PA7.out.mono hb8); have VA8 := Lib.hid (VA7.out.mono hb8); have S8 := Lib.hid (S7.out.mono hb8); have C8 := Lib.hid hc8
            clear hb8 hc8 PA7 VA7 S7
            have l9 : szC (unionC st.1 ([(9, 1)], [])) ≤ 1000 := by
              have h1 := union_total st.1 ([(9, 1)], []); have h2 := SZ.out.z1; have h3 := KN.out
              have h4 : szC ([(9, 1)], []) = 1 := rfl
              omega
            have L9 := Lib.hid l9
            clear l9
            go_wp2_with fail
            refine (swrite 9 7 N A8 B8 n8 c8 m8 d8 (unionC st.1 ([(9, 1)], [])) st.2 ([(9, 1)], []) w8 PA8.out.ss C8.out L9.out OK.out.l2 (by simp) (union_valid OK.out.v1 (by kernel_rfl)) OK.out.v2 (by kernel_rfl) (by kernel_rfl) (by kernel_rfl)).mono ?_
            rintro _ wc ⟨rfl, hh9, hs9⟩
            have S9 := S8.out.hole PA8.out.ss.ni hh9 NN.out
            have PA9 := PA8.out.sess (st' := (unionC st.1 ([(9, 1)], []), addC st.2 [(9, 7)])) hh9 hs9
            have PAc := Lib.hid (PA9.swap S9 (by have := N2K.out; have := PA4.out.hb.size; omega) (fun e => by have := N2K.out; have := PA4.out.mm.size; omega) (fun e => by have := N2K.out; have := PA4.out.bp.size; omega))
            have VAc := Lib.hid (VA8.out.hole PA8.out.ss.ni hh9 NV.out)
            have NVc := Lib.hid (show wr.heap.size ≠ N2 from fun e => by have := N2K.out; have := Z4.out; omega)
            clear hh9 hs9 S9 PA9 PA8 VA8 S8 C8 PA4 NV NN L9 OK N2K VA4
            generalize N2 = Nc at *
            have y0 := VAc.out.c0; have y1 := VAc.out.c1; have y2 := VAc.out.c2; have y3 := VAc.out.c3; have y4 := VAc.out.c4; have y5 := VAc.out.c5
            cases hbad : badS ⟨cl, wt, (dp, dq), x⟩ with
            | true =>
              have BAD := Lib.hid hbad
              clear hbad
              go_wp2_with fail
              refine (badI (v := ⟨cl, wt, (dp, dq), x⟩) ⟨A2, n2, ca2, B2, m2, cb2, rfl, VAc.out.con⟩ true BAD.out).mono ?_
              rintro _ wd ⟨_, rfl, hbd, rfl⟩
              have PAd := Lib.hid (PAc.out.mono hbd); have VAd := Lib.hid (VAc.out.mono hbd)
              clear hbd y0 y1 y2 y3 y4 y5 PAc VAc
              have y1 := VAd.out.c1; have y2 := VAd.out.c2; have y3 := VAd.out.c3; have y4 := VAd.out.c4; have y5 := VAd.out.c5
              have SZe := Lib.hid SZ.out.more
              cases wt with
              | true =>
                have hno : (validC x && validD (dp, dq) && !hasC x (dp, dq)) = false := by
                  have := BAD.out
                  simp only [badS, Bool.true_and, Bool.or_eq_true, Bool.not_eq_true'] at this
                  rcases this with h | h | h <;> rw [h] <;> simp
                have HNO := Lib.hid hno
                clear hno
                go_wp2_with fail
                refine (krefused VAd.out.con HNO.out).mono ?_
                rintro _ we ⟨_, rfl, hbe, rfl⟩
                have PAe := Lib.hid (PAd.out.mono hbe)
                have y1' := (VAd.out.mono hbe).c1
                clear hbe y1 y2 y3 y4 y5 PAd
                have x0 := PAe.out.bp.c0; have x1 := PAe.out.bp.c1
                have OKe := Lib.hid (SZe.out.okS (by have := KN.out; omega))
                go_wp2_with fail
                refine (salike Nc M A B n1 ca m1 cb _ _ p we PAe.out.ss OKe.out PAe.out.mm SZe.out.al (by have := SZe.out.l1; have := KN.out; omega) (by have := SZe.out.l2; have := KN.out; omega) PAe.out.bp.con LP.out).mono ?_
                rintro _ wf ⟨_, rfl, hbf, rfl⟩
                have PAf := Lib.hid (PAe.out.mono hbf)
                clear hbf x0 x1
                go_wp2
                go_roundw
                case rel => exact ⟨k + 1, Nc, _, _, by simp, hlt, rfl, PAf.out, SZe.out⟩
                case measure => simp [intOf]; omega
              | false =>
                have hno : validC x = false := by
                  have := BAD.out
                  simpa [badS] using this
                have HNO := Lib.hid hno
                clear hno
                go_wp2_with fail
                refine (krefusedR VAd.out.con HNO.out).mono ?_
                rintro _ we ⟨_, rfl, hbe, rfl⟩
                have PAe := Lib.hid (PAd.out.mono hbe)
                clear hbe y1 y2 y3 y4 y5 PAd
                have x0 := PAe.out.bp.c0; have x1 := PAe.out.bp.c1
                have OKe := Lib.hid (SZe.out.okS (by have := KN.out; omega))
                go_wp2_with fail
                refine (salike Nc M A B n1 ca m1 cb _ _ p we PAe.out.ss OKe.out PAe.out.mm SZe.out.al (by have := SZe.out.l1; have := KN.out; omega) (by have := SZe.out.l2; have := KN.out; omega) PAe.out.bp.con LP.out).mono ?_
                rintro _ wf ⟨_, rfl, hbf, rfl⟩
                have PAf := Lib.hid (PAe.out.mono hbf)
                clear hbf x0 x1
                go_wp2
                go_roundw
                case rel => exact ⟨k + 1, Nc, _, _, by simp, hlt, rfl, PAf.out, SZe.out⟩
                case measure => simp [intOf]; omega
            | false =>
              have GOOD := Lib.hid (show Good ⟨cl, wt, (dp, dq), x⟩ from ⟨hbad, SX.out⟩)
              clear hbad
              go_wp2_with fail
              refine (badI (v := ⟨cl, wt, (dp, dq), x⟩) ⟨A2, n2, ca2, B2, m2, cb2, rfl, VAc.out.con⟩ false GOOD.out.ok).mono ?_
              rintro _ wd ⟨_, rfl, hbd, rfl⟩
              have PAd := Lib.hid (PAc.out.mono hbd); have VAd := Lib.hid (VAc.out.mono hbd)
              clear hbd y0 y1 y2 y3 y4 y5 PAc VAc
              have y0 := VAd.out.c0; have y1 := VAd.out.c1; have y2 := VAd.out.c2; have y3 := VAd.out.c3; have y4 := VAd.out.c4; have y5 := VAd.out.c5
              have SZe := Lib.hid (SZ.out.step GOOD.out)
              have BR := Lib.hid (SZ.out.al.brok GOOD.out)
              have OKd := Lib.hid (SZ.out.okS (by have := KN.out; omega))
              have VX := Lib.hid GOOD.out.valid
              cases wt with
              | true =>
                have GD := Lib.hid (GOOD.out.dot rfl)
                go_wp2_with fail
                refine (visit_true M A2 B2 n2 ca2 m2 cb2 mo cl dp dq x wd PAd.out.mm VAd.out.con SX.out (by have := SZ.out.l1; have := KN.out; omega) (by have := SZ.out.l2; have := KN.out; omega)).mono ?_
                rintro _ wg ⟨rfl, hhg, hmg⟩
                have PAg := Lib.hid (PAd.out.model hhg hmg); have VAg := Lib.hid (VAd.out.hole PAd.out.mm.ni hhg MV.out)
                clear hhg hmg y0 y1 y2 y3 y4 y5 PAd VAd
                have y1 := VAg.out.c1; have y2 := VAg.out.c2; have y3 := VAg.out.c3; have y4 := VAg.out.c4; have y5 := VAg.out.c5
                obtain ⟨g, hg⟩ : ∃ g, brokM mo ⟨cl, true, (dp, dq), x⟩ = g := ⟨_, rfl⟩
                rw [hg] at BR ⊢
                clear hg
                go_wp2_with fail
                refine (kwrites PAg.out.ss OKd.out VAg.out.con LX.out VX.out GD.out.1 GD.out.2 g BR.out _ rfl).mono ?_
                rintro _ we ⟨rfl, hhe, hse⟩
                have y1' := (VAg.out.hole PAg.out.ss.ni hhe NVc.out).c1
                have PAe := Lib.hid (PAg.out.sess hhe hse)
                clear hhe hse y1 y2 y3 y4 y5 PAg VAg
                have x0 := PAe.out.bp.c0; have x1 := PAe.out.bp.c1
                have OKe := Lib.hid (SZe.out.okS (by have := KN.out; omega))
                go_wp2_with fail
                refine (salike Nc M A B n1 ca m1 cb _ _ p we PAe.out.ss OKe.out PAe.out.mm SZe.out.al (by have := SZe.out.l1; have := KN.out; omega) (by have := SZe.out.l2; have := KN.out; omega) PAe.out.bp.con LP.out).mono ?_
                rintro _ wf ⟨_, rfl, hbf, rfl⟩
                have PAf := Lib.hid (PAe.out.mono hbf)
                clear hbf x0 x1
                go_wp2
                go_roundw
                case rel => exact ⟨k + 1, Nc, _, _, by simp, hlt, rfl, PAf.out, SZe.out⟩
                case measure => simp [intOf]; omega
              | false =>
                go_wp2_with fail
                refine (visit_false M A2 B2 n2 ca2 m2 cb2 mo cl dp dq x wd PAd.out.mm VAd.out.con SX.out (by have := SZ.out.l1; have := KN.out; omega) (by have := SZ.out.l2; have := KN.out; omega)).mono ?_
                rintro _ wg ⟨rfl, hhg, hmg⟩
                have PAg := Lib.hid (PAd.out.model hhg hmg); have VAg := Lib.hid (VAd.out.hole PAd.out.mm.ni hhg MV.out)
                clear hhg hmg y0 y1 y2 y3 y4 y5 PAd VAd
                have y1 := VAg.out.c1; have y2 := VAg.out.c2; have y3 := VAg.out.c3; have y4 := VAg.out.c4; have y5 := VAg.out.c5
                obtain ⟨g, hg⟩ : ∃ g, brokM mo ⟨cl, false, (dp, dq), x⟩ = g := ⟨_, rfl⟩
                rw [hg] at BR ⊢
                clear hg
                go_wp2_with fail
                refine (kreads PAg.out.ss OKd.out VAg.out.con LX.out VX.out g BR.out _ rfl).mono ?_
                rintro _ we ⟨rfl, hhe, hse⟩
                have PAe := Lib.hid (PAg.out.sess hhe hse)
                clear hhe hse y1 y2 y3 y4 y5 PAg VAg
                have x0 := PAe.out.bp.c0; have x1 := PAe.out.bp.c1
                have OKe := Lib.hid (SZe.out.okS (by have := KN.out; omega))
                go_wp2_with fail
                refine (salike Nc M A B n1 ca m1 cb _ _ p we PAe.out.ss OKe.out PAe.out.mm SZe.out.al (by have := SZe.out.l1; have := KN.out; omega) (by have := SZe.out.l2; have := KN.out; omega) PAe.out.bp.con LP.out).mono ?_
                rintro _ wf ⟨_, rfl, hbf, rfl⟩
                have PAf := Lib.hid (PAe.out.mono hbf)
                clear hbf x0 x1
                go_wp2
                go_roundw
                case rel => exact ⟨k + 1, Nc, _, _, by simp, hlt, rfl, PAf.out, SZe.out⟩
                case measure => simp [intOf]; omega
          · have ew : IntKind.i64.wrap at_ = at_ := IntWalk.i64_in _ (by have := HAT.out; omega)
            have dk : decide ((k : Int) = at_) = false := decide_eq_false hka
            have dk2 : ((k : Int) == at_) = false := by simp [hka]
            go_wp2_with fail
            refine F.out.mono ?_
            rintro _ wc ⟨_, rfl, hb4, rfl⟩
            have PAc := Lib.hid (PA1.out.mono hb4); have VAc := Lib.hid (VA.out.mono hb4)
            have NVc := NV
            clear hb4 F e0 e1 e2 e3 e4 e5 PA1 VA NV
            generalize N = Nc at *
            have y0 := VAc.out.c0; have y1 := VAc.out.c1; have y2 := VAc.out.c2; have y3 := VAc.out.c3; have y4 := VAc.out.c4; have y5 := VAc.out.c5
            cases hbad : badS ⟨cl, wt, (dp, dq), x⟩ with
            | true =>
              have BAD := Lib.hid hbad
              clear hbad
              go_wp2_with fail
              refine (badI (v := ⟨cl, wt, (dp, dq), x⟩) ⟨A2, n2, ca2, B2, m2, cb2, rfl, VAc.out.con⟩ true BAD.out).mono ?_
              rintro _ wd ⟨_, rfl, hbd, rfl⟩
              have PAd := Lib.hid (PAc.out.mono hbd); have VAd := Lib.hid (VAc.out.mono hbd)
              clear hbd y0 y1 y2 y3 y4 y5 PAc VAc
              have y1 := VAd.out.c1; have y2 := VAd.out.c2; have y3 := VAd.out.c3; have y4 := VAd.out.c4; have y5 := VAd.out.c5
              have SZe := Lib.hid SZ.out.more
              cases wt with
              | true =>
                have hno : (validC x && validD (dp, dq) && !hasC x (dp, dq)) = false := by
                  have := BAD.out
                  simp only [badS, Bool.true_and, Bool.or_eq_true, Bool.not_eq_true'] at this
                  rcases this with h | h | h <;> rw [h] <;> simp
                have HNO := Lib.hid hno
                clear hno
                go_wp2_with fail
                refine (krefused VAd.out.con HNO.out).mono ?_
                rintro _ we ⟨_, rfl, hbe, rfl⟩
                have PAe := Lib.hid (PAd.out.mono hbe)
                have y1' := (VAd.out.mono hbe).c1
                clear hbe y1 y2 y3 y4 y5 PAd
                have x0 := PAe.out.bp.c0; have x1 := PAe.out.bp.c1
                have OKe := Lib.hid (SZe.out.okS (by have := KN.out; omega))
                go_wp2_with fail
                refine (salike Nc M A B n1 ca m1 cb _ _ p we PAe.out.ss OKe.out PAe.out.mm SZe.out.al (by have := SZe.out.l1; have := KN.out; omega) (by have := SZe.out.l2; have := KN.out; omega) PAe.out.bp.con LP.out).mono ?_
                rintro _ wf ⟨_, rfl, hbf, rfl⟩
                have PAf := Lib.hid (PAe.out.mono hbf)
                clear hbf x0 x1
                go_wp2
                go_roundw
                case rel => exact ⟨k + 1, Nc, _, _, by simp, hlt, rfl, PAf.out, SZe.out⟩
                case measure => simp [intOf]; omega
              | false =>
                have hno : validC x = false := by
                  have := BAD.out
                  simpa [badS] using this
                have HNO := Lib.hid hno
                clear hno
                go_wp2_with fail
                refine (krefusedR VAd.out.con HNO.out).mono ?_
                rintro _ we ⟨_, rfl, hbe, rfl⟩
                have PAe := Lib.hid (PAd.out.mono hbe)
                clear hbe y1 y2 y3 y4 y5 PAd
                have x0 := PAe.out.bp.c0; have x1 := PAe.out.bp.c1
                have OKe := Lib.hid (SZe.out.okS (by have := KN.out; omega))
                go_wp2_with fail
                refine (salike Nc M A B n1 ca m1 cb _ _ p we PAe.out.ss OKe.out PAe.out.mm SZe.out.al (by have := SZe.out.l1; have := KN.out; omega) (by have := SZe.out.l2; have := KN.out; omega) PAe.out.bp.con LP.out).mono ?_
                rintro _ wf ⟨_, rfl, hbf, rfl⟩
                have PAf := Lib.hid (PAe.out.mono hbf)
                clear hbf x0 x1
                go_wp2
                go_roundw
                case rel => exact ⟨k + 1, Nc, _, _, by simp, hlt, rfl, PAf.out, SZe.out⟩
                case measure => simp [intOf]; omega
            | false =>
              have GOOD := Lib.hid (show Good ⟨cl, wt, (dp, dq), x⟩ from ⟨hbad, SX.out⟩)
              clear hbad
              go_wp2_with fail
              refine (badI (v := ⟨cl, wt, (dp, dq), x⟩) ⟨A2, n2, ca2, B2, m2, cb2, rfl, VAc.out.con⟩ false GOOD.out.ok).mono ?_
              rintro _ wd ⟨_, rfl, hbd, rfl⟩
              have PAd := Lib.hid (PAc.out.mono hbd); have VAd := Lib.hid (VAc.out.mono hbd)
              clear hbd y0 y1 y2 y3 y4 y5 PAc VAc
              have y0 := VAd.out.c0; have y1 := VAd.out.c1; have y2 := VAd.out.c2; have y3 := VAd.out.c3; have y4 := VAd.out.c4; have y5 := VAd.out.c5
              have SZe := Lib.hid (SZ.out.step GOOD.out)
              have BR := Lib.hid (SZ.out.al.brok GOOD.out)
              have OKd := Lib.hid (SZ.out.okS (by have := KN.out; omega))
              have VX := Lib.hid GOOD.out.valid
              cases wt with
              | true =>
                have GD := Lib.hid (GOOD.out.dot rfl)
                go_wp2_with fail
                refine (visit_true M A2 B2 n2 ca2 m2 cb2 mo cl dp dq x wd PAd.out.mm VAd.out.con SX.out (by have := SZ.out.l1; have := KN.out; omega) (by have := SZ.out.l2; have := KN.out; omega)).mono ?_
                rintro _ wg ⟨rfl, hhg, hmg⟩
                have PAg := Lib.hid (PAd.out.model hhg hmg); have VAg := Lib.hid (VAd.out.hole PAd.out.mm.ni hhg MV.out)
                clear hhg hmg y0 y1 y2 y3 y4 y5 PAd VAd
                have y1 := VAg.out.c1; have y2 := VAg.out.c2; have y3 := VAg.out.c3; have y4 := VAg.out.c4; have y5 := VAg.out.c5
                obtain ⟨g, hg⟩ : ∃ g, brokM mo ⟨cl, true, (dp, dq), x⟩ = g := ⟨_, rfl⟩
                rw [hg] at BR ⊢
                clear hg
                go_wp2_with fail
                refine (kwrites PAg.out.ss OKd.out VAg.out.con LX.out VX.out GD.out.1 GD.out.2 g BR.out _ rfl).mono ?_
                rintro _ we ⟨rfl, hhe, hse⟩
                have y1' := (VAg.out.hole PAg.out.ss.ni hhe NVc.out).c1
                have PAe := Lib.hid (PAg.out.sess hhe hse)
                clear hhe hse y1 y2 y3 y4 y5 PAg VAg
                have x0 := PAe.out.bp.c0; have x1 := PAe.out.bp.c1
                have OKe := Lib.hid (SZe.out.okS (by have := KN.out; omega))
                go_wp2_with fail
                refine (salike Nc M A B n1 ca m1 cb _ _ p we PAe.out.ss OKe.out PAe.out.mm SZe.out.al (by have := SZe.out.l1; have := KN.out; omega) (by have := SZe.out.l2; have := KN.out; omega) PAe.out.bp.con LP.out).mono ?_
                rintro _ wf ⟨_, rfl, hbf, rfl⟩
                have PAf := Lib.hid (PAe.out.mono hbf)
                clear hbf x0 x1
                go_wp2
                go_roundw
                case rel => exact ⟨k + 1, Nc, _, _, by simp, hlt, rfl, PAf.out, SZe.out⟩
                case measure => simp [intOf]; omega
              | false =>
                go_wp2_with fail
                refine (visit_false M A2 B2 n2 ca2 m2 cb2 mo cl dp dq x wd PAd.out.mm VAd.out.con SX.out (by have := SZ.out.l1; have := KN.out; omega) (by have := SZ.out.l2; have := KN.out; omega)).mono ?_
                rintro _ wg ⟨rfl, hhg, hmg⟩
                have PAg := Lib.hid (PAd.out.model hhg hmg); have VAg := Lib.hid (VAd.out.hole PAd.out.mm.ni hhg MV.out)
                clear hhg hmg y0 y1 y2 y3 y4 y5 PAd VAd
                have y1 := VAg.out.c1; have y2 := VAg.out.c2; have y3 := VAg.out.c3; have y4 := VAg.out.c4; have y5 := VAg.out.c5
                obtain ⟨g, hg⟩ : ∃ g, brokM mo ⟨cl, false, (dp, dq), x⟩ = g := ⟨_, rfl⟩
                rw [hg] at BR ⊢
                clear hg
                go_wp2_with fail
                refine (kreads PAg.out.ss OKd.out VAg.out.con LX.out VX.out g BR.out _ rfl).mono ?_
                rintro _ we ⟨rfl, hhe, hse⟩
                have PAe := Lib.hid (PAg.out.sess hhe hse)
                clear hhe hse y1 y2 y3 y4 y5 PAg VAg
                have x0 := PAe.out.bp.c0; have x1 := PAe.out.bp.c1
                have OKe := Lib.hid (SZe.out.okS (by have := KN.out; omega))
                go_wp2_with fail
                refine (salike Nc M A B n1 ca m1 cb _ _ p we PAe.out.ss OKe.out PAe.out.mm SZe.out.al (by have := SZe.out.l1; have := KN.out; omega) (by have := SZe.out.l2; have := KN.out; omega) PAe.out.bp.con LP.out).mono ?_
                rintro _ wf ⟨_, rfl, hbf, rfl⟩
                have PAf := Lib.hid (PAe.out.mono hbf)
                clear hbf x0 x1
                go_wp2
                go_roundw
                case rel => exact ⟨k + 1, Nc, _, _, by simp, hlt, rfl, PAf.out, SZe.out⟩
                case measure => simp [intOf]; omega
      · have HBK := Lib.hid PA.out.hb
        go_wp2_with fail
        refine (known43 _).mono ?_
        rintro _ wK ⟨_, rfl, hbK, rfl⟩
        have HBK2 := Lib.hid (HBK.out.le hbK)
        clear hbK
        go_wp2
        go_ret
        exact retB rfl HBK2.out
end Go.Proofs.Ytjbakmmmgejhlaa

/-
  Visits, contexts that came in: what they read as.
-/
namespace Go.Proofs.Ytjbakmmmgejhlaa
open Go.ChangeShapes Go.WideShapes Go.ChangeAt Go.RowKit Go.Deep Go.Joins

instance : Inhabited VS := ⟨⟨⟨0, false, (0, 0), ([], [])⟩, none, 0, 0, none, 0, 0⟩⟩
section
variable {H : Type} {enc : TypeId × Value → H} {w : World} {base : Nat} {held : Bool}
theorem cells_int : Try.prog.cellsOf 3 = 1 := by kernel_rfl
theorem cells_bool : Try.prog.cellsOf 4 = 1 := by kernel_rfl
theorem cells_dot : Try.prog.cellsOf 27 = 2 := by kernel_rfl
theorem cells_con : Try.prog.cellsOf 31 = 2 := by kernel_rfl
theorem cells_vec : Try.prog.cellsOf 29 = 1 := by kernel_rfl
theorem cells_sl : Try.prog.cellsOf 28 = 1 := by kernel_rfl
theorem cells_vis : Try.prog.cellsOf 33 = 6 := by kernel_rfl
theorem open_dot {fuel : Nat} {v0 v1 : Value} {x : DataW H × List MemPlace} (h : DataW.trod enc Try.prog w base (fun _ => true) held fuel 27 [v0, v1] = some x) : ∃ p q, v0 = .int .i64 p ∧ v1 = .int .i64 q := by
  obtain ⟨xs, k, _, _, _, hxl, hf⟩ := DataW.trod_struct Try.underlying27 h
  match xs, hxl with
  | [y0, y1], _ =>
    have g0 := hf 0 _ rfl
    have g1 := hf 1 _ rfl
    simp [cells_int] at g0 g1
    obtain ⟨p, e0, _⟩ := DataW.trod_int Try.underlying3 g0
    obtain ⟨q, e1, _⟩ := DataW.trod_int Try.underlying3 g1
    simp at e0 e1
    exact ⟨p, q, e0, e1⟩
theorem open_con {fuel : Nat} {v0 v1 : Value} {x : DataW H × List MemPlace} (h : DataW.trod enc Try.prog w base (fun _ => true) held fuel 31 [v0, v1] = some x) : ∃ A n ca B m cb c, v0 = .slice A n ca ∧ v1 = .slice B m cb ∧ Con w A n ca B m cb c := by
  obtain ⟨xs, k, _, _, _, hxl, hf⟩ := DataW.trod_struct Try.underlying31 h
  match xs, hxl with
  | [y0, y1], _ =>
    have g0 := hf 0 _ rfl
    have g1 := hf 1 _ rfl
    simp [cells_vec, cells_sl] at g0 g1
    obtain ⟨A, n, ca, l, rfl, d0⟩ := read_vec g0
    obtain ⟨B, m, cb, l', rfl, d1⟩ := read_dots g1
    exact ⟨A, n, ca, B, m, cb, (l, l'), rfl, rfl, d0, d1⟩
theorem open_vis {fuel : Nat} {v0 v1 v2 v3 v4 v5 : Value} {x : DataW H × List MemPlace} (h : DataW.trod enc Try.prog w base (fun _ => true) held fuel 33 [v0, v1, v2, v3, v4, v5] = some x) :
    ∃ s : VS, vcell s = [v0, v1, v2, v3, v4, v5] ∧ Con w s.A s.n s.ca s.B s.m s.cb s.v.x ∧ (Lit.int .i64 s.v.c).wf = true := by
  obtain ⟨xs, k, _, _, _, hxl, hf⟩ := DataW.trod_struct Try.underlying33 h
  match xs, hxl with
  | [y0, y1, y2, y3], _ =>
    have g0 := hf 0 _ rfl
    have g1 := hf 1 _ rfl
    have g2 := hf 2 _ rfl
    have g3 := hf 3 _ rfl
    simp [cells_int, cells_bool, cells_dot, cells_con] at g0 g1 g2 g3
    obtain ⟨c, e0, _, w0⟩ := DataW.trod_int Try.underlying3 g0
    obtain ⟨b, e1, _⟩ := DataW.trod_bool Try.underlying4 g1
    simp at e0 e1
    subst e0; subst e1
    obtain ⟨p, q, rfl, rfl⟩ := open_dot g2
    obtain ⟨A, n, ca, B, m, cb, cx, rfl, rfl, hc⟩ := open_con g3
    exact ⟨⟨⟨c, b, (p, q), cx⟩, A, n, ca, B, m, cb⟩, rfl, hc, w0⟩
theorem read_visits {fuel : Nat} {v : Value} {x : DataW H × List MemPlace} (h : DataW.trod enc Try.prog w base (fun _ => true) held fuel 22 [v] = some x) : ∃ A n c l, v = .slice A n c ∧ Visits w A n c l ∧ ∀ u ∈ l, (Lit.int .i64 u.c).wf = true := by
  rcases open_slice Try.underlying22 h with ⟨h1, _⟩ | ⟨a, len, cap, m, n, D, Pl, h1, hb, hl, hm, hmm, _, hx⟩
  · cases h1
    exact ⟨none, 0, 0, [], rfl, Visits.nil_, fun u hu => nomatch hu⟩
  · cases h1
    rw [if_pos rfl] at hmm
    have each : ∀ i, i < len → ∃ s : VS, (∀ j u, (vcell s)[j]? = some u → w.cell? (a.add (i * 6 + j)) = some u) ∧ Con w s.A s.n s.ca s.B s.m s.cb s.v.x ∧ (Lit.int .i64 s.v.c).wf = true := by
      intro i hi
      obtain ⟨cs', h1, h2⟩ := hx i (by omega)
      rw [cells_vis] at h1
      obtain ⟨_, hlen, hcell⟩ := World.cells?_some h1
      match cs', hlen with
      | [v0, v1, v2, v3, v4, v5], _ =>
        obtain ⟨s, hs, hc, hw⟩ := open_vis h2
        refine ⟨s, fun j u hj => ?_, hc, hw⟩
        rw [hs] at hj
        have hj6 : j < 6 := (List.getElem?_eq_some_iff.1 hj).1
        have := hcell j hj6
        rw [add_add] at this
        rw [this]; exact hj
    obtain ⟨q, hq⟩ := choose_lt each
    refine ⟨some a, len, cap, (List.range len).map fun i => (q i).v, rfl, ⟨by simp, hl, hm, (fun e => nomatch e), fun i v hi => ?_⟩, fun u hu => ?_⟩
    · have hil : i < len := by have := (List.getElem?_eq_some_iff.1 hi).1; simpa using this
      rw [List.getElem?_map, List.getElem?_range hil] at hi
      simp only [Option.map_some, Option.some.injEq] at hi
      subst hi
      obtain ⟨hc, hcon, _⟩ := hq i hil
      obtain ⟨b, o, s⟩ := a
      have hs : s = none := by have h9 := World.cell?_spot ((hq 0 (by omega)).1 0 _ rfl); simpa [Addr.add] using h9
      subst hs
      have cell : ∀ j u, (vcell (q i))[j]? = some u → w.cell? ⟨b, o + i * 6 + j, none⟩ = some u := fun j u hj => by
        have := hc j u hj
        rw [add_lit] at this
        rw [Nat.add_assoc]; exact this
      exact ⟨b, o, (q i).A, (q i).n, (q i).ca, (q i).B, (q i).m, (q i).cb, rfl, cell 0 _ rfl, cell 1 _ rfl, cell 2 _ rfl, cell 3 _ rfl, cell 4 _ rfl, cell 5 _ rfl, hcon⟩
    · obtain ⟨i, hi, rfl⟩ := List.mem_map.1 hu
      exact (hq i (List.mem_range.1 hi)).2.2
end
end Go.Proofs.Ytjbakmmmgejhlaa

/-
  SessionPlays: of any visits, any number and any context, with no condition, the law returns true, and its arguments read afterwards as before.
-/
namespace Go.Proofs.Ytjbakmmmgejhlaa
open Go.ChangeShapes Go.WideShapes Go.ChangeAt Go.RowKit Go.Deep Go.Joins

set_option maxRecDepth 100000 in
theorem sessionPlays_lifted (os : Os) (started : os.Started) (H : Type) (enc : TypeId × Value → H) :
    ReturnsInHanded {} Try.checked os 7 .any (Rows.sessionPlaysSpec.pre6 enc Try.prog Try.f7 Rows.sessionPlaysRow.domain false) (Rows.sessionPlaysSpec.post enc Try.prog Try.f7 false true false false) := by
  refine returnsInHanded_of_change (C := Try.checked) own_none started (by kernel_rfl) Try.func7
    (ChangeSpec.witness6 (enc := enc) (C := Try.checked) false ⟨#[], #[.slice none 0 0, .int .u8 0, .agg #[.slice none 0 0, .slice none 0 0]], []⟩ 8 (by kernel_rfl) (by kernel_rfl) (by kernel_rfl) (by kernel_rfl)) ?_
  intro W base args ds gs before hval0 hW hcnd _
  have hval : ∀ (j : Nat) t v, Try.f7.params[j]? = some t → args[j]? = some v → Value.okWide Try.prog W .any base t v := hval0
  have hW' := hW
  obtain ⟨p, q, hA0, hV, rfl, hfz, hnd⟩ := hW
  have hA : DataW.TrodAll enc Try.prog W 0 (fun _ => true) true Try.f7.params.toList args.toList ds p := hA0
  rw [Try.params7] at hA hval
  obtain ⟨v0, v1, v2, d0, d1, d2, p0, p1, p2, rfl, rfl, rfl, h0, h1, h2⟩ := trodAll_three hA
  obtain ⟨rfl, rfl⟩ := trodVars_none hV
  obtain ⟨A, n, c, rfl⟩ := okWide_slice Try.underlying22 (hval 0 22 v0 rfl rfl)
  obtain ⟨_, g0⟩ := h0
  obtain ⟨A', n', c', l, e, hl, hwf⟩ := read_visits g0
  cases e
  obtain ⟨x, rfl, _, _, hw⟩ := open_int Try.underlying5 (hval 1 5 v1 rfl rfl) h1
  have hx : 0 ≤ x ∧ x ≤ 255 := by
    simp only [Lit.wf, Bool.and_eq_true, decide_eq_true_eq] at hw
    exact hw
  obtain ⟨A2, n2, ca, B, m, cb, q, rfl, hq⟩ := read_con (hval 2 31 v2 rfl rfl) h2
  clear hA0 hval0
  refine (lawPlays A n c l x A2 B n2 ca m cb q W hl hq hx).mono fun e W' ⟨_, he, hb, rfl⟩ => ?_
  subst he
  exact ⟨_, rfl, law_post laid_out (by kernel_rfl) (by kernel_rfl) Try.underlying4 rfl rfl hW' hb⟩

theorem sessionPlays_holds : Rows.SessionPlaysSaid :=
  OpenClaim.holds_of_wide 7 Try.f7 rfl rfl rfl rfl rfl rfl rfl ⟨rfl, rfl, rfl, rfl, rfl⟩ rfl rfl rfl rfl rfl (by kernel_rfl) Try.func7 (by kernel_rfl)
    (of_decide_eq_true (by kernel_rfl)) (by unfold Func.isWrapper; first | (rw [if_pos (by decide +kernel)]; kernel_rfl) | (rw [if_neg (by decide +kernel)]; exact ⟨rfl, rfl⟩))
    (fun os started H enc _ => sessionPlays_lifted os started H enc)
end Go.Proofs.Ytjbakmmmgejhlaa
