/-
  PLAIN: a map of counters, and a walk over it: what vector.made makes.
-/
import Derived.Test.YtjbakmmmgejhlaaWH
import Derived.Test.YtjbakmmmgejhlaaWI
import Derived.Test.YtjbakmmmgejhlaaWG
import Derived.Maps.RangeWalk
import Derived.Maps.OwnOps
namespace Go.Proofs.Ytjbakmmmgejhlaa
open Go.RowKit Go.Maps

abbrev DU := DataW Unit
abbrev numL (c : Int) : DU := .lit (.int .i64 c)
theorem numL_inj {a b : Int} (h : numL a = numL b) : a = b := by cases h; rfl
structure MapAt (D : DU) (l : List Dot) : Prop where
  isMap : Maps.IsMap D
  keys : ∀ r, Maps.has D (.int .i64 r) = l.any (fun d => d.1 == r)
  vals : ∀ r, D.atKey (.int .i64 r) (numL 0) = numL (mostI l r 0)
theorem mostI_snoc (l : List Dot) (d : Dot) (r m : Int) : mostI (l ++ [d]) r m = if r = d.1 then max (mostI l r m) d.2 else mostI l r m := by unfold mostI; rw [List.foldl_append]; rfl
theorem MapAt.nil_ : MapAt (.map []) [] := ⟨Maps.isMap_empty, fun _ => rfl, fun _ => rfl⟩
theorem key_int (x : Int) : WideAt.IsKeyLit (.int .i64 x) := trivial
theorem MapAt.put {D : DU} {l : List Dot} (h : MapAt D l) (x y c : Int) (hc : D.atKey (.int .i64 x) (numL 0) = numL c) : MapAt (D.put (.int .i64 x) (numL (max c y))) (l ++ [(x, y)]) := by
  have ec : c = mostI l x 0 := by exact (numL_inj ((h.vals x).symm.trans hc)).symm
  refine ⟨h.isMap.put _ _, fun r => ?_, fun r => ?_⟩
  · rw [List.any_append]
    by_cases e : r = x
    · subst e
      rw [Maps.has_put_same h.isMap (key_int r)]; simp
    · rw [Maps.has_put_other (fun h => e (by cases h; rfl)), h.keys r]
      have : ((x == r) : Bool) = false := by rw [beq_eq_false_iff_ne]; exact fun h => e h.symm
      simp [this]
  · rw [mostI_snoc]
    by_cases e : r = x
    · subst e
      rw [Maps.atKey_put_same h.isMap (key_int r), if_pos rfl, ec]
    · rw [Maps.atKey_put_other (fun h => e (by cases h; rfl)), h.vals r, if_neg e]
/-- What has been collected on the way. -/
structure LeftAt (D : DU) (left : Lit → Bool) (acc : List Dot) : Prop where
  keys : ∀ r, Maps.has D (.int .i64 r) = (left (.int .i64 r) || acc.any (fun d => d.1 == r))
  vals : ∀ d ∈ acc, ∀ z, D.atKey (.int .i64 d.1) z = numL d.2
  apart : acc.Pairwise (fun a b => a.1 ≠ b.1)
  gone : ∀ d ∈ acc, left (.int .i64 d.1) = false
theorem LeftAt.start (D : DU) : LeftAt D (Maps.has D) [] := ⟨fun r => by simp, (fun d hd => nomatch hd), List.Pairwise.nil, (fun d hd => nomatch hd)⟩
theorem same_int (r x : Int) : (Lit.int .i64 r).sameKey (.int .i64 x) = (r == x) := by
  by_cases e : r = x
  · subst e; rw [WideAt.sameKey_self (key_int r)]; simp
  · rw [Maps.sameKey_ne (fun h => e (by cases h; rfl)), eq_comm, beq_eq_false_iff_ne]; exact e
theorem LeftAt.next {D : DU} {left : Lit → Bool} {acc : List Dot} (h : LeftAt D left acc) (x c : Int) (hx : left (.int .i64 x) = true) (hat : ∀ zd, D.atKey (.int .i64 x) zd = numL c) : LeftAt D (fun z => left z && !z.sameKey (.int .i64 x)) (acc ++ [(x, c)]) := by
  have hne : ∀ d ∈ acc, d.1 ≠ x := fun d hd e => by have := h.gone d hd; rw [e, hx] at this; cases this
  refine ⟨fun r => ?_, fun d hd => ?_, ?_, fun d hd => ?_⟩
  · rw [h.keys r, List.any_append]
    show _ = ((left (.int .i64 r) && !(Lit.int .i64 r).sameKey (.int .i64 x)) || _)
    rw [same_int]
    by_cases e : r = x
    · subst e; simp [hx]
    · have h1 : ((r == x) : Bool) = false := by rw [beq_eq_false_iff_ne]; exact e
      have h2 : ((x == r) : Bool) = false := by rw [beq_eq_false_iff_ne]; exact fun h => e h.symm
      simp [h1, h2]
  · rcases List.mem_append.1 hd with hd | hd
    · exact h.vals d hd
    · rw [List.mem_singleton.1 hd]; exact hat
  · rw [List.pairwise_append]
    exact ⟨h.apart, by simp, fun a ha b hb => by rw [List.mem_singleton.1 hb]; exact hne a ha⟩
  · show (left (.int .i64 d.1) && _) = false
    rcases List.mem_append.1 hd with hd | hd
    · rw [h.gone d hd]; rfl
    · rw [List.mem_singleton.1 hd, same_int]; simp
/-- What is left in the end, sorted. -/
theorem made_of {D : DU} {left : Lit → Bool} {l acc l' : List Dot} (hm : MapAt D l) (h : LeftAt D left acc) (hl : ∀ kl, left kl = false) (hv : validL l = true) (hs : SortOf (ltOf keyV) acc l') : l' = madeV l := by
  obtain ⟨m1, m2, m3⟩ := made_spec hv
  have hap : l'.Pairwise (fun a b => a.1 ≠ b.1) := (hs.1.pairwise_iff (fun {a b} (h : a.1 ≠ b.1) => h.symm)).2 h.apart
  have hinc : Inc l' := by
    have h2 := hap.and hs.2
    refine h2.imp fun {a b} ⟨h1, h3⟩ => ?_
    rw [lt_key] at h3
    have := of_decide_eq_false h3
    omega
  have hmem : ∀ d ∈ l', (∃ e ∈ l, e.1 = d.1) ∧ d.2 = mostI l d.1 0 := by
    intro d hd
    have hd' := hs.1.mem_iff.1 hd
    have h1 := h.vals d hd' (numL 0)
    rw [hm.vals] at h1
    have h2 := h.keys d.1
    rw [hm.keys, hl, Bool.false_or, Bool.eq_iff_iff, List.any_eq_true, List.any_eq_true] at h2
    obtain ⟨e, he, hee⟩ := h2.2 ⟨d, hd', by simp⟩
    exact ⟨⟨e, he, by simpa using hee⟩, (numL_inj h1).symm⟩
  have hle : ∀ (l : List Dot) (r m : Int), m ≤ mostI l r m ∧ ∀ e ∈ l, e.1 = r → e.2 ≤ mostI l r m := by
    intro l
    induction l with
    | nil => exact fun r m => ⟨Int.le_refl _, fun e he => nomatch he⟩
    | cons a t ih =>
      intro r m
      rw [mostI_cons]
      obtain ⟨i1, i2⟩ := ih r (if r = a.1 then max m a.2 else m)
      refine ⟨by by_cases e : r = a.1; (rw [if_pos e] at i1 ⊢; omega); (rw [if_neg e] at i1 ⊢; omega), fun e he hr => ?_⟩
      rcases List.mem_cons.1 he with rfl | he
      · rw [if_pos hr.symm] at i1 ⊢; omega
      · exact i2 e he hr
  have hval : validL l' = true := validL_of fun d hd => by
    obtain ⟨⟨e, he, hee⟩, h2⟩ := hmem d hd
    have h3 := (hle l d.1 0).2 e he hee
    have h4 := validD_iff.1 (validL_mem hv he)
    have h5 := getV_some (l := madeV l) (r := d.1) (by rw [m3]; omega)
    rw [m3, ← h2] at h5
    exact validL_mem m2 h5
  refine vec_ext hinc m1 hval m2 fun r => ?_
  rw [m3]
  by_cases hr : ∃ d ∈ l', d.1 = r
  · obtain ⟨d, hd, rfl⟩ := hr
    rw [getV_mem hinc hd, (hmem d hd).2]
  · have hno : ∀ a ∈ l', a.1 ≠ r := fun a ha e => hr ⟨a, ha, e⟩
    rw [getV_zero hno]
    have h2 := h.keys r
    rw [hl, Bool.false_or] at h2
    have h3 : acc.any (fun d => d.1 == r) = false := by
      rw [List.any_eq_false]
      intro a ha e
      exact hno a (hs.1.mem_iff.2 ha) (by simpa using e)
    rw [h3] at h2
    have h4 := Maps.atKey_of_not_has h2 (numL 0)
    rw [hm.vals] at h4
    exact (numL_inj h4).symm
theorem owns_size {H : Type} {w : World} {P : Program} {k : TypeId} {R : Value → Option (DataW H × List MemPlace)} {b n : Nat} {D : DataW H} (h : w.ownsMap P k R b n D) : Maps.size D ≤ n := by
  obtain ⟨es, clock, _, _, hs, rfl⟩ := h
  rw [Maps.size_eq, length_sorted]
  simpa using hs
end Go.Proofs.Ytjbakmmmgejhlaa

/-
  vector.made.
-/
namespace Go.Proofs.Ytjbakmmmgejhlaa
open Go.RowKit Go.Maps

theorem lawI : Keyed Try.prog 3 := int_keyed Try.underlying3
theorem zeroI (w : World) : (zeroValue 3).run Try.prog w = .ok (.int .i64 0) w := by kernel_rfl
theorem wf_valid {x : Int} (h : 0 ≤ x ∧ x ≤ 4294967295) : (Lit.int .i64 x).wf = true := WalkArith.wf_i64 (by omega)
theorem wf_max {a b : Int} (h1 : (Lit.int .i64 a).wf = true) (h2 : (Lit.int .i64 b).wf = true) : (Lit.int .i64 (max a b)).wf = true := by
  rcases Int.le_total a b with h | h
  · rw [Int.max_eq_right h]; exact h2
  · rw [Int.max_eq_left h]; exact h1
def MadeRel (w : World) (n : Nat) (l : List Dot) (i : Value) (wr : World) : Prop :=
  ∃ (k : Nat) (D : DU), i = .int .i64 k ∧ k ≤ n ∧ wr.ownsMap Try.prog 3 (plainElem Try.prog 3) w.heap.size k D ∧ Below w.heap.size w wr ∧ MapAt D (l.take k)
def TakeRel (w : World) (D : DU) (n r : Nat) (v : Value) (wr : World) : Prop :=
  ∃ (left : Lit → Bool) (cnt : Nat) (acc : List Dot), wr.ranges Try.prog 3 (plainElem Try.prog 3) w.heap.size r n D left cnt ∧ Below w.heap.size w wr ∧ Row wr (r + 1) v acc ∧ r + 1 ≤ wr.heap.size ∧ acc.length + cnt ≤ n ∧ LeftAt D left acc

set_option maxRecDepth 100000 in
set_option maxHeartbeats 4000000 in
theorem vmade (A : Option Addr) (n c : Nat) (l : List Dot) (w : World) (h : Dots w A n c l) (hs : Small n) (hv : validL l = true) :
    Calls Try.prog 53 #[.slice A n c] w (Ret w (IsRow w.heap.size (madeV l))) := by
  have hmm := @run_makeMap Try.prog
  have hsn := hs.out
  have hn := h.big
  have HL := Lib.hid h.len
  have H := Lib.hid h; have HV := Lib.hid hv; clear h hv
  go_enter Try.func53, Try.ntmps53
  go_wp2
  go_loopw [12] (fun i wr => MadeRel w n l i wr) (fun i _ => n - (intOf i).toNat)
  case atStart => exact ⟨0, .map [], rfl, Nat.zero_le _, World.ownsMap_made _ _ _ _, (Below.refl _ _).alloc (Nat.le_refl _) _, MapAt.nil_⟩
  case round =>
    obtain ⟨k, D, rfl, hk, hown, hb, hm⟩ := hrel
    have OWN := Lib.hid hown; have HB := Lib.hid hb; have HM := Lib.hid hm
    clear hown hb hm
    by_cases hlt : k < n
    · obtain ⟨b, o, x, y, rfl, hbk, e0, d1, c1, c2⟩ := (H.out.mono HB.out).at_ (k := k) hlt
      have hxy : validD (x, y) = true := validL_mem HV.out (List.mem_of_getElem? e0)
      have hxy' := validD_iff.1 hxy
      have hx1 : 0 ≤ x := by omega
      have hx2 : x ≤ 4294967295 := by omega
      have hy1 : 0 ≤ y := by omega
      have hy2 : y ≤ 4294967295 := by omega
      have wfx := Lib.hid (wf_valid ⟨hx1, hx2⟩); have wfy := Lib.hid (wf_valid ⟨hy1, hy2⟩)
      have E0 := Lib.hid e0
      have hzr := World.block_lt_of_cell? wr _ c1
      clear d1 e0 hxy hxy'
      go_wp2_with (first
        | (at_lookup; refine wpList_lookup_own_int _ rfl _ _ 101 rfl 3 3 .i64 lawI Try.underlying101 Try.underlying3 (zeroI _) w.heap.size k _ rfl (OWN.out.alloc _) _ _ rfl (keyOf_int_mk Try.underlying3 wfx.out) ?_; intro c0 hat hwc; have HAT := Lib.hid hat; have HWC := Lib.hid hwc; clear hat hwc)
        | (at_mapUpdate; refine wpList_mapUpdate_own _ rfl _ _ _ 101 rfl 3 3 lawI Try.underlying101 _ w.heap.size k _ rfl (OWN.out.alloc _) (by unfold maxLen; omega) _ _ _ rfl rfl (keyOf_int_mk Try.underlying3 wfx.out) _ [] (plainElem_int Try.underlying3 (wf_max HWC.out wfy.out)) ?_; intro w1 hown1 hgrow1; have OWN1 := Lib.hid hown1; have HG1 := Lib.hid hgrow1; clear hown1 hgrow1)
        | go_in)
      go_roundw
      case rel => exact ⟨k + 1, _, by simp, hlt, OWN1.out, ((HB.out.alloc HB.out.size _).grown HG1.out (by have := HB.out.size; simp; omega) (fun q hq => by cases hq; exact Nat.le_refl _)), by rw [take_snoc E0.out]; exact HM.out.put x y c0 HAT.out⟩
      case measure => simp [intOf]; omega
    · have hm : MapAt D l := by have := HM.out; rwa [List.take_of_length_le (by rw [← HL.out]; omega)] at this
      have HM2 := Lib.hid hm
      have hown := OWN.out.mono hk
      have OWN2 := Lib.hid hown
      clear hm HM OWN hown
      go_wp2_with (first
        | (at_range; refine wpList_range_own _ rfl _ 101 rfl 3 3 lawI Try.underlying101 _ w.heap.size n D rfl OWN2.out ?_; intro w0 hrg0 hg0 hs0; have RG0 := Lib.hid hrg0; have HG0 := Lib.hid hg0; have HS0 := Lib.hid hs0; clear hrg0 hg0 hs0)
        | go_in)
      go_frame
      have hbw : Below w.heap.size w w0 := HB.out.grown HG0.out HB.out.size (fun q hq => nomatch hq)
      have start : TakeRel w D n wr.heap.size (.slice none 0 0) w0 := ⟨_, _, [], RG0.out, hbw, Row.nil_ _ _, by rw [HS0.out]; omega, by have := owns_size OWN2.out; simp; omega, LeftAt.start D⟩
      have START := Lib.hid start
      have hbr := OWN2.out.lt
      clear start hbw RG0 HG0 HS0
      generalize wr.heap.size = r at *
      go_loopw [6] (fun v w2 => TakeRel w D n r v w2) (fun _ w2 => w2.rangeLeft w.heap.size r)
      case atStart => exact START.out
      case round =>
        clear START
        obtain ⟨left, cnt, acc, hrg, hb2, hrow, hr2, hcnt, hleft⟩ := hrel
        have RG := Lib.hid hrg; have HB2 := Lib.hid hb2; have ROW := Lib.hid hrow; have LEFT := Lib.hid hleft
        clear hrg hb2 hrow hleft
        go_wp2_with (first
          | (at_next; refine wpList_next_ranges_ii _ rfl _ rfl 3 3 .i64 .i64 lawI Try.underlying3 Try.underlying3 w.heap.size r n _ _ _ rfl RG.out ?_ ?_)
          | go_in)
        · intro _ hl0
          have HL0 := Lib.hid hl0
          clear hl0
          have F := Lib.hid (vsort (r + 1) u6 acc wr ROW.out (by unfold Small; omega))
          go_wp2_with (go_at_call 68; ((with_reducible refine F.out.mono ?_); rintro e w1 ⟨rfl, hb3, l', hso, hr3⟩; have HB3 := Lib.hid hb3; have HSO := Lib.hid hso; have HR3 := Lib.hid hr3; clear hb3 hso hr3))
          go_ret
          have e := made_of HM2.out LEFT.out HL0.out HV.out HSO.out
          exact ⟨_, rfl, HB2.out.trans (HB3.out.mono (by omega)), by rw [← e]; exact Row.low HR3.out (by omega)⟩
        · intro x c w1 cnt1 hwx hwc hlx hat hrg1 hlt hg1 hs1 hen
          have hle := LEFT.out.next x c hlx hat
          have hro : Row w1 (r + 1) u6 acc := Row.grown ROW.out hg1 (.inr (fun e => by have := Row.own _ ROW.out r e; omega))
          have hd := Dots.one w1 x c
          rw [hs1] at hd
          have hb3 : Below w.heap.size w w1 := HB2.out.grown hg1 HB2.out.size (fun q hq => by cases hq; omega)
          have RG1 := Lib.hid hrg1; have LE := Lib.hid hle; have RO := Lib.hid hro; have D1 := Lib.hid hd; have HB3 := Lib.hid hb3; have LT := Lib.hid hlt; have HS1 := Lib.hid hs1
          clear hlx hat hrg1 hlt hg1 hle hro hd hb3 ROW LEFT hwx hwc
          go_wp2_with (at_builtin; refine wpList_app (B := r + 1) (l := acc) (k := [(x, c)]) rfl rfl Try.underlying29 rfl rfl (Row.mono RO.out (by go_grown)) D1.out (by simp; omega) (by simp; omega) ?_; intro v' w' hr' hg'; have HR' := Lib.hid hr'; have HG' := Lib.hid hg'; clear hr' hg'; simp only [Act.put, List.setIfInBounds_toArray, List.set_cons_zero, List.set_cons_succ])
          have hlow : ∀ q, u6.ownBlock = some q → r + 1 ≤ q := fun q hq => Row.own _ RO.out q hq
          have hrgn := (RG1.out.alloc (.cells #[.int .i64 x, .int .i64 c] 27)).kept HG'.out (fun e => by have := hlow _ e.symm; omega) (fun e => by have := hlow _ e.symm; omega)
          go_roundw
          case rel => exact ⟨_, cnt1, acc ++ [(x, c)], hrgn, (HB3.out.alloc HB3.out.size _).grown HG'.out (by have := HB3.out.size; simp; omega) (fun q hq => by have := hlow q hq; omega), HR'.out, Nat.le_trans (by simp; omega) HG'.out.size, by have := LT.out; simp; omega, LE.out⟩
          case measure => rw [hrgn.left_eq, RG.out.left_eq]; exact LT.out
theorem entersMadeV : Enters Try.prog 53 := enters_of Try.func53 (by kernel_rfl) rfl
end Go.Proofs.Ytjbakmmmgejhlaa

/-
  vector.Merge, vector.Raise.
-/
namespace Go.Proofs.Ytjbakmmmgejhlaa
open Go.RowKit

/-- Two results: a value, and an error number. -/
def IsPair (F : VT) (k : Int) (w : World) (v : Value) : Prop := ∃ x, v = .tuple #[x, .int .i64 k] ∧ F w x
instance (F : VT) [hF : Grows F] (k : Int) : Grows (IsPair F k) := ⟨fun hb ⟨x, e, h⟩ => ⟨x, e, hF.up hb h⟩⟩

set_option maxRecDepth 100000 in
set_option maxHeartbeats 1000000 in
theorem vmerge (A A' : Option Addr) (n c m d : Nat) (a b : List Dot) (w : World) (ha : Dots w A n c a) (hb : Dots w A' m d b) (hs : Small (n + m)) (va : validV a = true) (vb : validV b = true) :
    Calls Try.prog 36 #[.slice A n c, .slice A' m d] w (Ret w (IsPair (IsRow w.heap.size (mergeV a b)) 0)) := by
  have f1 := vvalid A n c a w ha
  rw [va] at f1
  have F1 := Lib.hid f1; have HA := Lib.hid ha; have HB := Lib.hid hb; have VA := Lib.hid va; have VB := Lib.hid vb
  clear f1 ha hb va vb
  go_enter Try.func36, Try.ntmps36
  go_wp2_with fail
  refine F1.out.mono ?_
  rintro e w1 ⟨_, rfl, hb1, rfl⟩
  have f2 := vvalid A' m d b w1 (HB.out.mono hb1)
  rw [VB.out] at f2
  have F2 := Lib.hid f2; clear f2 F1
  go_wp2_with fail
  refine F2.out.mono ?_
  rintro e w2 ⟨_, rfl, hb2, rfl⟩
  have hb12 := hb1.le hb2
  have hb3 : Below w.heap.size w (w2.alloc (.cells #[.slice A n c, .slice A' m d] 29)) := hb12.alloc hb12.size _
  have f3 := vconcat A A' n c m d w2.heap.size a b (w2.alloc (.cells #[.slice A n c, .slice A' m d] 29)) (HA.out.mono hb3) (HB.out.mono hb3) hs (by simp [go_sem]) (by simp [go_sem])
  have F3 := Lib.hid f3; have HB3 := Lib.hid hb3
  have hsz := hb3.size
  clear f3 F2 hb12 hb1 hb2 hb3
  go_wp2_with fail
  refine F3.out.mono ?_
  rintro e w3 ⟨v, rfl, hb4, hr⟩
  obtain ⟨A3, n3, c3, rfl, hd3⟩ := IsRow.dots hr
  have hb5 := HB3.out.le hb4
  obtain ⟨i1, v1⟩ : incV a = true ∧ validL a = true := by have := VA.out; unfold validV at this; simpa using this
  obtain ⟨i2, v2⟩ : incV b = true ∧ validL b = true := by have := VB.out; unfold validV at this; simpa using this
  have f4 := vmade A3 n3 c3 (a ++ b) w3 hd3 (by have := hs.out; have := HA.out.len; have := HB.out.len; have := hd3.len; unfold Small; simp at this; omega) (validL_of fun x hx => by rcases List.mem_append.1 hx with h | h; exact validL_mem v1 h; exact validL_mem v2 h)
  rw [made_append ((incV_inc a).1 i1) v1] at f4
  have F4 := Lib.hid f4; have HB5 := Lib.hid hb5
  have hsz2 := hb5.size
  clear f4 F3 hb4 hb5 hr hd3 i1 i2 v1 v2 HB3
  go_wp2_with fail
  refine F4.out.mono ?_
  rintro e w4 ⟨v, rfl, hb6, hr⟩
  have HB6 := Lib.hid (HB5.out.le hb6); have HR := Lib.hid (Row.low hr hsz2)
  clear hb6 hr F4
  go_wp2_with fail
  go_ret2
  exact ⟨_, rfl, HB6.out, _, rfl, HR.out⟩
theorem mergeV_length : ∀ (b a : List Dot), (mergeV a b).length ≤ a.length + b.length
  | [], a => Nat.le_refl _
  | d :: t, a => by
    have h1 := mergeV_length t (raiseV a d)
    have h2 := raiseV_length a d
    show (mergeV (raiseV a d) t).length ≤ a.length + (t.length + 1)
    omega
set_option maxRecDepth 100000 in
set_option maxHeartbeats 1000000 in
theorem vraise (x y : Int) (A : Option Addr) (n c : Nat) (l : List Dot) (w : World) (h : Dots w A n c l) (hs : Small (n + 1)) (hv : validV l = true) (hd : validD (x, y) = true) :
    Calls Try.prog 57 #[.slice A n c, .agg #[.int .i64 x, .int .i64 y]] w (Ret w (IsPair (IsRow w.heap.size (raiseV l (x, y))) 0)) := by
  have hb0 : Below w.heap.size w ((w.alloc (.cells #[.int .i64 x, .int .i64 y] 27)).alloc (.cells #[.int .i64 x, .int .i64 y] 27)) := by go_grown
  have f1 := vmerge A (some ⟨w.heap.size + 1, 0, none⟩) n c 1 1 l [(x, y)] ((w.alloc (.cells #[.int .i64 x, .int .i64 y] 27)).alloc (.cells #[.int .i64 x, .int .i64 y] 27)) (h.mono hb0) (by have := Dots.one (w.alloc (.cells #[.int .i64 x, .int .i64 y] 27)) x y; simpa using this) hs hv (by unfold validV validL; simp [incV, hd])
  rw [merge_one] at f1
  have F1 := Lib.hid f1; have HB0 := Lib.hid hb0
  clear f1 hb0 h hv hd
  go_enter Try.func57, Try.ntmps57
  go_wp2_with fail
  refine F1.out.mono ?_
  rintro e w1 ⟨_, rfl, hb1, v, rfl, hr⟩
  have HB1 := Lib.hid (HB0.out.le hb1); have HR := Lib.hid (Row.low hr HB0.out.size)
  clear hb1 hr F1
  go_wp2
  go_ret2
  exact ⟨_, rfl, HB1.out, _, rfl, HR.out⟩
end Go.Proofs.Ytjbakmmmgejhlaa

/-
  context.Compact: what holds at the head of its loop.
-/
namespace Go.Proofs.Ytjbakmmmgejhlaa
open Go.RowKit

theorem Row.asDots {w : World} {B : Nat} {A : Option Addr} {n c : Nat} {l : List Dot} (h : Row w B (.slice A n c) l) : Dots w A n c l := by
  obtain ⟨A', c', e, hd⟩ := Row.dots h
  cases e; exact hd
theorem Row.upto {w : World} {B : Nat} {v : Value} {l : List Dot} (h : Row w B v l) : ∀ k, v.ownBlock = some k → k < w.heap.size := fun k hk => (World.ownsRow.lt h k hk).2

structure CAt (b0 N : Nat) (W wr : World) (c s : Ctx) (A1 : Option Addr) (n1 c1 : Nat) (A2 : Option Addr) (n2 c2 : Nat) (l : List Dot) : Prop where
  cell0 : wr.cell? ⟨N, 0, none⟩ = some (.slice A1 n1 c1)
  cell1 : wr.cell? ⟨N, 1, none⟩ = some (.slice A2 n2 c2)
  free : ∀ o, wr.frozen? ⟨N, o, none⟩ = false
  below : Below N W wr
  low : b0 ≤ N
  r1 : Row wr b0 (.slice A1 n1 c1) s.1
  o1 : ∀ k, (Value.slice A1 n1 c1).ownBlock = some k → k ≠ N
  r2 : Row wr (N + 1) (.slice A2 n2 c2) s.2
  apart : ∀ k, (Value.slice A1 n1 c1).ownBlock = some k → (Value.slice A2 n2 c2).ownBlock ≠ some k
  mid : Mid c s l
  big : N + 1 ≤ wr.heap.size
section
variable {b0 N : Nat} {W wr w1 : World} {c s : Ctx} {A1 A2 A3 : Option Addr} {n1 c1 n2 c2 n3 c3 : Nat} {l t : List Dot} {d : Dot}
theorem CAt.mono (h : CAt b0 N W wr c s A1 n1 c1 A2 n2 c2 l) (hE : Below wr.heap.size wr w1) : CAt b0 N W w1 c s A1 n1 c1 A2 n2 c2 l :=
  ⟨cellKeep hE h.cell0, cellKeep hE h.cell1, fun o => (hE.frozen (p := ⟨N, o, none⟩) h.big).trans (h.free o), h.below.trans (hE.mono (by have := h.big; omega)), h.low, Row.mono h.r1 hE, h.o1, Row.mono h.r2 hE, h.apart, h.mid, Nat.le_trans h.big hE.size⟩
theorem CAt.skip (h : CAt b0 N W wr c s A1 n1 c1 A2 n2 c2 (d :: t)) (hs : stepC s d = s) : CAt b0 N W wr c s A1 n1 c1 A2 n2 c2 t :=
  ⟨h.cell0, h.cell1, h.free, h.below, h.low, h.r1, h.o1, h.r2, h.apart, by have := h.mid.next; rwa [hs] at this, h.big⟩
theorem CAt.raise (h : CAt b0 N W wr c s A1 n1 c1 A2 n2 c2 (d :: t)) (hs : stepC s d = (raiseV s.1 d, s.2)) (hE : Below wr.heap.size wr w1) (hr : Row w1 wr.heap.size (.slice A3 n3 c3) (raiseV s.1 d)) :
    CAt b0 N W (w1.setCell ⟨N, 0, none⟩ (.slice A3 n3 c3)) c (raiseV s.1 d, s.2) A3 n3 c3 A2 n2 c2 t := by
  have hg := h.mono hE
  have hbig := h.big
  have hown : ∀ k, (Value.slice A3 n3 c3).ownBlock = some k → wr.heap.size ≤ k := fun k hk => Row.own _ hr k hk
  refine ⟨cell_set hg.cell0, cell_far (by simp) hg.cell1, fun o => (World.frozen?_setCell _ _ _ _).trans (hg.free o), hg.below.setCell (p := ⟨N, 0, none⟩) (by simp) _, h.low, Row.set_ (Row.low hr (by have := h.low; omega)) (fun k hk => by have := hown k hk; show k ≠ N; omega) _,
    fun k hk => by have := hown k hk; omega, Row.set_ hg.r2 (fun k hk => by have := Row.own _ hg.r2 k hk; show k ≠ N; omega) _, fun k hk e => ?_, by have := h.mid.next; rwa [hs] at this, by have := hg.big; simp [World.setCell]; omega⟩
  have h1 := hown k hk
  have h2 := Row.upto h.r2 k e
  omega
theorem CAt.put {v' : Value} (h : CAt b0 N W wr c s A1 n1 c1 A2 n2 c2 (d :: t)) (hs : stepC s d = (s.1, s.2 ++ [d])) (ev : v' = .slice A3 n3 c3) (hr : Row w1 (N + 1) v' (s.2 ++ [d])) (hg : wr.grownBy w1 (Value.slice A2 n2 c2).ownBlock)
    (hw : ∀ g, v'.ownBlock = some g → (Value.slice A2 n2 c2).ownBlock = some g ∨ wr.heap.size ≤ g) :
    CAt b0 N W (w1.setCell ⟨N, 1, none⟩ v') c (s.1, s.2 ++ [d]) A1 n1 c1 A3 n3 c3 t := by
  subst ev
  have hbig := h.big
  have hne : some N ≠ (Value.slice A2 n2 c2).ownBlock := fun e => by have := Row.own _ h.r2 N e.symm; omega
  have r1 : Row w1 b0 (.slice A1 n1 c1) s.1 := Row.grown h.r1 hg (by
    cases e : (Value.slice A1 n1 c1).ownBlock with
    | none => exact .inl rfl
    | some k => exact .inr (fun e2 => h.apart k e e2.symm))
  refine ⟨cell_far (by simp) (hg.cell h.cell0 hne), cell_set (hg.cell h.cell1 hne), fun o => (World.frozen?_setCell _ _ _ _).trans ((World.frozen?_of_block (hg.block N (by omega) hne)).trans (h.free o)),
    (h.below.grown hg (by omega) (fun q hq => by have := Row.own _ h.r2 q hq; omega)).setCell (p := ⟨N, 1, none⟩) (by simp) _, h.low, Row.set_ r1 (fun k hk => h.o1 k hk) _, h.o1, Row.set_ hr (fun k hk => by have := Row.own _ hr k hk; show k ≠ N; omega) _,
    fun k hk e => ?_, by have := h.mid.next; rwa [hs] at this, by have := hg.size; simp [World.setCell]; omega⟩
  rcases hw k e with h1 | h1
  · exact h.apart k hk h1
  · have := Row.upto h.r1 k hk; omega
end
theorem step_skip {s : Ctx} {d : Dot} (hd : validD d = true) (h : d.2 ≤ getV s.1 d.1) : stepC s d = s := by unfold stepC; rw [if_pos ((hasV_valid hd).2 h)]
theorem step_raise {s : Ctx} {d : Dot} (hd : validD d = true) (h : d.2 = getV s.1 d.1 + 1) : stepC s d = (raiseV s.1 d, s.2) := by unfold stepC; rw [if_neg (fun e => by have := (hasV_valid hd).1 e; omega), if_pos (by simpa using h)]
theorem step_put {s : Ctx} {d : Dot} (hd : validD d = true) (h : getV s.1 d.1 + 1 < d.2) : stepC s d = (s.1, s.2 ++ [d]) := by unfold stepC; rw [if_neg (fun e => by have := (hasV_valid hd).1 e; omega), if_neg (by simp; omega)]
/-- The two slices of a context lie in blocks of the call's own, each in another. -/
def IsConA (b : Nat) (c : Ctx) (w : World) (v : Value) : Prop := ∃ A n ca B m cb, v = .agg #[.slice A n ca, .slice B m cb] ∧ Row w b (.slice A n ca) c.1 ∧ Row w b (.slice B m cb) c.2 ∧ ∀ k, (Value.slice A n ca).ownBlock = some k → (Value.slice B m cb).ownBlock ≠ some k
instance (b : Nat) (c : Ctx) : Grows (IsConA b c) := ⟨fun hb ⟨A, n, ca, B, m, cb, e, h1, h2, h3⟩ => ⟨A, n, ca, B, m, cb, e, h1.mono hb, h2.mono hb, h3⟩⟩
theorem IsConA.con {b : Nat} {c : Ctx} {w : World} {v : Value} (h : IsConA b c w v) : IsCon c w v := let ⟨A, n, ca, B, m, cb, e, h1, h2, _⟩ := h; ⟨A, n, ca, B, m, cb, e, h1.asDots, h2.asDots⟩
theorem IsConA.low {b b' : Nat} {c : Ctx} {w : World} {v : Value} (h : IsConA b c w v) (hb : b' ≤ b) : IsConA b' c w v := let ⟨A, n, ca, B, m, cb, e, h1, h2, h3⟩ := h; ⟨A, n, ca, B, m, cb, e, h1.low hb, h2.low hb, h3⟩
theorem IsConA.nil_ (b : Nat) (w : World) : IsConA b ([], []) w (.agg #[.slice none 0 0, .slice none 0 0]) := ⟨none, 0, 0, none, 0, 0, rfl, Row.nil_ _ _, Row.nil_ _ _, fun k hk => by simp [Value.ownBlock] at hk⟩
def CompIRel (b0 N : Nat) (W : World) (n m : Nat) (c : Ctx) (i : Value) (wr : World) : Prop :=
  ∃ (k : Nat) (s : Ctx) (A1 : Option Addr) (n1 c1 : Nat) (A2 : Option Addr) (n2 c2 : Nat), i = .int .i64 k ∧ k ≤ m ∧ CAt b0 N W wr c s A1 n1 c1 A2 n2 c2 (c.2.drop k) ∧ n1 ≤ n + k ∧ n2 ≤ k ∧ passC c = (c.2.drop k).foldl stepC s
end Go.Proofs.Ytjbakmmmgejhlaa

/-
  context.Compact.
-/
namespace Go.Proofs.Ytjbakmmmgejhlaa
open Go.RowKit

set_option maxRecDepth 100000 in
set_option maxHeartbeats 1000000 in
theorem icompact_no (A B : Option Addr) (n ca m cb : Nat) (c : Ctx) (w : World) (h : Con w A n ca B m cb c) (hv : validC c = false) :
    Calls Try.prog 37 #[.agg #[.slice A n ca, .slice B m cb]] w (Ret w (IsPair (IsConA w.heap.size ([], [])) 2)) := by
  have hb0 : Below w.heap.size w ((w.alloc (conBox A n ca B m cb)).alloc (conBox none 0 0 none 0 0)) := by go_grown
  have z0 : ((w.alloc (conBox A n ca B m cb)).alloc (conBox none 0 0 none 0 0)).cell? ⟨w.heap.size + 1, 0, none⟩ = some (.slice none 0 0) := by simp [go_sem]
  have z1 : ((w.alloc (conBox A n ca B m cb)).alloc (conBox none 0 0 none 0 0)).cell? ⟨w.heap.size + 1, 1, none⟩ = some (.slice none 0 0) := by simp [go_sem]
  have zf : ∀ o, ((w.alloc (conBox A n ca B m cb)).alloc (conBox none 0 0 none 0 0)).frozen? ⟨w.heap.size + 1, o, none⟩ = false := fun o => by simp [go_sem]
  have f := cvalid14 A B n ca m cb c _ (h.mono hb0)
  rw [hv] at f
  have F := Lib.hid f; have HB := Lib.hid hb0; have Z0 := Lib.hid z0; have Z1 := Lib.hid z1; have ZF := Lib.hid zf
  clear f hb0 z0 z1 zf h hv
  go_enter Try.func37, Try.ntmps37
  go_wp2_with fail
  refine F.out.mono ?_
  rintro e w1 ⟨_, rfl, hb1, rfl⟩
  have x0 := cellKeep hb1 Z0.out
  have x1 := cellKeep hb1 Z1.out
  have hz1 : w.heap.size + 1 < w1.heap.size := World.block_lt_of_cell? w1 _ x0
  have hz0 : w.heap.size + 1 < ((w.alloc (conBox A n ca B m cb)).alloc (conBox none 0 0 none 0 0)).heap.size := World.block_lt_of_cell? _ _ Z0.out
  have x2 := (hb1.frozen (p := ⟨w.heap.size + 1, 0, none⟩) hz0).trans (ZF.out 0)
  have x3 := (hb1.frozen (p := ⟨w.heap.size + 1, 1, none⟩) hz0).trans (ZF.out 1)
  have HB1 := Lib.hid hb1
  clear hb1 hz0
  go_wp2
  have s0 := cell_set (v := .slice none 0 0) x0
  have s1 := cell_set (v := .slice none 0 0) (cell_far (b := ⟨w.heap.size + 1, 0, none⟩) (v := .slice none 0 0) (by simp) x1)
  refine bodyPost_ret (v := .tuple #[.agg #[.slice none 0 0, .slice none 0 0], .int .i64 2]) (by simp [results, Try.results37, go_sem, s0, s1]) rfl ?_
  exact ⟨_, rfl, ((HB.out.le HB1.out).setCell (p := ⟨w.heap.size + 1, 0, none⟩) (by simp) _).setCell (p := ⟨w.heap.size + 1, 1, none⟩) (by simp) _, _, rfl, IsConA.nil_ _ _⟩

set_option maxRecDepth 100000 in
set_option maxHeartbeats 4000000 in
theorem icompact (A B : Option Addr) (n ca m cb : Nat) (c : Ctx) (w : World) (h : Con w A n ca B m cb c) (hs : Small (n + m + 1)) (hv : validC c = true) :
    Calls Try.prog 37 #[.agg #[.slice A n ca, .slice B m cb]] w (Ret w (IsPair (IsConA w.heap.size (passC c)) 0)) := by
  have hb0 : Below w.heap.size w ((w.alloc (conBox A n ca B m cb)).alloc (conBox none 0 0 none 0 0)) := by go_grown
  have y0 : ((w.alloc (conBox A n ca B m cb)).alloc (conBox none 0 0 none 0 0)).cell? ⟨w.heap.size, 0, none⟩ = some (.slice A n ca) := by simp [go_sem]
  have y1 : ((w.alloc (conBox A n ca B m cb)).alloc (conBox none 0 0 none 0 0)).cell? ⟨w.heap.size, 1, none⟩ = some (.slice B m cb) := by simp [go_sem]
  have z0 : ((w.alloc (conBox A n ca B m cb)).alloc (conBox none 0 0 none 0 0)).cell? ⟨w.heap.size + 1, 0, none⟩ = some (.slice none 0 0) := by simp [go_sem]
  have z1 : ((w.alloc (conBox A n ca B m cb)).alloc (conBox none 0 0 none 0 0)).cell? ⟨w.heap.size + 1, 1, none⟩ = some (.slice none 0 0) := by simp [go_sem]
  have zf : ∀ o, ((w.alloc (conBox A n ca B m cb)).alloc (conBox none 0 0 none 0 0)).frozen? ⟨w.heap.size + 1, o, none⟩ = false := fun o => by simp [go_sem]
  have h0 := h.mono hb0
  have f := cvalid14 A B n ca m cb c _ h0
  rw [hv] at f
  have hm := h.k.big
  have hsn := hs.out
  have F := Lib.hid f; have HB := Lib.hid hb0; have Y0 := Lib.hid y0; have Y1 := Lib.hid y1; have Z0 := Lib.hid z0; have Z1 := Lib.hid z1; have ZF := Lib.hid zf; have H := Lib.hid h; have H0 := Lib.hid h0; have HV := Lib.hid hv
  clear f hb0 y0 y1 z0 z1 zf h h0 hv
  go_enter Try.func37, Try.ntmps37
  go_wp2_with (go_at_call 14; ((with_reducible refine F.out.mono ?_); rintro e w1 ⟨_, rfl, hb1, rfl⟩; have HB1 := Lib.hid hb1; have x0 := cellKeep hb1 Y0.out; clear hb1))
  have f2 := cclone29 A n ca c.1 w1 (H0.out.v.mono HB1.out) (by unfold Small; omega)
  have F2 := Lib.hid f2; clear f2
  refine F2.out.mono ?_
  rintro e w2 ⟨v, rfl, hb2, hr2⟩
  obtain ⟨A1, n1, c1, rfl, hd1⟩ := IsRow.dots hr2
  have hn1 : n1 ≤ n := by rw [hd1.len, H.out.v.len]; exact Nat.le_refl _
  have HB2 := Lib.hid (HB1.out.le hb2); have HR2 := Lib.hid hr2
  have x1 := cellKeep HB2.out Y1.out
  have hz2 : w.heap.size + 1 < w2.heap.size := World.block_lt_of_cell? w2 _ (cellKeep HB2.out Z0.out)
  have hz3 : w.heap.size < w2.heap.size := by omega
  clear hb2 hr2 hd1 F F2 x0
  go_wp2
  have hw2 : Below w2.heap.size w2 (w2.alloc (conBox A1 n1 c1 none 0 0)) := (Below.refl _ _).alloc (Nat.le_refl _) _
  have hsz1 := HB1.out.size
  have start : CompIRel (w.heap.size + 2) w2.heap.size w2 n m c (.int .i64 ((0 : Nat) : Int)) (w2.alloc (conBox A1 n1 c1 none 0 0)) :=
    ⟨0, (c.1, []), A1, n1, c1, none, 0, 0, rfl, Nat.zero_le _, ⟨by simp [go_sem], by simp [go_sem], fun o => by simp [go_sem], hw2, by omega, Row.low (Row.mono HR2.out hw2) (by simp at hsz1; omega), fun k hk => by have := Row.upto HR2.out k hk; omega, Row.nil_ _ _, fun k hk => by simp [Value.ownBlock], Mid.start (ok_iff.1 HV.out), by simp⟩, hn1, Nat.le_refl _, rfl⟩
  have START := Lib.hid start
  have HCK := Lib.hid (H0.out.k.mono HB2.out)
  have HLK := Lib.hid H.out.k.len
  have Z20 := Lib.hid (cellKeep HB2.out Z0.out); have Z21 := Lib.hid (cellKeep HB2.out Z1.out)
  have ZF2 := Lib.hid (fun o => (HB2.out.frozen (p := ⟨w.heap.size + 1, o, none⟩) (by simp)).trans (ZF.out o))
  have HBW := Lib.hid (HB.out.le HB2.out)
  clear start hw2 x1 HR2 HB2 HB1 HB Y0 Y1 Z0 Z1 ZF H0 H HV hsz1 hn1
  go_loopw [19] (fun i wr => CompIRel (w.heap.size + 2) w2.heap.size w2 n m c i wr) (fun i _ => m - (intOf i).toNat)
  case atStart => exact START.out
  case round =>
    clear START
    obtain ⟨k, s, A3, n3, c3, A4, n4, c4, rfl, hk, hat, hn3, hn4, hf⟩ := hrel
    have hbig := hat.big
    have hcl0 := hat.cell0
    have hcl1 := hat.cell1
    have hfr0 := hat.free 0
    have hfr1 := hat.free 1
    have HAT := Lib.hid hat; have HF := Lib.hid hf
    clear hat hf
    have hzN : w2.heap.size < wr.heap.size := by omega
    by_cases hlt : k < m
    · obtain ⟨b, o, x, y, rfl, hbk, e0, d1, k1, k2⟩ := (HCK.out.mono HAT.out.below).at_ (k := k) hlt
      have hd : validD (x, y) = true := validL_mem HAT.out.mid.dots (List.mem_append_right _ (by rw [d1]; exact List.mem_cons_self))
      have hat := HAT.out
      rw [d1] at hat
      have HA := Lib.hid hat
      have hbw : Below wr.heap.size wr (wr.alloc (.cells #[.int .i64 x, .int .i64 y] 27)) := by go_grown
      have hA2 := hat.mono hbw
      have fg := vget A3 n3 c3 s.1 x _ hA2.r1.asDots
      have hgb := getV_bd s.1 x hat.mid.vec
      have hyb := validD_iff.1 hd
      have hx1 : 1 ≤ x := hyb.1
      have hy1 : 1 ≤ y := hyb.2.2.1
      have hy2 : y ≤ 4294967295 := hyb.2.2.2
      have ss := step_skip (s := s) hd; have sr := step_raise (s := s) hd; have sp := step_put (s := s) hd
      simp only at ss sr sp
      have D1 := Lib.hid d1; have A2 := Lib.hid hA2; have HD := Lib.hid hd; have FG := Lib.hid fg
      clear d1 hat hA2 hd fg e0 hyb hbw
      have hst : ∀ w3, Below (wr.alloc (.cells #[.int .i64 x, .int .i64 y] 27)).heap.size (wr.alloc (.cells #[.int .i64 x, .int .i64 y] 27)) w3 → w3.cell? ⟨wr.heap.size, 0, none⟩ = some (.int .i64 x) ∧ w3.cell? ⟨wr.heap.size, 1, none⟩ = some (.int .i64 y) ∧ wr.heap.size < w3.heap.size := fun w3 hb3 =>
        ⟨cellKeep hb3 (by simp [go_sem]), cellKeep hb3 (by simp [go_sem]), by have := hb3.size; simp at this; omega⟩
      have HST := Lib.hid hst
      clear hst
      have hn3' : n3 ≤ 9223372036854775807 := by omega
      go_wp2_with fail
      refine FG.out.mono ?_
      rintro e w3 ⟨_, rfl, hb3, rfl⟩
      obtain ⟨t0, t1, hz5⟩ := HST.out w3 hb3
      have A3' := Lib.hid (A2.out.mono hb3)
      have HB3 := Lib.hid hb3
      have u0 := A3'.out.cell0; have u1 := A3'.out.cell1; have v0 := A3'.out.free 0; have v1 := A3'.out.free 1
      have hzN3 : w2.heap.size < w3.heap.size := by omega
      clear hb3 A2 FG HST hcl0 hcl1 hfr0 hfr1 HAT HA
      by_cases h1 : y ≤ getV s.1 x
      · have HS := Lib.hid (ss h1)
        clear ss sr sp
        generalize getV s.1 x = g at *
        have hne : (y == g + 1) = false := by rw [beq_eq_false_iff_ne]; omega
        have hgt : decide (g + 1 < y) = false := by rw [decide_eq_false_iff_not]; omega
        have hw : IntKind.i64.wrap (g + 1) = g + 1 := IntWalk.i64_in _ (by omega)
        go_wp2
        go_roundw
        case rel => exact ⟨k + 1, s, _, _, _, _, _, _, by simp, hlt, A3'.out.skip HS.out, by omega, by omega, by rw [HF.out, D1.out, List.foldl_cons, HS.out]⟩
        case measure => simp [intOf]; omega
      · by_cases h2 : y = getV s.1 x + 1
        · have HS := Lib.hid (sr h2)
          have hvv : validV s.1 = true := by unfold validV; rw [(incV_inc s.1).2 A3'.out.mid.inc, A3'.out.mid.vec]; rfl
          have F := Lib.hid (vraise x y A3 n3 c3 s.1 w3 A3'.out.r1.asDots (by unfold Small; omega) hvv HD.out)
          have hl3 := Lib.hid A3'.out.r1.asDots.len
          clear ss sr sp hvv
          generalize hgg : getV s.1 x = g at *
          clear hgg
          have hne : (y == g + 1) = true := by rw [beq_iff_eq]; omega
          have hgt : decide (g + 1 < y) = false := by rw [decide_eq_false_iff_not]; omega
          have H2 := Lib.hid h2
          clear h2
          go_wp2_with fail
          refine F.out.mono ?_
          rintro e w4 ⟨_, rfl, hb4, v, rfl, hr⟩
          obtain ⟨A5, n5, c5, rfl, hd5⟩ := IsRow.dots hr
          have hn5 : n5 ≤ n + (k + 1) := by have h3 := raiseV_length s.1 (x, y); have h4 := hd5.len; have h5 := hl3.out; omega
          have A4' := Lib.hid (A3'.out.raise HS.out hb4 hr)
          have y0 := cellKeep hb4 A3'.out.cell0
          have y1 := (hb4.frozen (p := ⟨w2.heap.size, 0, none⟩) hzN3).trans (A3'.out.free 0)
          have hzN4 : w2.heap.size < w4.heap.size := by have := hb4.size; omega
          clear hb4 hr hd5 F u0 u1 v0 v1 t0 t1
          go_wp2
          go_roundw
          case rel => exact ⟨k + 1, _, _, _, _, _, _, _, by simp, hlt, A4'.out, hn5, by omega, by rw [HF.out, D1.out, List.foldl_cons, HS.out]⟩
          case measure => simp [intOf]; omega
        · have HS := Lib.hid (sp (by omega))
          have hl4 := Lib.hid A3'.out.r2.asDots.len
          clear ss sr sp
          generalize hgg : getV s.1 x = g at *
          clear hgg
          have hgt : decide (g + 1 < y) = true := by rw [decide_eq_true_iff]; omega
          have hb5 : Below w3.heap.size w3 (w3.alloc (.cells #[.int .i64 x, .int .i64 y] 27)) := by go_grown
          have A4' := Lib.hid (A3'.out.mono hb5)
          have DD := Lib.hid (Dots.one w3 x y)
          clear hb5
          go_wp2_with (at_builtin; refine wpList_appO (B := w2.heap.size + 1) (v := .slice A4 n4 c4) (l := s.2) (k := [(x, y)]) rfl rfl Try.underlying28 rfl rfl A4'.out.r2 DD.out (by have := hl4.out; simp; omega) (by simp; omega) ?_; intro v' w4 hr' hg' hw'; obtain ⟨A5, n5, c5, ev, hd5⟩ := IsRow.dots hr'; have hn5 : n5 ≤ k + 1 := (by have h4 := hd5.len; have h5 := hl4.out; simp at h4; omega); have A5' := Lib.hid (A4'.out.put HS.out ev hr' hg' hw'); have y0 := cellKeep (w := w4) (Below.refl _ _) (hg'.cell A4'.out.cell1 (fun e => by have h : w2.heap.size + 1 ≤ w2.heap.size := Row.own _ A4'.out.r2 _ e.symm; omega)); have hzN4 : w2.heap.size < w4.heap.size := World.block_lt_of_cell? w4 _ y0; have y1 := (World.frozen?_of_block (a := ⟨w2.heap.size, 1, none⟩) (hg'.block w2.heap.size (by have := A4'.out.big; omega) (fun e => by have h : w2.heap.size + 1 ≤ w2.heap.size := Row.own _ A4'.out.r2 _ e.symm; omega))).trans (A4'.out.free 1); subst ev; clear hr' hg' hw' hd5 u0 u1 v0 v1 t0 t1; simp only [Act.put, List.setIfInBounds_toArray, List.set_cons_zero, List.set_cons_succ])
          go_roundw
          case rel => exact ⟨k + 1, _, _, _, _, _, _, _, by simp, hlt, A5'.out, by omega, hn5, by rw [HF.out, D1.out, List.foldl_cons, HS.out]⟩
          case measure => simp [intOf]; omega
    · have hs0 : passC c = s := by have := HF.out; rwa [List.drop_of_length_le (by rw [← HLK.out]; omega)] at this
      have HSS := Lib.hid hs0
      have y0 := (HAT.out.below.cell (p := ⟨w.heap.size + 1, 0, none⟩) (by show w.heap.size + 1 < _; omega)).trans Z20.out
      have y1 := (HAT.out.below.cell (p := ⟨w.heap.size + 1, 1, none⟩) (by show w.heap.size + 1 < _; omega)).trans Z21.out
      have yf0 := (HAT.out.below.frozen (p := ⟨w.heap.size + 1, 0, none⟩) (by show w.heap.size + 1 < _; omega)).trans (ZF2.out 0)
      have yf1 := (HAT.out.below.frozen (p := ⟨w.heap.size + 1, 1, none⟩) (by show w.heap.size + 1 < _; omega)).trans (ZF2.out 1)
      have hz9 : w.heap.size + 1 < wr.heap.size := by omega
      clear hs0 HF
      go_wp2
      have s0 := cell_set (v := .slice A3 n3 c3) y0
      have s1 := cell_set (v := .slice A4 n4 c4) (cell_far (b := ⟨w.heap.size + 1, 0, none⟩) (v := .slice A3 n3 c3) (by simp) y1)
      refine bodyPost_ret (v := .tuple #[.agg #[.slice A3 n3 c3, .slice A4 n4 c4], .int .i64 0]) (by simp [results, Try.results37, go_sem, s0, s1]) rfl ?_
      have ho1 : ∀ j, (Value.slice A3 n3 c3).ownBlock = some j → j ≠ w.heap.size + 1 := fun j hj => by have := Row.own _ HAT.out.r1 j hj; omega
      have ho2 : ∀ j, (Value.slice A4 n4 c4).ownBlock = some j → j ≠ w.heap.size + 1 := fun j hj => by have := Row.own _ HAT.out.r2 j hj; omega
      refine ⟨_, rfl, ((HBW.out.trans (HAT.out.below.mono (by omega))).setCell (p := ⟨w.heap.size + 1, 0, none⟩) (by simp) _).setCell (p := ⟨w.heap.size + 1, 1, none⟩) (by simp) _, _, rfl, ?_⟩
      rw [HSS.out]
      exact ⟨_, _, _, _, _, _, rfl, Row.low (Row.set_ (Row.set_ HAT.out.r1 (p := ⟨w.heap.size + 1, 0, none⟩) ho1 _) (p := ⟨w.heap.size + 1, 1, none⟩) ho1 _) (by omega), Row.low (Row.set_ (Row.set_ HAT.out.r2 (p := ⟨w.heap.size + 1, 0, none⟩) ho2 _) (p := ⟨w.heap.size + 1, 1, none⟩) ho2 _) (by omega), HAT.out.apart⟩
theorem entersICompact : Enters Try.prog 37 := enters_of Try.func37 (by kernel_rfl) rfl
end Go.Proofs.Ytjbakmmmgejhlaa
