/-
  A region whose order is open: its first n operations walked once; what is left is handed on in the model's own words (a store, and pure operations beside it).
-/
import Derived.Test.YtdngechnelemlaaWA
import Derived.Test.YtdngechnelemlaaWQ
import Derived.Test.YtdngechnelemlaaWM
namespace Go.Proofs.Ytdngechnelemlaa
open Go.RowKit

section
variable {P : Program} {ops : List Oper} {w0 : World} {a0 : Act} {Q : Exit → Act → World → Prop}
/-- The first n have come up, no other. -/
def firstN (n len : Nat) : Array Bool := (List.replicate n true ++ List.replicate (len - n) false).toArray
/-- The closed facts: what is left waits for the last of the first n, and that one, through others, for all of them. -/
def okR (n : Nat) (ops : List Oper) : Bool :=
  (List.range ops.length).all fun i => match ops[i]? with
    | none => false
    | some o => (!decide (i < n) || ((o.after.toList.all fun e => decide (e.on < i)) && (match o.guard with | none => true | some (j, _) => decide (j < i)))) &&
      (if i < n then decide (i + 1 = n) || (List.range n).any fun k => decide (i < k) && (match ops[k]? with | some q => hasEdge q i | none => false) else (List.range i).any fun k => decide (n ≤ k + 1) && hasEdge o k)
theorem okR_spec {n : Nat} (h : okR n ops = true) {i : Nat} {o : Oper} (hi : ops[i]? = some o) : (i < n → ∀ e ∈ o.after, e.on < i) ∧ (i < n → ∀ j b, o.guard = some (j, b) → j < i) ∧
    (i + 1 < n → ∃ k q, i < k ∧ k < n ∧ ops[k]? = some q ∧ hasEdge q i = true) ∧ (n ≤ i → ∃ k, k < i ∧ n ≤ k + 1 ∧ hasEdge o k = true) := by
  have hl : i < ops.length := (List.getElem?_eq_some_iff.1 hi).1
  have := List.all_eq_true.1 h i (List.mem_range.2 hl)
  simp only [hi, Bool.and_eq_true] at this
  obtain ⟨h1, h3⟩ := this
  refine ⟨fun hin e he => ?_, fun hin j b hg => ?_, fun hin => ?_, fun hin => ?_⟩
  · simp only [hin, decide_true, Bool.not_true, Bool.false_or, Bool.and_eq_true] at h1
    simpa using List.all_eq_true.1 h1.1 e (by simpa using he)
  · simp only [hin, decide_true, Bool.not_true, Bool.false_or, Bool.and_eq_true] at h1
    have h2 := h1.2
    rw [hg] at h2; simpa using h2
  · rw [if_pos (by omega)] at h3
    have hne : decide (i + 1 = n) = false := by rw [decide_eq_false_iff_not]; omega
    rw [hne, Bool.false_or, List.any_eq_true] at h3
    obtain ⟨k, hk, hk2⟩ := h3
    rw [Bool.and_eq_true] at hk2
    cases hq : ops[k]? with
    | none => rw [hq] at hk2; exact absurd hk2.2 (by simp)
    | some q => rw [hq] at hk2; exact ⟨k, q, by simpa using hk2.1, List.mem_range.1 hk, hq, hk2.2⟩
  · rw [if_neg (by omega), List.any_eq_true] at h3
    obtain ⟨k, hk, hk2⟩ := h3
    rw [Bool.and_eq_true, decide_eq_true_iff] at hk2
    exact ⟨k, List.mem_range.1 hk, hk2.1, hk2.2⟩

def MDerL (P : Program) (ops : List Oper) (n : Nat) (w0 : World) (a0 : Act) (Q : Exit → Act → World → Prop) : List Oper → List VT → Prop
  | o :: os, RF => ∃ F : VT, Grows F ∧ Ob P (ops.take n) RF.reverse w0 a0 RF.length o F ∧ MDerL P ops n w0 a0 Q os (F :: RF)
  | [], RF => ∀ w, Below w0.heap.size w0 w → EndM (fun _ a w => wpAny P .any ops.toArray Q (ops.length - n) (firstN n ops.length) a w) (dstsOf (ops.take n)) RF.reverse a0 w
theorem MDerL.step {n : Nat} {o : Oper} {os : List Oper} {RF : List VT} {F : VT} [hF : Grows F] (h : Ob P (ops.take n) RF.reverse w0 a0 RF.length o F) (k : MDerL P ops n w0 a0 Q os (F :: RF)) : MDerL P ops n w0 a0 Q (o :: os) RF := ⟨F, hF, h, k⟩
theorem MDerL.fore {n : Nat} : ∀ {os : List Oper} {RF : List VT}, MDerL P ops n w0 a0 Q os RF → MDer P (ops.take n) w0 a0 (fun _ a w => wpAny P .any ops.toArray Q (ops.length - n) (firstN n ops.length) a w) os RF.reverse
  | [], _, h => h
  | o :: os, RF, ⟨F, hF, hob, k⟩ => ⟨F, hF, by rw [List.length_reverse]; exact hob, by have := k.fore; rwa [List.reverse_cons] at this⟩

theorem region_MR_any {n : Nat} {Gs : List VT} (hn : n < ops.length) (hok : okM a0.tmps.size 0 (ops.take n) [] = true) (hot : okR n ops = true) (hlen : Gs.length = (ops.take n).length)
    (hobs : ∀ (i : Nat) (o : Oper) (F : VT), (ops.take n)[i]? = some o → Gs[i]? = some F → Grows F ∧ Ob P (ops.take n) Gs w0 a0 i o F)
    (hend : ∀ w, Below w0.heap.size w0 w → EndM (fun _ a w => wpAny P .any ops.toArray Q (ops.length - n) (firstN n ops.length) a w) (dstsOf (ops.take n)) Gs a0 w) :
    ∀ (fuel : Nat) (listed : Array Bool) (a : Act) (w : World), InvM (ops.take n) Gs w0 a0 listed a w → listed.size = ops.length → (∀ j, n ≤ j → j < ops.length → listed[j]? = some false) → unlisted listed = fuel → wpAny P .any ops.toArray Q fuel listed a w := by
  obtain ⟨s1, s2⟩ := okM_spec hok
  have htl : (ops.take n).length = n := by rw [List.length_take]; omega
  have bodyAt : ∀ j o, j < n → (ops[j]? = some o ↔ (ops.take n)[j]? = some o) := fun j o hj => by rw [List.getElem?_take, if_pos hj]
  intro fuel
  induction fuel with
  | zero =>
    intro listed a w h hs hf hu
    exfalso
    have h1 := hf n (Nat.le_refl _) hn
    have : 0 < unlisted listed := by
      unfold unlisted
      rw [List.countP_pos_iff]
      refine ⟨false, ?_, rfl⟩
      rw [← Array.getElem?_toList] at h1
      exact List.mem_of_getElem? h1
    omega
  | succ fuel ih =>
    intro listed a w h hs hf hu
    -- whether the body has all come up
    by_cases hall : ∀ j, j < n → listed[j]? = some true
    · -- what is left
      have e : listed = firstN n ops.length := by
        refine Array.ext (by simp [firstN]; omega) fun j h1 h2 => ?_
        have hl : listed[j]? = (firstN n ops.length)[j]? := by
          have hr : (firstN n ops.length)[j]? = if j < n then (if j < n then some true else none) else (if j - n < ops.length - n then some false else none) := by
            unfold firstN
            rw [List.getElem?_toArray, List.getElem?_append, List.length_replicate, List.getElem?_replicate, List.getElem?_replicate]
          rw [hr]
          by_cases hj : j < n
          · rw [if_pos hj, if_pos hj]; exact hall j hj
          · rw [if_neg hj, if_pos (by omega)]; exact hf j (by omega) (by omega)
        rw [Array.getElem?_eq_getElem h1, Array.getElem?_eq_getElem h2] at hl
        exact Option.some.inj hl
      have hQ : wpAny P .any ops.toArray Q (ops.length - n) (firstN n ops.length) a w := by
        refine endM_of (Q := fun _ a w => wpAny P .any ops.toArray Q (ops.length - n) (firstN n ops.length) a w) (ops.take n) Gs a0 (fun j o d F h1 h2 h3 => h.done j o d F (hall j (by have := (List.getElem?_eq_some_iff.1 h1).1; omega)) h1 h2 h3) hlen.symm (fun o ho => ?_) h.defers.symm h.size.symm (fun t ht => (h.old t ht).symm) (hend w h.le)
        obtain ⟨j, hj⟩ := List.getElem?_of_mem ho
        obtain ⟨⟨d, hd, _⟩, _⟩ := s1 j o hj
        rw [hd]; simp
      have hcount : unlisted listed = ops.length - n := by
        rw [e]
        unfold unlisted firstN
        simp [List.countP_append, List.countP_replicate]
      rw [← hu, hcount, e]
      exact hQ
    · -- the body
      have hex : ∃ j, j < n ∧ listed[j]? = some false := by
        refine Classical.byContradiction fun hne => hall fun j hj => ?_
        have hjs : j < listed.size := by omega
        cases hb : listed[j] with
        | true => rw [Array.getElem?_eq_getElem hjs, hb]
        | false => exact absurd ⟨j, hj, by rw [Array.getElem?_eq_getElem hjs, hb]⟩ hne
      have hnr : Region.ready .any ops.toArray listed ≠ [] := by
        obtain ⟨j0, hj0, hjf⟩ := hex
        have key : ∀ j, j < n → listed[j]? = some false → Region.ready .any ops.toArray listed ≠ [] := by
          intro j
          induction j using Nat.strongRecOn with
          | _ j ihj =>
            intro hj hjf hr
            have hjo : ops[j]? = some ops[j] := List.getElem?_eq_getElem (by omega)
            have : j ∈ Region.ready .any ops.toArray listed := mem_ready.2 ⟨by simp [Array.getD_eq_getD_getElem?, hjf], ops[j], by simp, fun e he _ => by
              have hlt := (okR_spec hot hjo).1 (by omega) e he
              have hes : e.on < listed.size := by omega
              cases hb : listed[e.on] with
              | true => simp [Array.getD_eq_getD_getElem?, hes, hb]
              | false => exact absurd hr (ihj e.on hlt (by omega) (by rw [Array.getElem?_eq_getElem hes, hb]))⟩
            rw [hr] at this; cases this
        exact key j0 hj0 hjf
      refine ⟨fun h0 => absurd h0 hnr, fun i hi => ?_⟩
      obtain ⟨h0, o, ho, hed⟩ := mem_ready.1 hi
      have ho' : ops[i]? = some o := by simpa using ho
      have hil : i < ops.length := (List.getElem?_eq_some_iff.1 ho').1
      have edgeF : ∀ (o : Oper), ops[i]? = some o → ∀ j, hasEdge o j = true → listed[j]? = some true := fun q hq j he => by
        have hqo : q = o := by rw [hq] at ho'; simpa using ho'
        subst hqo
        unfold hasEdge at he
        rw [List.any_eq_true] at he
        obtain ⟨e, hm, he⟩ := he
        simp only [Bool.and_eq_true, beq_iff_eq] at he
        have h1 := hed e (by simpa using hm) he.2
        rw [he.1] at h1
        have hj2 : j < listed.size := by
          rcases Nat.lt_or_ge j listed.size with h9 | h9
          · exact h9
          · simp [Array.getD_eq_getD_getElem?, h9] at h1
        rw [Array.getElem?_eq_getElem hj2]
        simpa [Array.getD_eq_getD_getElem?, hj2] using h1
      have hin : i < n := by
        rcases Nat.lt_or_ge i n with h1 | h1
        · exact h1
        · exfalso
          obtain ⟨k, hk1, hk2, hk3⟩ := (okR_spec hot ho').2.2.2 h1
          rcases Nat.lt_or_ge k n with h2 | h2
          · have hk : k + 1 = n := by omega
            have chain : ∀ d j, n - j = d → j < n → listed[j]? = some true := by
              intro d
              induction d using Nat.strongRecOn with
              | _ d ihd =>
                intro j hd hj
                by_cases hjk : j = k
                · subst hjk; exact edgeF o ho' j hk3
                · have hjo : ops[j]? = some ops[j] := List.getElem?_eq_getElem (by omega)
                  obtain ⟨m, q, hm1, hm2, hm3, hm4⟩ := (okR_spec hot hjo).2.2.1 (by omega)
                  exact h.closed m q j (ihd (n - m) (by omega) m rfl hm2) ((bodyAt m q hm2).1 hm3) hm4
            exact hall fun j hj => chain (n - j) j rfl hj
          · have := edgeF o ho' k hk3
            have h5 := hf k h2 (by omega)
            rw [this] at h5; cases h5
      have hob' : (ops.take n)[i]? = some o := (bodyAt i o hin).1 ho'
      have hjl : i < listed.size := by omega
      have hfi : listed[i]? = some false := by
        rw [Array.getElem?_eq_getElem hjl]
        simpa [Array.getD_eq_getD_getElem?, hjl] using h0
      have hGi : i < Gs.length := by omega
      obtain ⟨hgr, hob⟩ := hobs i o Gs[i] hob' (List.getElem?_eq_getElem hGi)
      have hg : ∀ (j : Nat) (F : VT), Gs[j]? = some F → Grows F := fun j F hj => by
        have hjo : j < (ops.take n).length := by rw [← hlen]; exact (List.getElem?_eq_some_iff.1 hj).1
        exact (hobs j (ops.take n)[j] F (List.getElem?_eq_getElem hjo) hj).1
      have edge := edgeF o ho'
      have cx : Cx (ops.take n) Gs w0 a0 i o a w := ⟨h.le, h.defers, h.size, h.old, fun j oj d G he h1 h2 h3 => h.done j oj d G (edge j he) h1 h2 h3, fun j oj d h1 he h2 => by
        refine h.todo j oj d ?_ h1 h2
        have hj3 : j < (ops.take n).length := (List.getElem?_eq_some_iff.1 h1).1
        have hj2 : j < listed.size := by omega
        cases hb : listed[j] with
        | false => rw [Array.getElem?_eq_getElem hj2, hb]
        | true =>
          exfalso
          have := h.closed j oj i (by rw [Array.getElem?_eq_getElem hj2, hb]) h1 he
          rw [hfi] at this; cases this⟩
      have hob2 := hob a w cx
      rw [wanted_take hin ((okR_spec hot ho').2.1 hin)] at hob2
      have step : ∀ a' w', InvM (ops.take n) Gs w0 a0 (listed.setIfInBounds i true) a' w' → wpAny P .any ops.toArray Q fuel (listed.setIfInBounds i true) a' w' := fun a' w' h' =>
        ih _ a' w' h' (by simp [hs]) (fun j hj hjl2 => by rw [Array.getElem?_setIfInBounds_ne (by omega)]; exact hf j hj hjl2) (by have := unlisted_set hfi; omega)
      unfold wpOp
      simp only [ho]
      split
      · rename_i hw
        rw [if_pos hw] at hob2
        refine .inl (Oper.wp_noQ (Oper.wp_mono (fun a' w' h' => ?_) hob2))
        obtain ⟨v, rfl, hb, hv⟩ := h'
        exact step _ _ (h.put hok hg hb hob' edge fun G hG => by rw [List.getElem?_eq_getElem hGi] at hG; cases hG; exact hv)
      · rename_i hw
        rw [if_neg hw] at hob2
        exact step _ _ (h.put hok hg (Below.refl _ _) hob' edge fun G hG => by rw [List.getElem?_eq_getElem hGi] at hG; cases hG; exact hob2)


/-- The rule: the first n operations; what is left is the caller's. -/
theorem wp_region_MR {id : Nat} (n : Nat) (hm : P.follows .mixedOrders = true) (hok : okM a0.tmps.size 0 (ops.take n) [] = true) (hot : (decide (n < ops.length) && okR n ops) = true) (h : MDerL P ops n w0 a0 Q (ops.take n) []) : (Code.region id ops.toArray true).wp P Q a0 w0 := by
  rw [Bool.and_eq_true, decide_eq_true_iff] at hot
  obtain ⟨Gs, h1, h2, h3⟩ := MDer.all (Fs := []) h.fore [] rfl (by simp) (fun i o F hi => by simp at hi)
  refine wp_region_any hm ?_
  have hu : unlisted (Array.replicate ops.length false) = ops.length := by simp [unlisted, List.countP_replicate]
  have := region_MR_any (Q := Q) hot.1 hok hot.2 h1 h2 h3 ops.length (Array.replicate ops.length false) a0 { w0 with drawn := w0.drawn + 1 }
    ⟨(Below.refl _ w0).drew, rfl, rfl, by simp [List.length_take]; omega, fun _ _ => rfl, fun j oj d G hj => by simp [Array.getElem?_replicate] at hj, fun j oj i hj => by simp [Array.getElem?_replicate] at hj, fun j oj d _ _ _ => rfl⟩ (by simp) (fun j _ hj => by simp [hj]) hu
  simpa using this
/-- One operation alone can come up. -/
theorem wpAny_next {ops : Array Oper} {fuel i : Nat} {listed : Array Bool} {a : Act} {w : World} {o : Oper} (hr : Region.ready .any ops listed = [i]) (ho : ops[i]? = some o) (hg : o.guard = none)
    (h : o.wp P a w (wpAny P .any ops Q fuel (listed.setIfInBounds i true)) Q) : wpAny P .any ops Q (fuel + 1) listed a w := by
  refine ⟨fun h0 => (by rw [hr] at h0; cases h0), fun j hj => ?_⟩
  rw [hr] at hj
  obtain rfl := List.mem_singleton.1 hj
  unfold wpOp
  simp only [ho]
  rw [if_pos (by simp [Region.wanted, hg])]
  exact .inl h
end
end Go.Proofs.Ytdngechnelemlaa

/-
  ContextOrders: what its round wants.
-/
namespace Go.Proofs.Ytdngechnelemlaa
open Go.RowKit

section
variable {P : Program} {ops : List Oper} {Fs : List VT} {w0 : World} {a0 : Act} {i : Nat} {d : Option Tmp} {ty : TypeId} {pos : String} {after : Array Edge} {g : Option (Nat × Bool)}
theorem Ob.convV {x : Operand} {p r : Value} {t t' : TypeId} (hw : Wanted ops Fs w0 a0 i ⟨d, .convert t t' x, ty, pos, after, g⟩) (hx : Has ops Fs w0 a0 i ⟨d, .convert t t' x, ty, pos, after, g⟩ x (Is p))
    (h : ∀ w, (Go.convert t t' p).run P w = .ok r w) : Ob P ops Fs w0 a0 i ⟨d, .convert t t' x, ty, pos, after, g⟩ (Is r) :=
  Ob.stay hw fun a w cx => ⟨r, by
    have h1 : a.eval x = p := hx a w cx
    have h2 := h w
    generalize a.eval = ρ at h1
    simp [execOp, h1, h2], rfl⟩
end
section
variable {ops : List Oper} {Fs : List VT} {w0 : World} {a0 : Act} {i : Nat} {d : Option Tmp} {ty : TypeId} {pos : String} {after : Array Edge} {g : Option (Nat × Bool)}
theorem slice_two {w : World} {A : Option Addr} {n c j : Nat} (h : j + 1 ≤ c) : (Instr.sliceAt 22 (.slice A n c) (some (.int .i64 (j : Int))) (some (.int .i64 ((j : Int) + 1))) none).run Try.prog w = .ok (.slice (cutA A c j) 1 (c - j)) w := by
  have h1 : (0 : Int) ≤ (j : Int) := by omega
  have h3 : (j : Int) + 1 ≤ (c : Int) := by omega
  have h4 : (j : Int) ≤ (j : Int) + 1 := by omega
  have h5 : ((j : Int) + 1).toNat = j + 1 := by omega
  unfold cutA
  simp [go_sem, h1, h3, h4, h5]
theorem Ob.twoSlice {x y z : Operand} {A : Option Addr} {n c j : Nat} (hw : Wanted ops Fs w0 a0 i ⟨d, .slice 22 x (some y) (some z) none, ty, pos, after, g⟩) (hx : Has ops Fs w0 a0 i ⟨d, .slice 22 x (some y) (some z) none, ty, pos, after, g⟩ x (Is (.slice A n c))) (hy : Has ops Fs w0 a0 i ⟨d, .slice 22 x (some y) (some z) none, ty, pos, after, g⟩ y (IsI (j : Int)))
    (hz : Has ops Fs w0 a0 i ⟨d, .slice 22 x (some y) (some z) none, ty, pos, after, g⟩ z (IsI ((j : Int) + 1))) (h : j + 1 ≤ c) :
    Ob Try.prog ops Fs w0 a0 i ⟨d, .slice 22 x (some y) (some z) none, ty, pos, after, g⟩ (Is (.slice (cutA A c j) 1 (c - j))) :=
  Ob.stay hw fun a w cx => ⟨_, by
    have h1 : a.eval x = .slice A n c := hx a w cx
    have h2 : a.eval y = .int .i64 (j : Int) := hy a w cx
    have h4 : a.eval z = .int .i64 ((j : Int) + 1) := hz a w cx
    have h3 := slice_two (w := w) (A := A) (n := n) h
    generalize a.eval = ρ at h1 h2 h4
    simp only [execOp, Option.map, h1, h2, h4]
    simp [h3], rfl⟩
end
theorem int_rem {x y : Operand} {t : TypeId} {w : World} {p n : Nat} (hn : 1 ≤ n) (hp : p ≤ 1000000) : (eqGuard .rem t x y (.int .i64 (p : Int)) (.int .i64 (n : Int))).run Try.prog w = .ok () w ∧ (Go.binOp .rem t (.int .i64 (p : Int)) (.int .i64 (n : Int))).run Try.prog w = .ok (.int .i64 ((p % n : Nat) : Int)) w := by
  refine ⟨by simp [go_sem], ?_⟩
  simp [go_sem]
  rw [if_neg (by omega), Int.tmod_eq_emod_of_nonneg (by omega)]
theorem int_plus {x y : Operand} {w : World} {p q r : Nat} (h : p + q = r) (hr : r ≤ 1000000) : (eqGuard .add 3 x y (.int .i64 (p : Int)) (.int .i64 (q : Int))).run Try.prog w = .ok () w ∧ (Go.binOp .add 3 (.int .i64 (p : Int)) (.int .i64 (q : Int))).run Try.prog w = .ok (.int .i64 (r : Int)) w :=
  int_add _ (by rw [show (p : Int) + (q : Int) = (r : Int) by omega]; exact IntWalk.i64_in _ (by omega))
theorem conv_u8 {w : World} {t : Nat} (ht : t ≤ 255) : (Go.convert 5 3 (.int .u8 (t : Int))).run Try.prog w = .ok (.int .i64 (t : Int)) w := by
  have h2 : IntKind.i64.wrap (t : Int) = t := IntWalk.i64_in _ (by omega)
  simp [go_sem, h2]

theorem addAll_one {c : Ctx} {ks : List Dot} (h : Ok c) (hv : validL ks = true) (hn : ks ≠ []) : addAll c ks = addC c ks := by
  obtain ⟨_, i2, i3⟩ := addAll_spec ks c h hv
  obtain ⟨s1, s2⟩ := add_spec h hv
  exact tight_ext (i2 hn) s1 fun d => by rw [i3, s2]
theorem add_len (c : Ctx) (l : List Dot) : (addC c l).1.length ≤ c.1.length + (c.2.length + l.length) ∧ (addC c l).2.length ≤ c.2.length + l.length := by
  unfold addC
  rw [compact_pass]
  obtain ⟨h1, h2⟩ := pass_length (c.1, unionD c.2 l)
  have h3 := unionD_length c.2 l
  simp only at h1 h2
  exact ⟨by omega, by omega⟩
theorem addAll_len {c : Ctx} {ks : List Dot} (h : Ok c) (hv : validL ks = true) : (addAll c ks).1.length ≤ c.1.length + (c.2.length + ks.length) ∧ (addAll c ks).2.length ≤ c.2.length + ks.length := by
  by_cases hn : ks = []
  · subst hn; exact ⟨by show c.1.length ≤ _; omega, by show c.2.length ≤ _; omega⟩
  · rw [addAll_one h hv hn]; exact add_len c ks
theorem turn_len (t : Nat) (l : List Dot) : (turnL t l).length = l.length := by unfold turnL; simp
theorem turn_at {t : Nat} {l : List Dot} {k : Nat} (h : k < l.length) : (turnL t l)[k]? = some (l.getD ((k + t) % l.length) (0, 0)) := by
  unfold turnL
  rw [List.getElem?_map, List.getElem?_range h]; rfl
theorem addAll_step {c : Ctx} {l : List Dot} {t k : Nat} (h : k < l.length) : addAll c ((turnL t l).take (k + 1)) = addC (addAll c ((turnL t l).take k)) [l.getD ((k + t) % l.length) (0, 0)] := by
  rw [take_snoc (turn_at h), addAll_snoc]
theorem take_valid {l : List Dot} (k : Nat) (h : validL l = true) : validL (l.take k) = true := validL_of fun _ hd => validL_mem h (List.mem_of_mem_take hd)
theorem one_valid {l : List Dot} (h : validL l = true) {j : Nat} (hj : j < l.length) : validL [l.getD j (0, 0)] = true := validL_of fun d hd => by
  rw [List.mem_singleton.1 hd, List.getD_eq_getElem?_getD, List.getElem?_eq_getElem hj]
  exact validL_mem h (List.getElem_mem hj)
theorem cut_one {l : List Dot} {j : Nat} (hj : j < l.length) : (l.take (j + 1)).drop j = [l.getD j (0, 0)] := by
  rw [List.getD_eq_getElem?_getD, List.getElem?_eq_getElem hj, List.take_succ_eq_append_getElem hj, List.drop_append_of_le_length (by simp; omega), List.drop_eq_nil_of_le (by simp; omega)]
  rfl
theorem iaddI {c : Ctx} {l : List Dot} {w : World} {b : Nat} {u v : Value} (hu : IsCon c w u) (hv : IsDots l w v) (hb : b ≤ w.heap.size) (hl : c.1.length + c.2.length ≤ 1000) (hl2 : l.length ≤ 1000) (h1 : validC c = true) (h2 : validL l = true) :
    Calls Try.prog 32 #[u, v] w (Ret w (IsPair (IsConA b (addC c l)) 0)) := by
  obtain ⟨A, n, ca, B, m, cb, rfl, hc⟩ := hu
  obtain ⟨E, j, cj, rfl, hd0⟩ := hv
  exact (iadd A B E n ca m cb j cj c l w hc hd0 (by have := IsCon.small hc hl; have := hd0.len; unfold Small; omega) h1 h2).mono fun _ _ hr => hr.imp fun _ hp => hp.imp fun _ ha => ha.low hb
theorem entIAdd : Enters Try.prog 32 := enters_of Try.func32 (by kernel_rfl) rfl
def OrdRel (N : Nat) (W : World) (c : Ctx) (l : List Dot) (t : Nat) (e i : Value) (wr : World) : Prop :=
  ∃ (k : Nat) (A B : Option Addr) (n ca m cb : Nat), i = .int .i64 k ∧ k ≤ l.length ∧ e = .int .i64 0 ∧ Below N W wr ∧ Boxed N A B n ca m cb (addAll c ((turnL t l).take k)) wr ∧ ∀ o, wr.frozen? ⟨N, o, none⟩ = false
theorem wp_skipped {P : Program} {o : Oper} {a : Act} {w w' : World} {K : Act → World → Prop} {Q : Exit → Act → World → Prop} (e : (execOp a.eval o).run P w = .ok .skip w') (h : K (a.put o.dst undef) w') : o.wp P a w K Q := by
  unfold Oper.wp
  rw [e]; exact h
theorem wp_valued {P : Program} {o : Oper} {a : Act} {w : World} {v : Value} {K : Act → World → Prop} {Q : Exit → Act → World → Prop} (e : (execOp a.eval o).run P w = .ok (.value v) w) (h : K (a.put o.dst v) w) : o.wp P a w K Q := by
  unfold Oper.wp
  rw [e]; exact h
end Go.Proofs.Ytdngechnelemlaa

/-
  ContextOrders: for any context, any list of dots and any number, with no further condition, the law returns true, and its arguments read afterwards as they read before.
-/
namespace Go.Proofs.Ytdngechnelemlaa
open Go.RowKit

theorem boxed_set {N b : Nat} {A B A' B' : Option Addr} {n ca m cb n' ca' m' cb' : Nat} {c c' : Ctx} {w : World} (h : Boxed N A B n ca m cb c w) (hb : N < b) (h1 : Row w b (.slice A' n' ca') c'.1) (h2 : Row w b (.slice B' m' cb') c'.2) :
    Boxed N A' B' n' ca' m' cb' c' ((w.setCell ⟨N, 0, none⟩ (.slice A' n' ca')).setCell ⟨N, 1, none⟩ (.slice B' m' cb')) := by
  have o1 : ∀ k, (Value.slice A' n' ca').ownBlock = some k → k ≠ N := fun k hk => by have := Row.own _ h1 k hk; omega
  have o2 : ∀ k, (Value.slice B' m' cb').ownBlock = some k → k ≠ N := fun k hk => by have := Row.own _ h2 k hk; omega
  refine ⟨?_, cell_set (cell_far (by simp) h.c1), (Row.set_ (Row.set_ h1 (p := ⟨N, 0, none⟩) o1 _) (p := ⟨N, 1, none⟩) o1 _).asDots, (Row.set_ (Row.set_ h2 (p := ⟨N, 0, none⟩) o2 _) (p := ⟨N, 1, none⟩) o2 _).asDots⟩
  exact cell_far (by simp) (cell_set h.c0)

set_option maxRecDepth 100000 in
set_option maxHeartbeats 8000000 in
theorem lawOrders (A B C : Option Addr) (n ca m cb k ck : Nat) (c : Ctx) (l : List Dot) (t : Nat) (w : World) (h : Con w A n ca B m cb c) (hl : Dots w C k ck l) (ht : t ≤ 255) :
    Calls Try.prog 6 #[.agg #[.slice A n ca, .slice B m cb], .slice C k ck, .int .u8 (t : Int)] w (Ret w (IsB true)) := by
  obtain ⟨W, hWdef⟩ : ∃ W, W = w.alloc (conBox A n ca B m cb) := ⟨_, rfl⟩
  have hb0 : Below w.heap.size w W := by rw [hWdef]; go_grown
  have ba : Boxed w.heap.size A B n ca m cb c W := by rw [hWdef]; exact Boxed.new h
  have hk := hl.big
  have hcap := hl.cap
  have BA := Lib.hid ba; have L0 := Lib.hid (hl.mono hb0); have HB := Lib.hid hb0; have DEF := Lib.hid hWdef
  have LK := Lib.hid hl.len
  clear hb0 ba hWdef h hl
  by_cases hk40 : k ≤ 40
  case neg =>
    have hd : decide ((40 : Int) < (k : Int)) = true := by rw [decide_eq_true_iff]; omega
    go_enter Try.func6, Try.ntmps6
    go_wp2_with fail
    rw [← DEF.out]
    refine (lightI BA.out.is (lightB c) rfl).mono ?_
    rintro _ w1 ⟨_, rfl, hb1, rfl⟩
    have HBK := Lib.hid (HB.out.le hb1)
    clear hb1
    cases hg : lightB c
    case false =>
      go_wp2_with fail
      refine (known_ _).mono ?_
      rintro _ w9 ⟨_, rfl, hb9, rfl⟩
      have HB9 := Lib.hid (HBK.out.le hb9)
      clear hb9
      go_wp2
      go_ret
      exact retB rfl HB9.out
    case true =>
      go_wp2_with fail
      refine (known_ _).mono ?_
      rintro _ w9 ⟨_, rfl, hb9, rfl⟩
      have HB9 := Lib.hid (HBK.out.le hb9)
      clear hb9
      go_wp2
      go_ret
      exact retB rfl HB9.out
  have hd : decide ((40 : Int) < (k : Int)) = false := by rw [decide_eq_false_iff_not]; omega
  have hll : l.length ≤ 1000 := by rw [← LK.out]; omega
  have HLL := Lib.hid hll
  clear hll
  go_enter Try.func6, Try.ntmps6
  go_wp2_with fail
  rw [← DEF.out]
  refine (lightI BA.out.is (lightB c) rfl).mono ?_
  rintro _ w1 ⟨_, rfl, hb1, rfl⟩
  have BA1 := Lib.hid (BA.out.mono hb1); have HB1 := Lib.hid (HB.out.le hb1); have L1 := Lib.hid (L0.out.mono hb1)
  clear hb1
  cases hg : lightB c
  case false =>
    have HBK := HB1
    go_wp2_with fail
    refine (known_ _).mono ?_
    rintro _ w9 ⟨_, rfl, hb9, rfl⟩
    have HB9 := Lib.hid (HBK.out.le hb9)
    clear hb9
    go_wp2
    go_ret
    exact retB rfl HB9.out
  have HG := Lib.hid (lightB_len hg); clear hg
  have x0 := BA1.out.c0; have x1 := BA1.out.c1
  go_wp2_with fail
  refine (rvalidI BA1.out.is (validC c) rfl).mono ?_
  rintro _ w2 ⟨_, rfl, hb2, rfl⟩
  have BA2 := Lib.hid (BA1.out.mono hb2); have HB2 := Lib.hid (HB1.out.le hb2); have L2 := Lib.hid (L1.out.mono hb2)
  clear hb2 x0 x1 BA1 HB1 L1
  cases hv : validC c
  case false =>
    have HBK := HB2
    go_wp2_with fail
    refine (known_ _).mono ?_
    rintro _ w9 ⟨_, rfl, hb9, rfl⟩
    have HB9 := Lib.hid (HBK.out.le hb9)
    clear hb9
    go_wp2
    go_ret
    exact retB rfl HB9.out
  have HV := Lib.hid hv; clear hv
  go_wp2_with fail
  refine (rdotsI ⟨C, k, ck, rfl, L2.out⟩ (validL l) rfl).mono ?_
  rintro _ w3 ⟨_, rfl, hb3, rfl⟩
  have BA3 := Lib.hid (BA2.out.mono hb3); have HB3 := Lib.hid (HB2.out.le hb3); have L3 := Lib.hid (L2.out.mono hb3)
  clear hb3 BA2 HB2 L2
  cases hvl : validL l
  case false =>
    have HBK := HB3
    go_wp2_with fail
    refine (known_ _).mono ?_
    rintro _ w9 ⟨_, rfl, hb9, rfl⟩
    have HB9 := Lib.hid (HBK.out.le hb9)
    clear hb9
    go_wp2
    go_ret
    exact retB rfl HB9.out
  have HVL := Lib.hid hvl; clear hvl
  have hcc : c.1.length + c.2.length ≤ 80 := by have := HG.out; omega
  have HCC := Lib.hid hcc; clear hcc
  have x0 := BA3.out.c0; have x1 := BA3.out.c1
  go_wp2_with fail
  refine (iaddI (b := 0) BA3.out.is ⟨C, k, ck, rfl, L3.out⟩ (Nat.zero_le _) (by have := HCC.out; omega) HLL.out HV.out HVL.out).mono ?_
  rintro _ w4 ⟨_, rfl, hb4, _, rfl, A4, n4, ca4, B4, m4, cb4, rfl, r1, r2, _⟩
  have hal : Below w4.heap.size w4 (w4.alloc (conBox A4 n4 ca4 B4 m4 cb4)) := (Below.refl _ _).alloc (Nat.le_refl _) _
  have BALL := Lib.hid (Boxed.new (c := addC c l) ⟨r1.asDots, r2.asDots⟩ : Boxed w4.heap.size A4 B4 n4 ca4 m4 cb4 (addC c l) (w4.alloc (conBox A4 n4 ca4 B4 m4 cb4)))
  have hb5 := hb4.le hal
  have BA5 := Lib.hid (BA3.out.mono hb5); have HB5 := Lib.hid (HB3.out.le hb5); have L5 := Lib.hid (L3.out.mono hb5)
  have xr0 := (BA3.out.mono hb4).c0; have xr1 := (BA3.out.mono hb4).c1
  have hz5 : w.heap.size < w4.heap.size := (BA3.out.mono hb4).size
  clear r1 r2 hb4 hb5 hal x0 x1 BA3 HB3 L3
  have x0 := BA5.out.c0; have x1 := BA5.out.c1
  go_wp2
  clear x0 x1 xr0 xr1
  have hw5 : Below (w4.heap.size + 1) (w4.alloc (conBox A4 n4 ca4 B4 m4 cb4)) ((w4.alloc (conBox A4 n4 ca4 B4 m4 cb4)).alloc (conBox A n ca B m cb)) := (Below.refl _ _).alloc (by simp) _
  have hbx0 : Boxed (w4.heap.size + 1) A B n ca m cb c ((w4.alloc (conBox A4 n4 ca4 B4 m4 cb4)).alloc (conBox A n ca B m cb)) := by have h9 := Boxed.new (w := w4.alloc (conBox A4 n4 ca4 B4 m4 cb4)) BA5.out.con; simpa using h9
  have start : OrdRel (w4.heap.size + 1) (w4.alloc (conBox A4 n4 ca4 B4 m4 cb4)) c l t (.int .i64 0) (.int .i64 ((0 : Nat) : Int)) ((w4.alloc (conBox A4 n4 ca4 B4 m4 cb4)).alloc (conBox A n ca B m cb)) :=
    ⟨0, A, B, n, ca, m, cb, rfl, Nat.zero_le _, rfl, hw5, hbx0, fun o => by simp [go_sem]⟩
  have START := Lib.hid start
  have hsz : (w4.alloc (conBox A4 n4 ca4 B4 m4 cb4)).heap.size = w4.heap.size + 1 := by simp
  have HSZ := Lib.hid hsz
  clear start hw5 hsz hbx0
  go_loopw [8, 41] (fun e i wr => OrdRel (w4.heap.size + 1) (w4.alloc (conBox A4 n4 ca4 B4 m4 cb4)) c l t e i wr) (fun _ i _ => k - (intOf i).toNat)
  case atStart => exact START.out
  case round =>
    clear START
    obtain ⟨i, A6, B6, n6, ca6, m6, cb6, rfl, hik, rfl, hbr, hbx, hfr⟩ := hrel
    have hbr' : Below (w4.alloc (conBox A4 n4 ca4 B4 m4 cb4)).heap.size (w4.alloc (conBox A4 n4 ca4 B4 m4 cb4)) wr := by rw [HSZ.out]; exact hbr
    have BX := Lib.hid hbx; have HBR := Lib.hid hbr; have HFR := Lib.hid hfr; have HBR' := Lib.hid hbr'
    have hzx := hbx.size
    clear hbx hbr hfr hbr'
    by_cases hlt : i < k
    · have hil : i < l.length := by rw [← LK.out]; exact hlt
      have hjm : (i + t) % k < k := Nat.mod_lt _ (by omega)
      have hstep := addAll_step (c := c) (l := l) (t := t) hil
      rw [← LK.out] at hstep
      have hcut := cut_one (l := l) (j := (i + t) % k) (by rw [← LK.out]; exact hjm)
      have hone := one_valid HVL.out (j := (i + t) % k) (by rw [← LK.out]; exact hjm)
      have hcl := addAll_len (ok_iff.1 HV.out) (take_valid i (turn_valid (t := t) HVL.out))
      have h3 : ((turnL t l).take i).length ≤ 40 := by rw [List.length_take]; omega
      have hcl2 : (addAll c ((turnL t l).take i)).1.length + (addAll c ((turnL t l).take i)).2.length ≤ 1000 := by have := HCC.out; omega
      clear h3
      have hval : validC (addAll c ((turnL t l).take i)) = true := ok_iff.2 (addAll_spec _ c (ok_iff.1 HV.out) (take_valid i (turn_valid HVL.out))).1
      have STEP := Lib.hid hstep; have CUT := Lib.hid hcut; have ONE := Lib.hid hone; have CL2 := Lib.hid hcl2; have VAL := Lib.hid hval
      clear hstep hcut hone hcl hcl2 hval
      generalize addAll c ((turnL t l).take i) = cur at *
      generalize l.getD ((i + t) % k) (0, 0) = dd at *
      have LR := Lib.hid (L5.out.mono HBR'.out)
      go_wp2_with fail
      refine wp_region_MR 20 mixed (by kernel_rfl) (by kernel_rfl) ?_
      refine MDerL.step (Ob.load (F := IsCon cur) Wanted.free Has.oldIs (fun w1 v hb1 hv => BX.out.loadI hb1 hv)) ?_
      refine MDerL.step (Ob.move Wanted.free Has.oldIs) ?_
      refine MDerL.step (Ob.move Wanted.free Has.oldIs) ?_
      refine MDerL.step (Ob.move Wanted.free Has.oldIs) ?_
      refine MDerL.step (Ob.convV Wanted.free (Has.new 3 0) (fun w1 => conv_u8 ht)) ?_
      refine MDerL.step (Ob.binV Wanted.free (Has.new 2 2) (Has.new 4 0) (fun w1 => int_plus (p := i) (q := t) (r := i + t) rfl (by omega))) ?_
      refine MDerL.step (Ob.move Wanted.free Has.oldIs) ?_
      refine MDerL.step (Ob.lenV Wanted.free (Has.new 6 0) (fun w1 => len_dots)) ?_
      refine MDerL.step (Ob.binV Wanted.free (Has.new 5 2) (Has.new 7 0) (fun w1 => int_rem (p := i + t) (n := k) (by omega) (by omega))) ?_
      refine MDerL.step (Ob.move Wanted.free Has.oldIs) ?_
      refine MDerL.step (Ob.move Wanted.free Has.oldIs) ?_
      refine MDerL.step (Ob.convV Wanted.free (Has.new 10 0) (fun w1 => conv_u8 ht)) ?_
      refine MDerL.step (Ob.binV Wanted.free (Has.new 9 2) (Has.new 11 0) (fun w1 => int_plus (p := i) (q := t) (r := i + t) rfl (by omega))) ?_
      refine MDerL.step (Ob.move Wanted.free Has.oldIs) ?_
      refine MDerL.step (Ob.lenV Wanted.free (Has.new 13 0) (fun w1 => len_dots)) ?_
      refine MDerL.step (Ob.binV Wanted.free (Has.new 12 2) (Has.new 14 0) (fun w1 => int_rem (p := i + t) (n := k) (by omega) (by omega))) ?_
      refine MDerL.step (Ob.binV Wanted.free (Has.new 15 0) (Has.cst _) (fun w1 => int_add ((((i + t) % k : Nat) : Int) + 1) (IntWalk.i64_in _ (by omega)))) ?_
      refine MDerL.step (Ob.twoSlice Wanted.free (Has.new 1 15) (Has.new 8 8) (Has.new 16 0) (by omega)) ?_
      refine MDerL.step (Ob.call2 Wanted.free entIAdd (Has.new 0 17) (Has.new 17 0) (fun w1 u v hb1 (hu : IsCon cur w1 u) (hv : Is (.slice (cutA C ck ((i + t) % k)) 1 (ck - (i + t) % k)) w1 v) => iaddI (b := w4.heap.size + 2) hu ⟨_, _, _, hv, by have hh := ((LR.out.mono hb1).take (k := (i + t) % k + 1) hjm).drop (k := (i + t) % k) (by omega); rw [CUT.out, Nat.add_sub_cancel_left] at hh; exact hh⟩ (by have := hb1.size; omega) CL2.out (by simp) VAL.out ONE.out)) ?_
      refine MDerL.step (Ob.move Wanted.free (Has.new 18 0)) ?_
      simp only [MDerL, dstsOf, List.map, EndM, List.reverse_cons, List.reverse_nil, List.nil_append, List.cons_append, List.take_succ_cons, List.take_zero]
      intro wE hE
      rintro _ _h0
      iterate 17 (rintro _ rfl)
      rintro _ _h18
      rintro _ ⟨_, rfl, A7, n7, ca7, B7, m7, cb7, rfl, r1, r2, _⟩
      simp only [Act.put, List.setIfInBounds_toArray, List.set_cons_zero, List.set_cons_succ]
      have BXE := Lib.hid (BX.out.mono hE)
      have y0 := BXE.out.c0; have y1 := BXE.out.c1
      have f0 := (hE.frozen (p := ⟨w4.heap.size + 1, 0, none⟩) hzx).trans (HFR.out 0)
      have f1 := (hE.frozen (p := ⟨w4.heap.size + 1, 1, none⟩) hzx).trans (HFR.out 1)
      have hff : ∀ o, wE.frozen? ⟨w4.heap.size + 1, o, none⟩ = false := fun o => (hE.frozen (p := ⟨w4.heap.size + 1, o, none⟩) hzx).trans (HFR.out o)
      have hzE : w4.heap.size + 1 < wE.heap.size := by have := hE.size; omega
      have BXN := Lib.hid (boxed_set BXE.out (by omega) r1 r2)
      have HFF := Lib.hid hff; have HBE := Lib.hid (HBR.out.trans (hE.mono (by omega)))
      clear hE r1 r2 hff BX HFR HBR HBR' LR
      refine take_pure (i := 21) rfl rfl (by kernel_rfl) (fun _ _ _ h => h) (v := .int .i64 0) (fun w => by simp [execOp, Act.eval, go_sem]) ?_
      refine take_pure (i := 20) rfl rfl (by kernel_rfl) (fun _ _ _ h => h) (v := .agg #[.slice A7 n7 ca7, .slice B7 m7 cb7]) (fun w => by simp [execOp, Act.eval, Act.put, go_sem]) ?_
      refine wpAny_next (i := 22) (by kernel_rfl) rfl rfl ?_
      simp only [Act.put, List.setIfInBounds_toArray, List.set_cons_zero, List.set_cons_succ]
      refine wp_skipped (w' := (wE.setCell ⟨w4.heap.size + 1, 0, none⟩ (.slice A7 n7 ca7)).setCell ⟨w4.heap.size + 1, 1, none⟩ (.slice B7 m7 cb7)) (by simp [execOp, Act.eval, go_sem, y0, y1, f0, f1]) ?_
      change wpAny _ _ _ _ _ _ (Act.put _ none undef) _
      simp only [Act.put]
      refine wpAny_next (i := 23) (by kernel_rfl) rfl rfl ?_
      refine wp_valued (v := .int .i64 0) (by simp [execOp, Act.eval, go_sem]) ?_
      change wpAny _ _ _ _ _ _ (Act.put _ (some 8) _) _
      simp only [Act.put, List.setIfInBounds_toArray, List.set_cons_zero, List.set_cons_succ]
      refine ⟨by kernel_rfl, ?_⟩
      go_wp2
      go_roundw
      case rel => exact ⟨i + 1, A7, B7, n7, ca7, m7, cb7, by simp, hil, rfl, (HBE.out.setCell (p := ⟨w4.heap.size + 1, 0, none⟩) (by simp) _).setCell (p := ⟨w4.heap.size + 1, 1, none⟩) (by simp) _, by rw [STEP.out]; exact BXN.out, fun o => (World.frozen?_setCell _ _ _ _).trans ((World.frozen?_setCell _ _ _ _).trans (HFF.out o))⟩
      case measure => simp [intOf]; omega
    · have hall : (turnL t l).take i = turnL t l := List.take_of_length_le (by rw [turn_len, ← LK.out]; omega)
      have BA9 := Lib.hid (BA5.out.mono HBR'.out)
      have BALL9 := Lib.hid (BALL.out.mono HBR'.out)
      have LF := Lib.hid (L5.out.mono HBR'.out)
      have HBF := Lib.hid (HB5.out.le HBR'.out)
      have EQ := Lib.hid (eqC_self (addC c l))
      have CMP := Lib.hid (tight_iff.2 (add_spec (ok_iff.1 HV.out) HVL.out).1)
      have MIS := Lib.hid (orders_miss (ok_iff.1 HV.out) HVL.out)
      rw [hall] at BX
      have BALL0 := BALL; have L50 := L5; have HB50 := HB5
      clear BALL BA5 L5 HB5 hall
      by_cases hz : k = 0
      · subst hz
        have hl0 : l = [] := List.eq_nil_of_length_eq_zero LK.out.symm
        subst hl0
        have hnil := orders_nil (ok_iff.1 HV.out)
        rw [compact_pass] at hnil
        have x0 := BA9.out.c0; have x1 := BA9.out.c1
        have NIL := Lib.hid hnil
        clear hnil
        go_wp2_with fail
        refine (icompactI BA9.out.is (by have := HCC.out; omega) HV.out).mono ?_
        rintro _ v1 ⟨_, rfl, hb9, _, rfl, A7, n7, ca7, B7, m7, cb7, rfl, r1, r2, _⟩
        rw [NIL.out] at r1 r2
        have BXE := Lib.hid (BX.out.mono hb9)
        have y0 := BXE.out.c0; have y1 := BXE.out.c1
        have f0 := (hb9.frozen (p := ⟨w4.heap.size + 1, 0, none⟩) hzx).trans (HFR.out 0)
        have f1 := (hb9.frozen (p := ⟨w4.heap.size + 1, 1, none⟩) hzx).trans (HFR.out 1)
        have hzE : w4.heap.size + 1 < v1.heap.size := by have := hb9.size; omega
        have BXN := Lib.hid (boxed_set BXE.out hzx r1 r2)
        have hbs : Below (w4.heap.size + 1) wr ((v1.setCell ⟨w4.heap.size + 1, 0, none⟩ (.slice A7 n7 ca7)).setCell ⟨w4.heap.size + 1, 1, none⟩ (.slice B7 m7 cb7)) := ((hb9.mono (by omega)).setCell (p := ⟨w4.heap.size + 1, 0, none⟩) (by simp) _).setCell (p := ⟨w4.heap.size + 1, 1, none⟩) (by simp) _
        have hbs' : Below (w4.alloc (conBox A4 n4 ca4 B4 m4 cb4)).heap.size (w4.alloc (conBox A4 n4 ca4 B4 m4 cb4)) ((v1.setCell ⟨w4.heap.size + 1, 0, none⟩ (.slice A7 n7 ca7)).setCell ⟨w4.heap.size + 1, 1, none⟩ (.slice B7 m7 cb7)) := HBR'.out.trans (by rw [HSZ.out]; exact hbs)
        have BALL := Lib.hid (BALL0.out.mono hbs')
        have LF' := Lib.hid (L50.out.mono hbs')
        have HBF' := Lib.hid (HB50.out.le hbs')
        clear LF HBF
        have LF := LF'; have HBF := HBF'
        clear LF' HBF' hb9 r1 r2 hbs hbs' BALL9 BA9 HFR HBR HBR' BX BXE x0 x1
        have BX := BXN; clear BXN
        have x0 := BX.out.c0; have x1 := BX.out.c1; have x2 := BALL.out.c0; have x3 := BALL.out.c1
        go_wp2_with fail
        refine (rceqI BX.out.is BALL.out.is true EQ.out).mono ?_
        rintro _ u1 ⟨_, rfl, hc1, rfl⟩
        have BALL1 := Lib.hid (BALL.out.mono hc1); have HBF1 := Lib.hid (HBF.out.le hc1); have LF1 := Lib.hid (LF.out.mono hc1)
        clear hc1 BALL HBF LF BX x0 x1 x2 x3
        have x2 := BALL1.out.c0; have x3 := BALL1.out.c1
        go_wp2_with fail
        refine (ccompI BALL1.out.is true CMP.out).mono ?_
        rintro _ u2 ⟨_, rfl, hc2, rfl⟩
        have BALL2 := Lib.hid (BALL1.out.mono hc2); have HBF2 := Lib.hid (HBF1.out.le hc2); have LF2 := Lib.hid (LF1.out.mono hc2)
        clear hc2 BALL1 HBF1 LF1 x2 x3
        have x2 := BALL2.out.c0; have x3 := BALL2.out.c1
        go_wp2_with fail
        refine (imissingI BALL2.out.is ⟨C, _, ck, rfl, LF2.out⟩ HLL.out [] MIS.out).mono ?_
        rintro _ u3 ⟨_, rfl, hc3, E, j, cj, rfl, hd3⟩
        have hj0 : j = 0 := hd3.len
        subst hj0
        have HBK := Lib.hid (HBF2.out.le hc3)
        clear hc3 hd3 BALL2 HBF2 LF2 x2 x3
        go_wp2_with fail
        refine (known_ _).mono ?_
        rintro _ w9 ⟨_, rfl, hb9, rfl⟩
        have HB9 := Lib.hid (HBK.out.le hb9)
        clear hb9
        go_wp2
        go_ret
        exact retB rfl HB9.out
      · have hne : ((k : Int) == 0) = false := by rw [beq_eq_false_iff_ne]; omega
        have hln : l ≠ [] := fun e => by have := LK.out; rw [e] at this; simp at this; omega
        have hsame := orders_same t (ok_iff.1 HV.out) HVL.out hln
        rw [hsame] at BX
        have BALL := BALL9
        clear hsame hln BALL9 BA9 HFR HBR HBR' BALL0 L50 HB50
        have x0 := BX.out.c0; have x1 := BX.out.c1; have x2 := BALL.out.c0; have x3 := BALL.out.c1
        go_wp2_with fail
        refine (rceqI BX.out.is BALL.out.is true EQ.out).mono ?_
        rintro _ u1 ⟨_, rfl, hc1, rfl⟩
        have BALL1 := Lib.hid (BALL.out.mono hc1); have HBF1 := Lib.hid (HBF.out.le hc1); have LF1 := Lib.hid (LF.out.mono hc1)
        clear hc1 BALL HBF LF BX x0 x1 x2 x3
        have x2 := BALL1.out.c0; have x3 := BALL1.out.c1
        go_wp2_with fail
        refine (ccompI BALL1.out.is true CMP.out).mono ?_
        rintro _ u2 ⟨_, rfl, hc2, rfl⟩
        have BALL2 := Lib.hid (BALL1.out.mono hc2); have HBF2 := Lib.hid (HBF1.out.le hc2); have LF2 := Lib.hid (LF1.out.mono hc2)
        clear hc2 BALL1 HBF1 LF1 x2 x3
        have x2 := BALL2.out.c0; have x3 := BALL2.out.c1
        go_wp2_with fail
        refine (imissingI BALL2.out.is ⟨C, _, ck, rfl, LF2.out⟩ HLL.out [] MIS.out).mono ?_
        rintro _ u3 ⟨_, rfl, hc3, E, j, cj, rfl, hd3⟩
        have hj0 : j = 0 := hd3.len
        subst hj0
        have HBK := Lib.hid (HBF2.out.le hc3)
        clear hc3 hd3 BALL2 HBF2 LF2 x2 x3
        go_wp2_with fail
        refine (known_ _).mono ?_
        rintro _ w9 ⟨_, rfl, hb9, rfl⟩
        have HB9 := Lib.hid (HBK.out.le hb9)
        clear hb9
        go_wp2
        go_ret
        exact retB rfl HB9.out
end Go.Proofs.Ytdngechnelemlaa

/-
  ContextOrders: of any context, any list of dots and any number, with no condition, the law returns true, and its arguments read afterwards as before.
-/
namespace Go.Proofs.Ytdngechnelemlaa
open Go.ChangeShapes Go.WideShapes Go.ChangeAt Go.RowKit Go.Deep Go.Joins

set_option maxRecDepth 100000 in
theorem contextOrders_lifted (os : Os) (started : os.Started) (H : Type) (enc : TypeId × Value → H) :
    ReturnsInHanded {} Try.checked os 6 .any (Rows.contextOrdersSpec.pre6 enc Try.prog Try.f6 Rows.contextOrdersRow.domain false) (Rows.contextOrdersSpec.post enc Try.prog Try.f6 false true false false) := by
  refine returnsInHanded_of_change (C := Try.checked) own_none started (by kernel_rfl) Try.func6
    (ChangeSpec.witness6 (enc := enc) (C := Try.checked) false ⟨#[], #[.agg #[.slice none 0 0, .slice none 0 0], .slice none 0 0, .int .u8 0], []⟩ 8 (by kernel_rfl) (by kernel_rfl) (by kernel_rfl) (by kernel_rfl)) ?_
  intro W base args ds gs before hval0 hW hcnd _
  have hval : ∀ (j : Nat) t v, Try.f6.params[j]? = some t → args[j]? = some v → Value.okWide Try.prog W .any base t v := hval0
  have hW' := hW
  obtain ⟨p, q, hA0, hV, rfl, hfz, hnd⟩ := hW
  have hA : DataW.TrodAll enc Try.prog W 0 (fun _ => true) true Try.f6.params.toList args.toList ds p := hA0
  rw [Try.params6] at hA hval
  obtain ⟨v0, v1, v2, d0, d1, d2, p0, p1, p2, rfl, rfl, rfl, h0, h1, h2⟩ := trodAll_three hA
  obtain ⟨rfl, rfl⟩ := trodVars_none hV
  obtain ⟨A, n, ca, B, m, cb, c, rfl, hc⟩ := read_con (hval 0 25 v0 rfl rfl) h0
  obtain ⟨C, k, ck, l, rfl, hl⟩ := read_list (hval 1 22 v1 rfl rfl) h1
  obtain ⟨t, rfl, rfl, rfl, wf⟩ := open_int Try.underlying5 (hval 2 5 v2 rfl rfl) h2
  have ht : 0 ≤ t ∧ t ≤ 255 := by simpa [Lit.wf, IntKind.min, IntKind.max, IntKind.signed, IntKind.bits] using wf
  obtain ⟨u, rfl⟩ : ∃ u : Nat, t = (u : Int) := ⟨t.toNat, by omega⟩
  clear hA0 hval0
  refine (lawOrders A B C n ca m cb k ck c l u W hc hl (by omega)).mono fun e W' ⟨_, he, hb, rfl⟩ => ?_
  subst he
  exact ⟨_, rfl, law_post laid_out (by kernel_rfl) (by kernel_rfl) Try.underlying4 rfl rfl hW' hb⟩

theorem contextOrders_holds : Rows.ContextOrdersSaid :=
  OpenClaim.holds_of_wide 6 Try.f6 rfl rfl rfl rfl rfl rfl rfl ⟨rfl, rfl, rfl, rfl, rfl⟩ rfl rfl rfl rfl rfl (by kernel_rfl) Try.func6 (by kernel_rfl)
    (of_decide_eq_true (by kernel_rfl)) (by unfold Func.isWrapper; first | (rw [if_pos (by decide +kernel)]; kernel_rfl) | (rw [if_neg (by decide +kernel)]; exact ⟨rfl, rfl⟩))
    (fun os started H enc _ => contextOrders_lifted os started H enc)
end Go.Proofs.Ytdngechnelemlaa
