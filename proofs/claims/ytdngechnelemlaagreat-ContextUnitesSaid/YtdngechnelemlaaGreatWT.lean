/-
  A region whose order is open: its first n operations walked once; what is left is handed on in the model's own words (a store, and pure operations beside it).
-/
import Derived.Test.YtdngechnelemlaaGreatWA
import Derived.Test.YtdngechnelemlaaGreatWQ
import Derived.Test.YtdngechnelemlaaGreatWM
namespace Go.Proofs.YtdngechnelemlaaGreat
open Go.RowKit

section
variable {P : Program} {ops : List Oper} {w0 : World} {a0 : Act} {Q : Exit → Act → World → Prop}
/-- The first n have come up, no other. -/
def firstN (n len : Nat) : Array Bool := (List.replicate n true ++ List.replicate (len - n) false).toArray
/-- The closed facts: what is left waits for the last of the first n, and that one, through others, for all of them. -/
def okR (n : Nat) (ops : List Oper) : Bool :=
  (List.range ops.length).all fun i => match ops[i]? with
    | none => false
    | some o => (!decide (i < n) || ((o.after.toList.all fun e => decide (e.on < i)) && (match o.guard with | none => true | some (j, _) => decide (j < i)))) &&
      (if i < n then decide (i + 1 = n) || (List.range n).any fun k => decide (i < k) && (match ops[k]? with | some q => hasEdge q i | none => false) else (List.range i).any fun k => decide (n ≤ k + 1) && hasEdge o k)
theorem okR_spec {n : Nat} (h : okR n ops = true) {i : Nat} {o : Oper} (hi : ops[i]? = some o) : (i < n → ∀ e ∈ o.after, e.on < i) ∧ (i < n → ∀ j b, o.guard = some (j, b) → j < i) ∧
    (i + 1 < n → ∃ k q, i < k ∧ k < n ∧ ops[k]? = some q ∧ hasEdge q i = true) ∧ (n ≤ i → ∃ k, k < i ∧ n ≤ k + 1 ∧ hasEdge o k = true) := by
  have hl : i < ops.length := (List.getElem?_eq_some_iff.1 hi).1
  have := List.all_eq_true.1 h i (List.mem_range.2 hl)
  simp only [hi, Bool.and_eq_true] at this
  obtain ⟨h1, h3⟩ := this
  refine ⟨fun hin e he => ?_, fun hin j b hg => ?_, fun hin => ?_, fun hin => ?_⟩
  · simp only [hin, decide_true, Bool.not_true, Bool.false_or, Bool.and_eq_true] at h1
    simpa using List.all_eq_true.1 h1.1 e (by simpa using he)
  · simp only [hin, decide_true, Bool.not_true, Bool.false_or, Bool.and_eq_true] at h1
    have h2 := h1.2
    rw [hg] at h2; simpa using h2
  · rw [if_pos (by omega)] at h3
    have hne : decide (i + 1 = n) = false := by rw [decide_eq_false_iff_not]; omega
    rw [hne, Bool.false_or, List.any_eq_true] at h3
    obtain ⟨k, hk, hk2⟩ := h3
    rw [Bool.and_eq_true] at hk2
    cases hq : ops[k]? with
    | none => rw [hq] at hk2; exact absurd hk2.2 (by simp)
    | some q => rw [hq] at hk2; exact ⟨k, q, by simpa using hk2.1, List.mem_range.1 hk, hq, hk2.2⟩
  · rw [if_neg (by omega), List.any_eq_true] at h3
    obtain ⟨k, hk, hk2⟩ := h3
    rw [Bool.and_eq_true, decide_eq_true_iff] at hk2
    exact ⟨k, List.mem_range.1 hk, hk2.1, hk2.2⟩

def MDerL (P : Program) (ops : List Oper) (n : Nat) (w0 : World) (a0 : Act) (Q : Exit → Act → World → Prop) : List Oper → List VT → Prop
  | o :: os, RF => ∃ F : VT, Grows F ∧ Ob P (ops.take n) RF.reverse w0 a0 RF.length o F ∧ MDerL P ops n w0 a0 Q os (F :: RF)
  | [], RF => ∀ w, Below w0.heap.size w0 w → EndM (fun _ a w => wpAny P .any ops.toArray Q (ops.length - n) (firstN n ops.length) a w) (dstsOf (ops.take n)) RF.reverse a0 w
theorem MDerL.step {n : Nat} {o : Oper} {os : List Oper} {RF : List VT} {F : VT} [hF : Grows F] (h : Ob P (ops.take n) RF.reverse w0 a0 RF.length o F) (k : MDerL P ops n w0 a0 Q os (F :: RF)) : MDerL P ops n w0 a0 Q (o :: os) RF := ⟨F, hF, h, k⟩
theorem MDerL.fore {n : Nat} : ∀ {os : List Oper} {RF : List VT}, MDerL P ops n w0 a0 Q os RF → MDer P (ops.take n) w0 a0 (fun _ a w => wpAny P .any ops.toArray Q (ops.length - n) (firstN n ops.length) a w) os RF.reverse
  | [], _, h => h
  | o :: os, RF, ⟨F, hF, hob, k⟩ => ⟨F, hF, by rw [List.length_reverse]; exact hob, by have := k.fore; rwa [List.reverse_cons] at this⟩

theorem region_MR_any {n : Nat} {Gs : List VT} (hn : n < ops.length) (hok : okM a0.tmps.size 0 (ops.take n) [] = true) (hot : okR n ops = true) (hlen : Gs.length = (ops.take n).length)
    (hobs : ∀ (i : Nat) (o : Oper) (F : VT), (ops.take n)[i]? = some o → Gs[i]? = some F → Grows F ∧ Ob P (ops.take n) Gs w0 a0 i o F)
    (hend : ∀ w, Below w0.heap.size w0 w → EndM (fun _ a w => wpAny P .any ops.toArray Q (ops.length - n) (firstN n ops.length) a w) (dstsOf (ops.take n)) Gs a0 w) :
    ∀ (fuel : Nat) (listed : Array Bool) (a : Act) (w : World), InvM (ops.take n) Gs w0 a0 listed a w → listed.size = ops.length → (∀ j, n ≤ j → j < ops.length → listed[j]? = some false) → unlisted listed = fuel → wpAny P .any ops.toArray Q fuel listed a w := by
  obtain ⟨s1, s2⟩ := okM_spec hok
  have htl : (ops.take n).length = n := by rw [List.length_take]; omega
  have bodyAt : ∀ j o, j < n → (ops[j]? = some o ↔ (ops.take n)[j]? = some o) := fun j o hj => by rw [List.getElem?_take, if_pos hj]
  intro fuel
  induction fuel with
  | zero =>
    intro listed a w h hs hf hu
    exfalso
    have h1 := hf n (Nat.le_refl _) hn
    have : 0 < unlisted listed := by
      unfold unlisted
      rw [List.countP_pos_iff]
      refine ⟨false, ?_, rfl⟩
      rw [← Array.getElem?_toList] at h1
      exact List.mem_of_getElem? h1
    omega
  | succ fuel ih =>
    intro listed a w h hs hf hu
    -- whether the body has all come up
    by_cases hall : ∀ j, j < n → listed[j]? = some true
    · -- what is left
      have e : listed = firstN n ops.length := by
        refine Array.ext (by simp [firstN]; omega) fun j h1 h2 => ?_
        have hl : listed[j]? = (firstN n ops.length)[j]? := by
          have hr : (firstN n ops.length)[j]? = if j < n then (if j < n then some true else none) else (if j - n < ops.length - n then some false else none) := by
            unfold firstN
            rw [List.getElem?_toArray, List.getElem?_append, List.length_replicate, List.getElem?_replicate, List.getElem?_replicate]
          rw [hr]
          by_cases hj : j < n
          · rw [if_pos hj, if_pos hj]; exact hall j hj
          · rw [if_neg hj, if_pos (by omega)]; exact hf j (by omega) (by omega)
        rw [Array.getElem?_eq_getElem h1, Array.getElem?_eq_getElem h2] at hl
        exact Option.some.inj hl
      have hQ : wpAny P .any ops.toArray Q (ops.length - n) (firstN n ops.length) a w := by
        refine endM_of (Q := fun _ a w => wpAny P .any ops.toArray Q (ops.length - n) (firstN n ops.length) a w) (ops.take n) Gs a0 (fun j o d F h1 h2 h3 => h.done j o d F (hall j (by have := (List.getElem?_eq_some_iff.1 h1).1; omega)) h1 h2 h3) hlen.symm (fun o ho => ?_) h.defers.symm h.size.symm (fun t ht => (h.old t ht).symm) (hend w h.le)
        obtain ⟨j, hj⟩ := List.getElem?_of_mem ho
        obtain ⟨⟨d, hd, _⟩, _⟩ := s1 j o hj
        rw [hd]; simp
      have hcount : unlisted listed = ops.length - n := by
        rw [e]
        unfold unlisted firstN
        simp [List.countP_append, List.countP_replicate]
      rw [← hu, hcount, e]
      exact hQ
    · -- the body
      have hex : ∃ j, j < n ∧ listed[j]? = some false := by
        refine Classical.byContradiction fun hne => hall fun j hj => ?_
        have hjs : j < listed.size := by omega
        cases hb : listed[j] with
        | true => rw [Array.getElem?_eq_getElem hjs, hb]
        | false => exact absurd ⟨j, hj, by rw [Array.getElem?_eq_getElem hjs, hb]⟩ hne
      have hnr : Region.ready .any ops.toArray listed ≠ [] := by
        obtain ⟨j0, hj0, hjf⟩ := hex
        have key : ∀ j, j < n → listed[j]? = some false → Region.ready .any ops.toArray listed ≠ [] := by
          intro j
          induction j using Nat.strongRecOn with
          | _ j ihj =>
            intro hj hjf hr
            have hjo : ops[j]? = some ops[j] := List.getElem?_eq_getElem (by omega)
            have : j ∈ Region.ready .any ops.toArray listed := mem_ready.2 ⟨by simp [Array.getD_eq_getD_getElem?, hjf], ops[j], by simp, fun e he _ => by
              have hlt := (okR_spec hot hjo).1 (by omega) e he
              have hes : e.on < listed.size := by omega
              cases hb : listed[e.on] with
              | true => simp [Array.getD_eq_getD_getElem?, hes, hb]
              | false => exact absurd hr (ihj e.on hlt (by omega) (by rw [Array.getElem?_eq_getElem hes, hb]))⟩
            rw [hr] at this; cases this
        exact key j0 hj0 hjf
      refine ⟨fun h0 => absurd h0 hnr, fun i hi => ?_⟩
      obtain ⟨h0, o, ho, hed⟩ := mem_ready.1 hi
      have ho' : ops[i]? = some o := by simpa using ho
      have hil : i < ops.length := (List.getElem?_eq_some_iff.1 ho').1
      have edgeF : ∀ (o : Oper), ops[i]? = some o → ∀ j, hasEdge o j = true → listed[j]? = some true := fun q hq j he => by
        have hqo : q = o := by rw [hq] at ho'; simpa using ho'
        subst hqo
        unfold hasEdge at he
        rw [List.any_eq_true] at he
        obtain ⟨e, hm, he⟩ := he
        simp only [Bool.and_eq_true, beq_iff_eq] at he
        have h1 := hed e (by simpa using hm) he.2
        rw [he.1] at h1
        have hj2 : j < listed.size := by
          rcases Nat.lt_or_ge j listed.size with h9 | h9
          · exact h9
          · simp [Array.getD_eq_getD_getElem?, h9] at h1
        rw [Array.getElem?_eq_getElem hj2]
        simpa [Array.getD_eq_getD_getElem?, hj2] using h1
      have hin : i < n := by
        rcases Nat.lt_or_ge i n with h1 | h1
        · exact h1
        · exfalso
          obtain ⟨k, hk1, hk2, hk3⟩ := (okR_spec hot ho').2.2.2 h1
          rcases Nat.lt_or_ge k n with h2 | h2
          · have hk : k + 1 = n := by omega
            have chain : ∀ d j, n - j = d → j < n → listed[j]? = some true := by
              intro d
              induction d using Nat.strongRecOn with
              | _ d ihd =>
                intro j hd hj
                by_cases hjk : j = k
                · subst hjk; exact edgeF o ho' j hk3
                · have hjo : ops[j]? = some ops[j] := List.getElem?_eq_getElem (by omega)
                  obtain ⟨m, q, hm1, hm2, hm3, hm4⟩ := (okR_spec hot hjo).2.2.1 (by omega)
                  exact h.closed m q j (ihd (n - m) (by omega) m rfl hm2) ((bodyAt m q hm2).1 hm3) hm4
            exact hall fun j hj => chain (n - j) j rfl hj
          · have := edgeF o ho' k hk3
            have h5 := hf k h2 (by omega)
            rw [this] at h5; cases h5
      have hob' : (ops.take n)[i]? = some o := (bodyAt i o hin).1 ho'
      have hjl : i < listed.size := by omega
      have hfi : listed[i]? = some false := by
        rw [Array.getElem?_eq_getElem hjl]
        simpa [Array.getD_eq_getD_getElem?, hjl] using h0
      have hGi : i < Gs.length := by omega
      obtain ⟨hgr, hob⟩ := hobs i o Gs[i] hob' (List.getElem?_eq_getElem hGi)
      have hg : ∀ (j : Nat) (F : VT), Gs[j]? = some F → Grows F := fun j F hj => by
        have hjo : j < (ops.take n).length := by rw [← hlen]; exact (List.getElem?_eq_some_iff.1 hj).1
        exact (hobs j (ops.take n)[j] F (List.getElem?_eq_getElem hjo) hj).1
      have edge := edgeF o ho'
      have cx : Cx (ops.take n) Gs w0 a0 i o a w := ⟨h.le, h.defers, h.size, h.old, fun j oj d G he h1 h2 h3 => h.done j oj d G (edge j he) h1 h2 h3, fun j oj d h1 he h2 => by
        refine h.todo j oj d ?_ h1 h2
        have hj3 : j < (ops.take n).length := (List.getElem?_eq_some_iff.1 h1).1
        have hj2 : j < listed.size := by omega
        cases hb : listed[j] with
        | false => rw [Array.getElem?_eq_getElem hj2, hb]
        | true =>
          exfalso
          have := h.closed j oj i (by rw [Array.getElem?_eq_getElem hj2, hb]) h1 he
          rw [hfi] at this; cases this⟩
      have hob2 := hob a w cx
      rw [wanted_take hin ((okR_spec hot ho').2.1 hin)] at hob2
      have step : ∀ a' w', InvM (ops.take n) Gs w0 a0 (listed.setIfInBounds i true) a' w' → wpAny P .any ops.toArray Q fuel (listed.setIfInBounds i true) a' w' := fun a' w' h' =>
        ih _ a' w' h' (by simp [hs]) (fun j hj hjl2 => by rw [Array.getElem?_setIfInBounds_ne (by omega)]; exact hf j hj hjl2) (by have := unlisted_set hfi; omega)
      unfold wpOp
      simp only [ho]
      split
      · rename_i hw
        rw [if_pos hw] at hob2
        refine .inl (Oper.wp_noQ (Oper.wp_mono (fun a' w' h' => ?_) hob2))
        obtain ⟨v, rfl, hb, hv⟩ := h'
        exact step _ _ (h.put hok hg hb hob' edge fun G hG => by rw [List.getElem?_eq_getElem hGi] at hG; cases hG; exact hv)
      · rename_i hw
        rw [if_neg hw] at hob2
        exact step _ _ (h.put hok hg (Below.refl _ _) hob' edge fun G hG => by rw [List.getElem?_eq_getElem hGi] at hG; cases hG; exact hob2)


/-- The rule: the first n operations; what is left is the caller's. -/
theorem wp_region_MR {id : Nat} (n : Nat) (hm : P.follows .mixedOrders = true) (hok : okM a0.tmps.size 0 (ops.take n) [] = true) (hot : (decide (n < ops.length) && okR n ops) = true) (h : MDerL P ops n w0 a0 Q (ops.take n) []) : (Code.region id ops.toArray true).wp P Q a0 w0 := by
  rw [Bool.and_eq_true, decide_eq_true_iff] at hot
  obtain ⟨Gs, h1, h2, h3⟩ := MDer.all (Fs := []) h.fore [] rfl (by simp) (fun i o F hi => by simp at hi)
  refine wp_region_any hm ?_
  have hu : unlisted (Array.replicate ops.length false) = ops.length := by simp [unlisted, List.countP_replicate]
  have := region_MR_any (Q := Q) hot.1 hok hot.2 h1 h2 h3 ops.length (Array.replicate ops.length false) a0 { w0 with drawn := w0.drawn + 1 }
    ⟨(Below.refl _ w0).drew, rfl, rfl, by simp [List.length_take]; omega, fun _ _ => rfl, fun j oj d G hj => by simp [Array.getElem?_replicate] at hj, fun j oj i hj => by simp [Array.getElem?_replicate] at hj, fun j oj d _ _ _ => rfl⟩ (by simp) (fun j _ hj => by simp [hj]) hu
  simpa using this
/-- One operation alone can come up. -/
theorem wpAny_next {ops : Array Oper} {fuel i : Nat} {listed : Array Bool} {a : Act} {w : World} {o : Oper} (hr : Region.ready .any ops listed = [i]) (ho : ops[i]? = some o) (hg : o.guard = none)
    (h : o.wp P a w (wpAny P .any ops Q fuel (listed.setIfInBounds i true)) Q) : wpAny P .any ops Q (fuel + 1) listed a w := by
  refine ⟨fun h0 => (by rw [hr] at h0; cases h0), fun j hj => ?_⟩
  rw [hr] at hj
  obtain rfl := List.mem_singleton.1 hj
  unfold wpOp
  simp only [ho]
  rw [if_pos (by simp [Region.wanted, hg])]
  exact .inl h
end
end Go.Proofs.YtdngechnelemlaaGreat

/-
  A region whose order is open and in which two blocks are made at any time: they are two.
-/
namespace Go.Proofs.YtdngechnelemlaaGreat
open Go.RowKit

section
variable {P : Program} {ops : List Oper} {w0 : World} {a0 : Act} {Q : Exit → Act → World → Prop}
/-- The closed facts: what is left waits for one of its own, or, through at most one other, for all of the first n. -/
def okJ (n : Nat) (ops : List Oper) : Bool :=
  (List.range ops.length).all fun i => match ops[i]? with
    | none => false
    | some o => (!decide (i < n) || ((o.after.toList.all fun e => decide (e.on < i)) && (match o.guard with | none => true | some (j, _) => decide (j < i)))) &&
      (decide (i < n) || (List.range i).any (fun k => decide (n ≤ k) && hasEdge o k) || (List.range n).all fun j => hasEdge o j || (List.range n).any fun k => hasEdge o k && (match ops[k]? with | some q => hasEdge q j | none => false))
theorem okJ_spec {n : Nat} (h : okJ n ops = true) {i : Nat} {o : Oper} (hi : ops[i]? = some o) : (i < n → ∀ e ∈ o.after, e.on < i) ∧ (i < n → ∀ j b, o.guard = some (j, b) → j < i) ∧
    (n ≤ i → (∃ k, k < i ∧ n ≤ k ∧ hasEdge o k = true) ∨ ∀ j, j < n → hasEdge o j = true ∨ ∃ k q, k < n ∧ ops[k]? = some q ∧ hasEdge o k = true ∧ hasEdge q j = true) := by
  have hl : i < ops.length := (List.getElem?_eq_some_iff.1 hi).1
  have := List.all_eq_true.1 h i (List.mem_range.2 hl)
  simp only [hi, Bool.and_eq_true] at this
  obtain ⟨h1, h3⟩ := this
  refine ⟨fun hin e he => ?_, fun hin j b hg => ?_, fun hin => ?_⟩
  · simp only [hin, decide_true, Bool.not_true, Bool.false_or, Bool.and_eq_true] at h1
    simpa using List.all_eq_true.1 h1.1 e (by simpa using he)
  · simp only [hin, decide_true, Bool.not_true, Bool.false_or, Bool.and_eq_true] at h1
    have h2 := h1.2
    rw [hg] at h2; simpa using h2
  · have hne : decide (i < n) = false := by rw [decide_eq_false_iff_not]; omega
    rw [hne, Bool.false_or, Bool.or_eq_true] at h3
    rcases h3 with h3 | h3
    · rw [List.any_eq_true] at h3
      obtain ⟨k, hk, hk2⟩ := h3
      rw [Bool.and_eq_true, decide_eq_true_iff] at hk2
      exact .inl ⟨k, List.mem_range.1 hk, hk2.1, hk2.2⟩
    · refine .inr fun j hj => ?_
      have h4 := List.all_eq_true.1 h3 j (List.mem_range.2 hj)
      rw [Bool.or_eq_true] at h4
      rcases h4 with h4 | h4
      · exact .inl h4
      · rw [List.any_eq_true] at h4
        obtain ⟨k, hk, hk2⟩ := h4
        rw [Bool.and_eq_true] at hk2
        cases hq : ops[k]? with
        | none => rw [hq] at hk2; exact absurd hk2.2 (by simp)
        | some q => rw [hq] at hk2; exact .inr ⟨k, q, List.mem_range.1 hk, hq, hk2.1, hk2.2⟩
/-- The operation makes a block. -/
def AllocAt (P : Program) (body : List Oper) (p : Nat) (dp : Tmp) : Prop :=
  ∃ o, body[p]? = some o ∧ o.dst = some dp ∧ o.guard = none ∧ ∃ bx, ∀ (a : Act) (w : World), (execOp a.eval o).run P w = .ok (.value (.pointer (some ⟨w.heap.size, 0, none⟩))) (w.alloc bx)
theorem AllocAt.lt_n {n p : Nat} {dp : Tmp} (h : AllocAt P (ops.take n) p dp) : p < n := by
  obtain ⟨o, h1, _⟩ := h
  have := (List.getElem?_eq_some_iff.1 h1).1
  rw [List.length_take] at this; omega
/-- What has been made, as far as it has come up. -/
def JJ (p q : Nat) (dp dq : Tmp) (listed : Array Bool) (a : Act) (w : World) : Prop :=
  (listed[p]? = some true → ∃ N, a.tmps.getD dp undef = .pointer (some ⟨N, 0, none⟩) ∧ N < w.heap.size) ∧ (listed[q]? = some true → ∃ N, a.tmps.getD dq undef = .pointer (some ⟨N, 0, none⟩) ∧ N < w.heap.size) ∧
  (listed[p]? = some true → listed[q]? = some true → a.tmps.getD dp undef ≠ a.tmps.getD dq undef)
def MDerJ (P : Program) (ops : List Oper) (n : Nat) (dp dq : Tmp) (w0 : World) (a0 : Act) (Q : Exit → Act → World → Prop) : List Oper → List VT → Prop
  | o :: os, RF => ∃ F : VT, Grows F ∧ Ob P (ops.take n) RF.reverse w0 a0 RF.length o F ∧ MDerJ P ops n dp dq w0 a0 Q os (F :: RF)
  | [], RF => ∀ w, Below w0.heap.size w0 w → EndM (fun _ a w => a.tmps.getD dp undef ≠ a.tmps.getD dq undef → wpAny P .any ops.toArray Q (ops.length - n) (firstN n ops.length) a w) (dstsOf (ops.take n)) RF.reverse a0 w
theorem MDerJ.step {n : Nat} {dp dq : Tmp} {o : Oper} {os : List Oper} {RF : List VT} {F : VT} [hF : Grows F] (h : Ob P (ops.take n) RF.reverse w0 a0 RF.length o F) (k : MDerJ P ops n dp dq w0 a0 Q os (F :: RF)) : MDerJ P ops n dp dq w0 a0 Q (o :: os) RF := ⟨F, hF, h, k⟩
theorem MDerJ.fore {n : Nat} {dp dq : Tmp} : ∀ {os : List Oper} {RF : List VT}, MDerJ P ops n dp dq w0 a0 Q os RF → MDer P (ops.take n) w0 a0 (fun _ a w => a.tmps.getD dp undef ≠ a.tmps.getD dq undef → wpAny P .any ops.toArray Q (ops.length - n) (firstN n ops.length) a w) os RF.reverse
  | [], _, h => h
  | o :: os, RF, ⟨F, hF, hob, k⟩ => ⟨F, hF, by rw [List.length_reverse]; exact hob, by have := k.fore; rwa [List.reverse_cons] at this⟩

theorem region_MJ_any {n p q : Nat} {dp dq : Tmp} {Gs : List VT} (hn : n < ops.length) (hok : okM a0.tmps.size 0 (ops.take n) [] = true) (hot : okJ n ops = true) (hlen : Gs.length = (ops.take n).length)
    (hobs : ∀ (i : Nat) (o : Oper) (F : VT), (ops.take n)[i]? = some o → Gs[i]? = some F → Grows F ∧ Ob P (ops.take n) Gs w0 a0 i o F)
    (hend : ∀ w, Below w0.heap.size w0 w → EndM (fun _ a w => a.tmps.getD dp undef ≠ a.tmps.getD dq undef → wpAny P .any ops.toArray Q (ops.length - n) (firstN n ops.length) a w) (dstsOf (ops.take n)) Gs a0 w)
    (hpq : p ≠ q) (hap : AllocAt P (ops.take n) p dp) (haq : AllocAt P (ops.take n) q dq) :
    ∀ (fuel : Nat) (listed : Array Bool) (a : Act) (w : World), InvM (ops.take n) Gs w0 a0 listed a w → JJ p q dp dq listed a w → listed.size = ops.length → (∀ j, n ≤ j → j < ops.length → listed[j]? = some false) → unlisted listed = fuel → wpAny P .any ops.toArray Q fuel listed a w := by
  obtain ⟨s1, s2⟩ := okM_spec hok
  have htl : (ops.take n).length = n := by rw [List.length_take]; omega
  have bodyAt : ∀ j o, j < n → (ops[j]? = some o ↔ (ops.take n)[j]? = some o) := fun j o hj => by rw [List.getElem?_take, if_pos hj]
  intro fuel
  induction fuel with
  | zero =>
    intro listed a w h hj0 hs hf hu
    exfalso
    have h1 := hf n (Nat.le_refl _) hn
    have : 0 < unlisted listed := by
      unfold unlisted
      rw [List.countP_pos_iff]
      refine ⟨false, ?_, rfl⟩
      rw [← Array.getElem?_toList] at h1
      exact List.mem_of_getElem? h1
    omega
  | succ fuel ih =>
    intro listed a w h hj0 hs hf hu
    -- whether the body has all come up
    by_cases hall : ∀ j, j < n → listed[j]? = some true
    · -- what is left
      have e : listed = firstN n ops.length := by
        refine Array.ext (by simp [firstN]; omega) fun j h1 h2 => ?_
        have hl : listed[j]? = (firstN n ops.length)[j]? := by
          have hr : (firstN n ops.length)[j]? = if j < n then (if j < n then some true else none) else (if j - n < ops.length - n then some false else none) := by
            unfold firstN
            rw [List.getElem?_toArray, List.getElem?_append, List.length_replicate, List.getElem?_replicate, List.getElem?_replicate]
          rw [hr]
          by_cases hj : j < n
          · rw [if_pos hj, if_pos hj]; exact hall j hj
          · rw [if_neg hj, if_pos (by omega)]; exact hf j (by omega) (by omega)
        rw [Array.getElem?_eq_getElem h1, Array.getElem?_eq_getElem h2] at hl
        exact Option.some.inj hl
      have hQ : wpAny P .any ops.toArray Q (ops.length - n) (firstN n ops.length) a w := by
        refine endM_of (Q := (fun _ a w => a.tmps.getD dp undef ≠ a.tmps.getD dq undef → wpAny P .any ops.toArray Q (ops.length - n) (firstN n ops.length) a w)) (ops.take n) Gs a0 (fun j o d F h1 h2 h3 => h.done j o d F (hall j (by have := (List.getElem?_eq_some_iff.1 h1).1; omega)) h1 h2 h3) hlen.symm (fun o ho => ?_) h.defers.symm h.size.symm (fun t ht => (h.old t ht).symm) (hend w h.le) (hj0.2.2 (hall p hap.lt_n) (hall q haq.lt_n))
        obtain ⟨j, hj⟩ := List.getElem?_of_mem ho
        obtain ⟨⟨d, hd, _⟩, _⟩ := s1 j o hj
        rw [hd]; simp
      have hcount : unlisted listed = ops.length - n := by
        rw [e]
        unfold unlisted firstN
        simp [List.countP_append, List.countP_replicate]
      rw [← hu, hcount, e]
      exact hQ
    · -- the body
      have hex : ∃ j, j < n ∧ listed[j]? = some false := by
        refine Classical.byContradiction fun hne => hall fun j hj => ?_
        have hjs : j < listed.size := by omega
        cases hb : listed[j] with
        | true => rw [Array.getElem?_eq_getElem hjs, hb]
        | false => exact absurd ⟨j, hj, by rw [Array.getElem?_eq_getElem hjs, hb]⟩ hne
      have hnr : Region.ready .any ops.toArray listed ≠ [] := by
        obtain ⟨j0, hj0, hjf⟩ := hex
        have key : ∀ j, j < n → listed[j]? = some false → Region.ready .any ops.toArray listed ≠ [] := by
          intro j
          induction j using Nat.strongRecOn with
          | _ j ihj =>
            intro hj hjf hr
            have hjo : ops[j]? = some ops[j] := List.getElem?_eq_getElem (by omega)
            have : j ∈ Region.ready .any ops.toArray listed := mem_ready.2 ⟨by simp [Array.getD_eq_getD_getElem?, hjf], ops[j], by simp, fun e he _ => by
              have hlt := (okJ_spec hot hjo).1 (by omega) e he
              have hes : e.on < listed.size := by omega
              cases hb : listed[e.on] with
              | true => simp [Array.getD_eq_getD_getElem?, hes, hb]
              | false => exact absurd hr (ihj e.on hlt (by omega) (by rw [Array.getElem?_eq_getElem hes, hb]))⟩
            rw [hr] at this; cases this
        exact key j0 hj0 hjf
      refine ⟨fun h0 => absurd h0 hnr, fun i hi => ?_⟩
      obtain ⟨h0, o, ho, hed⟩ := mem_ready.1 hi
      have ho' : ops[i]? = some o := by simpa using ho
      have hil : i < ops.length := (List.getElem?_eq_some_iff.1 ho').1
      have edgeF : ∀ (o : Oper), ops[i]? = some o → ∀ j, hasEdge o j = true → listed[j]? = some true := fun q hq j he => by
        have hqo : q = o := by rw [hq] at ho'; simpa using ho'
        subst hqo
        unfold hasEdge at he
        rw [List.any_eq_true] at he
        obtain ⟨e, hm, he⟩ := he
        simp only [Bool.and_eq_true, beq_iff_eq] at he
        have h1 := hed e (by simpa using hm) he.2
        rw [he.1] at h1
        have hj2 : j < listed.size := by
          rcases Nat.lt_or_ge j listed.size with h9 | h9
          · exact h9
          · simp [Array.getD_eq_getD_getElem?, h9] at h1
        rw [Array.getElem?_eq_getElem hj2]
        simpa [Array.getD_eq_getD_getElem?, hj2] using h1
      have hin : i < n := by
        rcases Nat.lt_or_ge i n with h1 | h1
        · exact h1
        · exfalso
          rcases (okJ_spec hot ho').2.2 h1 with ⟨k, hk1, hk2, hk3⟩ | hjs
          · have := edgeF o ho' k hk3
            have h5 := hf k hk2 (by omega)
            rw [this] at h5; cases h5
          · exact hall fun j hj => by
              rcases hjs j hj with he | ⟨k, u, hk, hu, he1, he2⟩
              · exact edgeF o ho' j he
              · exact h.closed k u j (edgeF o ho' k he1) ((bodyAt k u hk).1 hu) he2
      have hob' : (ops.take n)[i]? = some o := (bodyAt i o hin).1 ho'
      have hjl : i < listed.size := by omega
      have hfi : listed[i]? = some false := by
        rw [Array.getElem?_eq_getElem hjl]
        simpa [Array.getD_eq_getD_getElem?, hjl] using h0
      have hGi : i < Gs.length := by omega
      obtain ⟨hgr, hob⟩ := hobs i o Gs[i] hob' (List.getElem?_eq_getElem hGi)
      have hg : ∀ (j : Nat) (F : VT), Gs[j]? = some F → Grows F := fun j F hj => by
        have hjo : j < (ops.take n).length := by rw [← hlen]; exact (List.getElem?_eq_some_iff.1 hj).1
        exact (hobs j (ops.take n)[j] F (List.getElem?_eq_getElem hjo) hj).1
      have edge := edgeF o ho'
      have cx : Cx (ops.take n) Gs w0 a0 i o a w := ⟨h.le, h.defers, h.size, h.old, fun j oj d G he h1 h2 h3 => h.done j oj d G (edge j he) h1 h2 h3, fun j oj d h1 he h2 => by
        refine h.todo j oj d ?_ h1 h2
        have hj3 : j < (ops.take n).length := (List.getElem?_eq_some_iff.1 h1).1
        have hj2 : j < listed.size := by omega
        cases hb : listed[j] with
        | false => rw [Array.getElem?_eq_getElem hj2, hb]
        | true =>
          exfalso
          have := h.closed j oj i (by rw [Array.getElem?_eq_getElem hj2, hb]) h1 he
          rw [hfi] at this; cases this⟩
      have hob2 := hob a w cx
      rw [wanted_take hin ((okJ_spec hot ho').2.1 hin)] at hob2
      have step : ∀ a' w', InvM (ops.take n) Gs w0 a0 (listed.setIfInBounds i true) a' w' → JJ p q dp dq (listed.setIfInBounds i true) a' w' → wpAny P .any ops.toArray Q fuel (listed.setIfInBounds i true) a' w' := fun a' w' h' hj' =>
        ih _ a' w' h' hj' (by simp [hs]) (fun j hj hjl2 => by rw [Array.getElem?_setIfInBounds_ne (by omega)]; exact hf j hj hjl2) (by have := unlisted_set hfi; omega)
      unfold wpOp
      simp only [ho]
      obtain ⟨op_, hop, hopd, hopg, bx, hopx⟩ := hap
      obtain ⟨oq_, hoq, hoqd, hoqg, bq, hoqx⟩ := haq
      have dne : ∀ j oj d, j ≠ i → (ops.take n)[j]? = some oj → oj.dst = some d → o.dst ≠ some d := fun j oj d hj h1 h2 e => hj (s2 j i oj o h1 hob' (h2.trans e.symm))
      have keep : ∀ j oj d v, j ≠ i → (ops.take n)[j]? = some oj → oj.dst = some d → (a.put o.dst v).tmps.getD d undef = a.tmps.getD d undef := fun j oj d v hj h1 h2 => by
        have h3 := dne j oj d hj h1 h2
        cases ed : o.dst with
        | none => rfl
        | some e => rw [getD_put, if_neg (fun h4 => h3 (by rw [ed, h4.1]))]
      have lst : ∀ j, j ≠ i → (listed.setIfInBounds i true)[j]? = listed[j]? := fun j hj => Array.getElem?_setIfInBounds_ne (fun e => hj e.symm)
      by_cases hip : i = p
      · subst hip
        have e := hop.symm.trans hob'; cases e
        have hw : Region.wanted o (yielded (ops.take n).toArray a.tmps) = true := by simp [Region.wanted, hopg]
        rw [if_pos (by simp [Region.wanted, hopg])] at hob2
        rw [if_pos (by simp [Region.wanted, hopg])]
        unfold Oper.wp at hob2 ⊢
        rw [hopx] at hob2 ⊢
        refine .inl ?_
        obtain ⟨v, e, hb, hv⟩ := hob2
        have hinv : InvM (ops.take n) Gs w0 a0 (listed.setIfInBounds i true) (a.put o.dst (.pointer (some ⟨w.heap.size, 0, none⟩))) (w.alloc bx) := by
          rw [e]; exact h.put hok hg hb hob' edge fun G hG => by rw [List.getElem?_eq_getElem hGi] at hG; cases hG; exact hv
        have hdn : dp < a.tmps.size := by obtain ⟨⟨d, hd, hdn, _⟩, _⟩ := s1 i o hob'; rw [hopd] at hd; cases hd; rw [h.size]; exact hdn
        have hmine : (a.put o.dst (.pointer (some ⟨w.heap.size, 0, none⟩))).tmps.getD dp undef = .pointer (some ⟨w.heap.size, 0, none⟩) := by rw [hopd, getD_put, if_pos ⟨rfl, hdn⟩]
        have hother := keep q oq_ dq (.pointer (some ⟨w.heap.size, 0, none⟩)) (fun e => hpq e.symm) hoq hoqd
        refine step _ _ hinv ⟨fun _ => ⟨w.heap.size, hmine, by simp⟩, fun hl => ?_, fun _ hl => ?_⟩
        · rw [lst q (fun e => hpq e.symm)] at hl
          obtain ⟨N, h1, h2⟩ := hj0.2.1 hl
          exact ⟨N, hother.trans h1, by have := hb.size; omega⟩
        · rw [lst q (fun e => hpq e.symm)] at hl
          obtain ⟨N, h1, h2⟩ := hj0.2.1 hl
          rw [hmine, hother, h1]
          intro e; cases e; omega
      by_cases hiq : i = q
      · subst hiq
        have e := hoq.symm.trans hob'; cases e
        rw [if_pos (by simp [Region.wanted, hoqg])] at hob2
        rw [if_pos (by simp [Region.wanted, hoqg])]
        unfold Oper.wp at hob2 ⊢
        rw [hoqx] at hob2 ⊢
        refine .inl ?_
        obtain ⟨v, e, hb, hv⟩ := hob2
        have hinv : InvM (ops.take n) Gs w0 a0 (listed.setIfInBounds i true) (a.put o.dst (.pointer (some ⟨w.heap.size, 0, none⟩))) (w.alloc bq) := by
          rw [e]; exact h.put hok hg hb hob' edge fun G hG => by rw [List.getElem?_eq_getElem hGi] at hG; cases hG; exact hv
        have hdn : dq < a.tmps.size := by obtain ⟨⟨d, hd, hdn, _⟩, _⟩ := s1 i o hob'; rw [hoqd] at hd; cases hd; rw [h.size]; exact hdn
        have hmine : (a.put o.dst (.pointer (some ⟨w.heap.size, 0, none⟩))).tmps.getD dq undef = .pointer (some ⟨w.heap.size, 0, none⟩) := by rw [hoqd, getD_put, if_pos ⟨rfl, hdn⟩]
        have hother := keep p op_ dp (.pointer (some ⟨w.heap.size, 0, none⟩)) hpq hop hopd
        refine step _ _ hinv ⟨fun hl => ?_, fun _ => ⟨w.heap.size, hmine, by simp⟩, fun hl _ => ?_⟩
        · rw [lst p hpq] at hl
          obtain ⟨N, h1, h2⟩ := hj0.1 hl
          exact ⟨N, hother.trans h1, by have := hb.size; omega⟩
        · rw [lst p hpq] at hl
          obtain ⟨N, h1, h2⟩ := hj0.1 hl
          rw [hmine, hother, h1]
          intro e; cases e; omega
      have keepJ : ∀ v w', Below w.heap.size w w' → JJ p q dp dq (listed.setIfInBounds i true) (a.put o.dst v) w' := fun v w' hb => by
        refine ⟨fun hl => ?_, fun hl => ?_, fun hl hl2 => ?_⟩
        · rw [lst p (fun e => hip e.symm)] at hl
          obtain ⟨N, h1, h2⟩ := hj0.1 hl
          exact ⟨N, (keep p op_ dp v (fun e => hip e.symm) hop hopd).trans h1, by have := hb.size; omega⟩
        · rw [lst q (fun e => hiq e.symm)] at hl
          obtain ⟨N, h1, h2⟩ := hj0.2.1 hl
          exact ⟨N, (keep q oq_ dq v (fun e => hiq e.symm) hoq hoqd).trans h1, by have := hb.size; omega⟩
        · rw [lst p (fun e => hip e.symm)] at hl
          rw [lst q (fun e => hiq e.symm)] at hl2
          rw [keep p op_ dp v (fun e => hip e.symm) hop hopd, keep q oq_ dq v (fun e => hiq e.symm) hoq hoqd]
          exact hj0.2.2 hl hl2
      split
      · rename_i hw
        rw [if_pos hw] at hob2
        refine .inl (Oper.wp_noQ (Oper.wp_mono (fun a' w' h' => ?_) hob2))
        obtain ⟨v, rfl, hb, hv⟩ := h'
        exact step _ _ (h.put hok hg hb hob' edge fun G hG => by rw [List.getElem?_eq_getElem hGi] at hG; cases hG; exact hv) (keepJ _ _ hb)
      · rename_i hw
        rw [if_neg hw] at hob2
        exact step _ _ (h.put hok hg (Below.refl _ _) hob' edge fun G hG => by rw [List.getElem?_eq_getElem hGi] at hG; cases hG; exact hob2) (keepJ _ _ (Below.refl _ _))

/-- The rule: the first n operations, of which p and q make a block each; what is left is the caller's. -/
theorem wp_region_MJ {id : Nat} (n p q : Nat) (dp dq : Tmp) (hm : P.follows .mixedOrders = true) (hok : okM a0.tmps.size 0 (ops.take n) [] = true) (hot : (decide (n < ops.length) && okJ n ops) = true) (hpq : p ≠ q) (hap : AllocAt P (ops.take n) p dp) (haq : AllocAt P (ops.take n) q dq)
    (h : MDerJ P ops n dp dq w0 a0 Q (ops.take n) []) : (Code.region id ops.toArray true).wp P Q a0 w0 := by
  rw [Bool.and_eq_true, decide_eq_true_iff] at hot
  obtain ⟨Gs, h1, h2, h3⟩ := MDer.all (Fs := []) h.fore [] rfl (by simp) (fun i o F hi => by simp at hi)
  refine wp_region_any hm ?_
  have hu : unlisted (Array.replicate ops.length false) = ops.length := by simp [unlisted, List.countP_replicate]
  have := region_MJ_any (Q := Q) hot.1 hok hot.2 h1 h2 h3 hpq hap haq ops.length (Array.replicate ops.length false) a0 { w0 with drawn := w0.drawn + 1 }
    ⟨(Below.refl _ w0).drew, rfl, rfl, by simp [List.length_take]; omega, fun _ _ => rfl, fun j oj d G hj => by simp [Array.getElem?_replicate] at hj, fun j oj i hj => by simp [Array.getElem?_replicate] at hj, fun j oj d _ _ _ => rfl⟩
    ⟨fun hl => by simp [Array.getElem?_replicate] at hl, fun hl => by simp [Array.getElem?_replicate] at hl, fun hl => by simp [Array.getElem?_replicate] at hl⟩ (by simp) (fun j _ hj => by simp [hj]) hu
  simpa using this
theorem wp_skips {o : Oper} {a : Act} {w w' : World} {K : Act → World → Prop} (e : (execOp a.eval o).run P w = .ok .skip w') (h : K (a.put o.dst undef) w') : o.wp P a w K Q := by
  unfold Oper.wp
  rw [e]; exact h
end
end Go.Proofs.YtdngechnelemlaaGreat

/-
  The reference's Merge and Within of vectors.
-/
namespace Go.Proofs.YtdngechnelemlaaGreat
open Go.RowKit

def MergeRel (w : World) (n m : Nat) (a b : List Dot) (v i : Value) (wr : World) : Prop :=
  ∃ (k : Nat) (A : Option Addr) (j c : Nat) (l : List Dot), v = .slice A j c ∧ i = .int .i64 k ∧ k ≤ m ∧ Below w.heap.size w wr ∧ Dots wr A j c l ∧ j ≤ n + k ∧ mergeV a b = (b.drop k).foldl raiseV l
set_option maxRecDepth 100000 in
set_option maxHeartbeats 2000000 in
theorem rvmerge (A B : Option Addr) (n ca m cb : Nat) (a b : List Dot) (w : World) (ha : Dots w A n ca a) (hb' : Dots w B m cb b) (hs : Small (n + m)) :
    Calls Tryz.prog 31 #[.slice A n ca, .slice B m cb] w (Ret w (IsDots (mergeV a b))) := by
  have hm := hb'.big
  go_enter Tryz.func31, Tryz.ntmps31
  go_wp2
  go_loopw [0, 5] (fun v i wr => MergeRel w n m a b v i wr) (fun _ i _ => m - (intOf i).toNat)
  case atStart => exact ⟨0, A, n, ca, a, rfl, rfl, by omega, Below.refl _ _, ha, by omega, rfl⟩
  case round =>
    obtain ⟨k, A1, j, c1, l, rfl, rfl, hk, hb, hd, hj, hf⟩ := hrel
    by_cases hlt : k < m
    · obtain ⟨b', o, p, q, rfl, hbk, e0, d1, k1, k2⟩ := (hb'.mono hb).at_ (k := k) hlt
      have hj2 : (raiseV l (p, q)).length ≤ l.length + 1 := raiseV_length l (p, q)
      have hlj := hd.len
      have F := Lib.hid (rraise (fun _ => True) p q A1 j c1 l wr hd (by have := hs.out; unfold Small; omega) (fun _ _ => trivial) (fun _ _ _ => trivial))
      have D1 := Lib.hid d1; have HF := Lib.hid hf; have HJ := Lib.hid hj; have HJ2 := Lib.hid hj2; have HLJ := Lib.hid hlj
      clear d1 e0 hf hj hj2 hlj
      go_wp2_with fail
      refine F.out.mono ?_
      rintro e w1 ⟨_, rfl, hb1, A2, m2, c2, rfl, hd2, _⟩
      have HD2 := Lib.hid hd2; have HL2 := Lib.hid hd2.len
      clear F hd2
      go_wp2
      go_roundw
      case rel => exact ⟨k + 1, A2, m2, c2, _, rfl, by simp, hlt, hb.le hb1, HD2.out, by have := HL2.out; have := HJ.out; have := HJ2.out; have := HLJ.out; omega, by rw [HF.out, D1.out, List.foldl_cons]⟩
      case measure => simp [intOf]; omega
    · rw [List.drop_of_length_le (by rw [← hb'.len]; omega)] at hf
      have HF := Lib.hid hf; have HD := Lib.hid hd
      clear hf hd
      go_wp2
      go_ret
      refine ⟨_, rfl, hb, _, _, _, rfl, ?_⟩
      rw [HF.out]; exact HD.out
def AllRelU (f : Dot → Bool) (w : World) (n : Nat) (l : List Dot) (i : Value) (wr : World) : Prop := ∃ k : Nat, i = .int .i64 k ∧ k ≤ n ∧ Below w.heap.size w wr ∧ l.all f = (l.drop k).all f
set_option maxRecDepth 100000 in
set_option maxHeartbeats 2000000 in
theorem rvwithin (A B : Option Addr) (n ca m cb : Nat) (a b : List Dot) (w : World) (ha : Dots w A n ca a) (hb' : Dots w B m cb b) :
    Calls Tryz.prog 34 #[.slice A n ca, .slice B m cb] w (Ret w (IsB (a.all (hasV b)))) := by
  have hn := ha.big
  go_enter Tryz.func34, Tryz.ntmps34
  go_wp2
  go_loopw [5] (fun i wr => AllRelU (hasV b) w n a i wr) (fun i _ => n - (intOf i).toNat)
  case atStart => exact ⟨0, rfl, by omega, Below.refl _ _, rfl⟩
  case round =>
    obtain ⟨k, rfl, hk, hb, hf⟩ := hrel
    by_cases hlt : k < n
    · obtain ⟨b', o, p, q, rfl, hbk, e0, d1, k1, k2⟩ := (ha.mono hb).at_ (k := k) hlt
      have f := hasv56 p q B m cb b wr (hb'.mono hb)
      rw [d1, List.all_cons] at hf
      cases hh : hasV b (p, q) with
      | true =>
        rw [hh] at f hf
        have F := Lib.hid f; have HF := Lib.hid hf
        clear f hf hh d1 e0
        go_wp2_with fail
        refine F.out.mono ?_
        rintro e w1 ⟨_, rfl, hb1, rfl⟩
        clear F
        go_wp2
        go_roundw
        case rel => exact ⟨k + 1, by simp, hlt, hb.le hb1, by rw [HF.out, Bool.true_and]⟩
        case measure => simp [intOf]; omega
      | false =>
        rw [hh] at f hf
        have F := Lib.hid f; have HF := Lib.hid hf
        clear f hf hh d1 e0
        go_wp2_with fail
        refine F.out.mono ?_
        rintro e w1 ⟨_, rfl, hb1, rfl⟩
        clear F
        go_wp2
        go_ret
        exact ⟨_, rfl, hb.le hb1, by rw [HF.out]; rfl⟩
    · rw [List.drop_of_length_le (by rw [← ha.len]; omega)] at hf
      have HF := Lib.hid hf
      clear hf
      go_wp2
      go_ret
      exact ⟨_, rfl, hb, by rw [HF.out]; rfl⟩
theorem entersRMergeV : Enters Tryz.prog 31 := enters_of Tryz.func31 (by kernel_rfl) rfl
section
variable {ops : List Oper} {Fs : List VT} {w0 : World} {a0 : Act} {i : Nat} {d : Option Tmp} {ty : TypeId} {pos : String} {after : Array Edge} {g : Option (Nat × Bool)}
theorem Ob.mkConDD {x y : Operand} {l k : List Dot} (hw : Wanted ops Fs w0 a0 i ⟨d, .build 25 #[(0, x), (1, y)], ty, pos, after, g⟩) (hx : Has ops Fs w0 a0 i ⟨d, .build 25 #[(0, x), (1, y)], ty, pos, after, g⟩ x (IsDots l)) (hy : Has ops Fs w0 a0 i ⟨d, .build 25 #[(0, x), (1, y)], ty, pos, after, g⟩ y (IsDots k)) :
    Ob Tryz.prog ops Fs w0 a0 i ⟨d, .build 25 #[(0, x), (1, y)], ty, pos, after, g⟩ (IsCon (l, k)) :=
  Ob.stay hw fun a w cx => by
    obtain ⟨A, n, ca, e1, d1⟩ := hx a w cx
    obtain ⟨B, m, cb, e2, d2⟩ := hy a w cx
    refine ⟨.agg #[.slice A n ca, .slice B m cb], ?_, A, n, ca, B, m, cb, rfl, d1, d2⟩
    generalize a.eval = ρ at e1 e2
    simp [execOp, e1, e2, go_sem]
end
end Go.Proofs.YtdngechnelemlaaGreat

/-
  The reference's Union of contexts.
-/
namespace Go.Proofs.YtdngechnelemlaaGreat
open Go.RowKit

theorem NoInt.boxN (w : World) (A B : Option Addr) (n ca m cb : Nat) (N : Nat) (hN : N = w.heap.size) : NoInt (w.alloc (conBox A n ca B m cb)) N := by subst hN; exact NoInt.box w A B n ca m cb
set_option maxRecDepth 100000 in
set_option maxHeartbeats 2000000 in
theorem runionC (A B A2 B2 : Option Addr) (n ca m cb n2 ca2 m2 cb2 : Nat) (a b : Ctx) (w : World) (h : Con w A n ca B m cb a) (h2 : Con w A2 n2 ca2 B2 m2 cb2 b) (hs : Small (n + n2 + (m + m2))) (hv : validC (mergeV a.1 b.1, unionD a.2 b.2) = true) (hp : compC (passC (mergeV a.1 b.1, unionD a.2 b.2)) = true) :
    Calls Tryz.prog 10 #[.agg #[.slice A n ca, .slice B m cb], .agg #[.slice A2 n2 ca2, .slice B2 m2 cb2]] w (Ret w (IsCon (unionC a b))) := by
  obtain ⟨W, hWdef⟩ : ∃ W, W = ((w.alloc (conBox A n ca B m cb)).alloc (conBox A2 n2 ca2 B2 m2 cb2)).alloc (conBox none 0 0 none 0 0) := ⟨_, rfl⟩
  have hb0 : Below w.heap.size w W := by rw [hWdef]; go_grown
  have z0 : W.cell? ⟨w.heap.size, 0, none⟩ = some (.slice A n ca) := by rw [hWdef]; simp [go_sem]
  have z1 : W.cell? ⟨w.heap.size, 1, none⟩ = some (.slice B m cb) := by rw [hWdef]; simp [go_sem]
  have t0 : W.cell? ⟨w.heap.size + 1, 0, none⟩ = some (.slice A2 n2 ca2) := by rw [hWdef]; simp [go_sem]
  have t1 : W.cell? ⟨w.heap.size + 1, 1, none⟩ = some (.slice B2 m2 cb2) := by rw [hWdef]; simp [go_sem]
  have y0 : W.cell? ⟨w.heap.size + 2, 0, none⟩ = some (.slice none 0 0) := by rw [hWdef]; simp [go_sem]
  have y1 : W.cell? ⟨w.heap.size + 2, 1, none⟩ = some (.slice none 0 0) := by rw [hWdef]; simp [go_sem]
  have yf : ∀ o, W.frozen? ⟨w.heap.size + 2, o, none⟩ = false := fun o => by rw [hWdef]; simp [go_sem]
  have ni : NoInt W (w.heap.size + 2) := by rw [hWdef]; exact NoInt.boxN _ _ _ _ _ _ _ _ (by simp)
  have hz : w.heap.size + 2 < W.heap.size := World.block_lt_of_cell? W _ y0
  have hsv : Small (n + n2) := by have := hs.out; unfold Small; omega
  have hsk : Small (m + m2) := by have := hs.out; unfold Small; omega
  have hsc : ∀ (A' B' : Option Addr) (n' ca' m' cb' : Nat) (w' : World), Con w' A' n' ca' B' m' cb' (mergeV a.1 b.1, unionD a.2 b.2) → Small (n' + m') := fun A' B' n' ca' m' cb' w' hc => by
    have e1 := hc.v.len; have e2 := hc.k.len; have := unionD_length a.2 b.2; have := mergeV_length b.1 a.1; have := h.v.len; have := h.k.len; have := h2.v.len; have := h2.k.len; have := hs.out
    unfold Small; simp only at e1 e2; omega
  have H0 := Lib.hid (h.mono hb0); have H2 := Lib.hid (h2.mono hb0); have Z0 := Lib.hid z0; have Z1 := Lib.hid z1; have T0 := Lib.hid t0; have T1 := Lib.hid t1; have Y0 := Lib.hid y0; have Y1 := Lib.hid y1; have YF := Lib.hid yf; have HB0 := Lib.hid hb0; have HV := Lib.hid hv; have HP := Lib.hid hp; have HSC := Lib.hid hsc; have NI := Lib.hid ni; have DEF := Lib.hid hWdef; have HZ := Lib.hid hz
  clear z0 z1 t0 t1 y0 y1 yf hb0 hv hp hsc ni hWdef hz h h2
  have hcall : ∀ (w1 : World) (v : Value), IsCon (mergeV a.1 b.1, unionD a.2 b.2) w1 v → Calls Tryz.prog 30 #[v] w1 (Ret w1 (IsCon (compactC (mergeV a.1 b.1, unionD a.2 b.2)))) := by
    rintro w1 v ⟨A', n', ca', B', m', cb', rfl, hc⟩
    exact rcompactC A' B' n' ca' m' cb' _ w1 hc (HSC.out _ _ _ _ _ _ _ hc) HV.out HP.out
  have HCALL := Lib.hid hcall; clear hcall
  unfold unionC
  go_enter Tryz.func10, Tryz.ntmps10
  go_wp2_with fail
  rw [← DEF.out]
  refine wp_region_MT 12 mixed (by kernel_rfl) (by kernel_rfl) ?_
  refine MDerT.step (Ob.fieldV Wanted.free Has.oldIs (fun w1 => field_con0)) ?_
  refine MDerT.step (Ob.loadV Wanted.free (Has.new 0 0) (fun w1 hb1 => load_vec hb1 Z0.out)) ?_
  refine MDerT.step (Ob.fieldV Wanted.free Has.oldIs (fun w1 => field_con0)) ?_
  refine MDerT.step (Ob.loadV Wanted.free (Has.new 2 0) (fun w1 hb1 => load_vec hb1 T0.out)) ?_
  refine MDerT.step (Ob.call2V Wanted.free entersRMergeV (Has.new 1 2) (Has.new 3 0) (fun w1 hb1 => (rvmerge A A2 n ca n2 ca2 a.1 b.1 w1 (H0.out.v.mono hb1) (H2.out.v.mono hb1) hsv))) ?_
  refine MDerT.step (Ob.fieldV Wanted.free Has.oldIs (fun w1 => field_con1)) ?_
  refine MDerT.step (Ob.loadV Wanted.free (Has.new 5 0) (fun w1 hb1 => load_dots hb1 Z1.out)) ?_
  refine MDerT.step (Ob.fieldV Wanted.free Has.oldIs (fun w1 => field_con1)) ?_
  refine MDerT.step (Ob.loadV Wanted.free (Has.new 7 0) (fun w1 hb1 => load_dots hb1 T1.out)) ?_
  refine MDerT.step (Ob.call2V Wanted.free entersUnion (Has.new 6 2) (Has.new 8 0) (fun w1 hb1 => (runion B B2 m cb m2 cb2 a.2 b.2 w1 (H0.out.k.mono hb1) (H2.out.k.mono hb1) hsk))) ?_
  refine MDerT.step (Ob.mkConDD Wanted.free (Has.new 4 5) (Has.new 9 0)) ?_
  refine MDerT.step (Ob.call1 Wanted.free entersCompactR (Has.new 10 0) (fun w1 v hb1 hv => HCALL.out w1 v hv)) ?_
  simp only [MDerT, dstsOf, List.map, EndM, List.reverse_cons, List.reverse_nil, List.nil_append, List.cons_append, List.take_succ_cons, List.take_zero, List.drop_succ_cons, List.drop_zero]
  intro wE hE
  iterate 4 (rintro _ rfl)
  rintro _ _h4
  iterate 4 (rintro _ rfl)
  rintro _ _h9
  rintro _ _h10
  rintro _ ⟨A1, n1, c1, B1, m1, d1, rfl, hcc⟩
  simp only [Act.put, List.setIfInBounds_toArray, List.set_cons_zero, List.set_cons_succ]
  have x0 := cellKeep hE Y0.out
  have x1 := cellKeep hE Y1.out
  have yf0 : wE.frozen? ⟨w.heap.size + 2, 0, none⟩ = false := (hE.frozen (p := ⟨w.heap.size + 2, 0, none⟩) HZ.out).trans (YF.out 0)
  have yf1 : wE.frozen? ⟨w.heap.size + 2, 1, none⟩ = false := (hE.frozen (p := ⟨w.heap.size + 2, 1, none⟩) HZ.out).trans (YF.out 1)
  have hz : w.heap.size + 2 < wE.heap.size := World.block_lt_of_cell? wE _ x0
  have hni : NoInt wE (w.heap.size + 2) := NI.out.mono hE HZ.out
  have o1 := hcc.v.noInt hni
  have o2 := hcc.k.noInt hni
  have s0 : (wE.setCell ⟨w.heap.size + 2, 0, none⟩ (.slice A1 n1 c1)).cell? ⟨w.heap.size + 2, 0, none⟩ = some (.slice A1 n1 c1) := cell_set x0
  have s1 : ((wE.setCell ⟨w.heap.size + 2, 0, none⟩ (.slice A1 n1 c1)).setCell ⟨w.heap.size + 2, 1, none⟩ (.slice B1 m1 d1)).cell? ⟨w.heap.size + 2, 1, none⟩ = some (.slice B1 m1 d1) := cell_set (cell_far (by simp) x1)
  have HE2 := Lib.hid hE; have HC2 := Lib.hid hcc; have O1 := Lib.hid o1; have O2 := Lib.hid o2
  clear hE hcc hni o1 o2
  go_wp2
  refine bodyPost_ret (v := .agg #[.slice A1 n1 c1, .slice B1 m1 d1]) (by simp [results, Tryz.results10, go_sem, s0, s1]) rfl ?_
  exact ⟨_, rfl, ((HB0.out.le HE2.out).setCell (p := ⟨w.heap.size + 2, 0, none⟩) (by simp) _).setCell (p := ⟨w.heap.size + 2, 1, none⟩) (by simp) _, _, _, _, _, _, _, rfl, (HC2.out.v.setO O1.out _).setO O1.out _, (HC2.out.k.setO O2.out _).setO O2.out _⟩
end Go.Proofs.YtdngechnelemlaaGreat

/-
  The reference's Within of contexts; both, for values that are known by what they read as.
-/
namespace Go.Proofs.YtdngechnelemlaaGreat
open Go.RowKit

theorem Con.setN {w : World} {A B : Option Addr} {n ca m cb N o : Nat} {c : Ctx} (h : Con w A n ca B m cb c) (hN : NoInt w N) (u : Value) : Con (w.setCell ⟨N, o, none⟩ u) A n ca B m cb c := ⟨h.v.setO (h.v.noInt hN) u, h.k.setO (h.k.noInt hN) u⟩
theorem NoInt.set_ {w : World} {N o : Nat} {A : Option Addr} {n c : Nat} {u : Value} (hc : w.cell? ⟨N, o, none⟩ = some u) (h : NoInt w N) : NoInt (w.setCell ⟨N, o, none⟩ (.slice A n c)) N := fun o' x e => by
  by_cases ho : (⟨N, o, none⟩ : Addr) = ⟨N, o', none⟩
  · cases ho
    rw [World.cell?_setCell_same w _ _ hc] at e; cases e
  · rw [World.cell?_setCell_other w _ _ _ ho] at e
    exact h o' x e
set_option maxRecDepth 100000 in
set_option maxHeartbeats 4000000 in
theorem rcwithin (A B A2 B2 : Option Addr) (n ca m cb n2 ca2 m2 cb2 : Nat) (a b : Ctx) (w : World) (h : Con w A n ca B m cb a) (h2 : Con w A2 n2 ca2 B2 m2 cb2 b) (hs : Small (n2 + m2)) (hv : validC b = true) (hp : compC (passC b) = true) :
    Calls Tryz.prog 11 #[.agg #[.slice A n ca, .slice B m cb], .agg #[.slice A2 n2 ca2, .slice B2 m2 cb2]] w (Ret w (IsB (inRef a b))) := by
  obtain ⟨W, hWdef⟩ : ∃ W, W = (w.alloc (conBox A n ca B m cb)).alloc (conBox A2 n2 ca2 B2 m2 cb2) := ⟨_, rfl⟩
  have hb0 : Below w.heap.size w W := by rw [hWdef]; go_grown
  have ba : Boxed w.heap.size A B n ca m cb a W := ⟨by rw [hWdef]; simp [go_sem], by rw [hWdef]; simp [go_sem], h.mono hb0⟩
  have bb : Boxed (w.heap.size + 1) A2 B2 n2 ca2 m2 cb2 b W := ⟨by rw [hWdef]; simp [go_sem], by rw [hWdef]; simp [go_sem], h2.mono hb0⟩
  have yf : ∀ o, W.frozen? ⟨w.heap.size + 1, o, none⟩ = false := fun o => by rw [hWdef]; simp [go_sem]
  have ni : NoInt W (w.heap.size + 1) := by rw [hWdef]; exact NoInt.boxN _ _ _ _ _ _ _ _ (by simp)
  have hm := h.k.big
  have LM := Lib.hid h.k.len
  have DEF := Lib.hid hWdef; have HB := Lib.hid hb0; have BA := Lib.hid ba; have BB := Lib.hid bb; have YF := Lib.hid yf; have NI := Lib.hid ni; have HV := Lib.hid hv; have HP := Lib.hid hp
  clear hWdef hb0 ba bb yf ni hv hp h h2
  go_enter Tryz.func11, Tryz.ntmps11
  go_wp2_with fail
  rw [← DEF.out]
  refine (rcompactC A2 B2 n2 ca2 m2 cb2 b W BB.out.con hs HV.out HP.out).mono ?_
  rintro _ w1 ⟨_, rfl, hb1, A3, n3, c3, B3, m3, d3, rfl, hcc⟩
  have x0 := (BB.out.mono hb1).c0; have x1 := (BB.out.mono hb1).c1
  have hsz := BB.out.size
  have yf0 : w1.frozen? ⟨w.heap.size + 1, 0, none⟩ = false := (hb1.frozen (p := ⟨w.heap.size + 1, 0, none⟩) hsz).trans (YF.out 0)
  have yf1 : w1.frozen? ⟨w.heap.size + 1, 1, none⟩ = false := (hb1.frozen (p := ⟨w.heap.size + 1, 1, none⟩) hsz).trans (YF.out 1)
  have hz : w.heap.size + 1 < w1.heap.size := World.block_lt_of_cell? w1 _ x0
  have hni : NoInt w1 (w.heap.size + 1) := NI.out.mono hb1 hsz
  have ba1 := BA.out.mono hb1
  have bX : Boxed (w.heap.size + 1) A3 B3 n3 c3 m3 d3 (compactC b) ((w1.setCell ⟨w.heap.size + 1, 0, none⟩ (.slice A3 n3 c3)).setCell ⟨w.heap.size + 1, 1, none⟩ (.slice B3 m3 d3)) :=
    ⟨cell_far (by simp) (cell_set x0), cell_set (cell_far (by simp) x1), (hcc.setN hni _).setN (NoInt.set_ x0 hni) _⟩
  have bY : Boxed w.heap.size A B n ca m cb a ((w1.setCell ⟨w.heap.size + 1, 0, none⟩ (.slice A3 n3 c3)).setCell ⟨w.heap.size + 1, 1, none⟩ (.slice B3 m3 d3)) :=
    ⟨cell_far (by simp) (cell_far (by simp) ba1.c0), cell_far (by simp) (cell_far (by simp) ba1.c1), (ba1.con.setN hni _).setN (NoInt.set_ x0 hni) _⟩
  have hbX : Below w.heap.size w ((w1.setCell ⟨w.heap.size + 1, 0, none⟩ (.slice A3 n3 c3)).setCell ⟨w.heap.size + 1, 1, none⟩ (.slice B3 m3 d3)) := ((HB.out.le hb1).setCell (p := ⟨w.heap.size + 1, 0, none⟩) (by simp) _).setCell (p := ⟨w.heap.size + 1, 1, none⟩) (by simp) _
  have BX := Lib.hid bX; have BY := Lib.hid bY; have HBX := Lib.hid hbX
  clear hb1 hcc hni ba1 bX bY hbX BA BB NI YF HB DEF
  go_wp2
  clear x0 x1 yf0 yf1
  generalize (w1.setCell ⟨w.heap.size + 1, 0, none⟩ (.slice A3 n3 c3)).setCell ⟨w.heap.size + 1, 1, none⟩ (.slice B3 m3 d3) = W2 at *
  go_loopw [5] (fun i wr => AllRelU (hasC (compactC b)) W2 m a.2 i wr) (fun i _ => m - (intOf i).toNat)
  case atStart => exact ⟨0, rfl, by omega, Below.refl _ _, rfl⟩
  case round =>
    obtain ⟨k, rfl, hk, hb, hf⟩ := hrel
    have BXr := Lib.hid (BX.out.mono hb); have BYr := Lib.hid (BY.out.mono hb); have HBr := Lib.hid (HBX.out.le hb)
    have x0 := BYr.out.c0; have x1 := BYr.out.c1
    by_cases hlt : k < m
    · obtain ⟨b', o, p, q, hA, hbk, e0, d1, k1, k2⟩ := BYr.out.con.k.at_ (k := k) hlt
      have hix := fun w => (show (Instr.indexAt 22 (.slice B m cb) (.int .i64 (k : Int))).run Tryz.prog w = .ok (.pointer (some ⟨b', o + k * 2, none⟩)) w by rw [hA]; exact index_dots hlt)
      have IX := Lib.hid hix; have K1 := Lib.hid k1; have K2 := Lib.hid k2; have V1 := Lib.hid x1
      rw [d1, List.all_cons] at hf
      cases hh : hasC (compactC b) (p, q) with
      | true =>
        rw [hh] at hf
        have HH := Lib.hid hh; have HF := Lib.hid hf; have HBB := Lib.hid hb
        clear hh hf d1 e0 hA hix k1 k2 hb
        go_wp2_with fail
        refine wp_region_M mixed (by kernel_rfl) ?_
        refine MDerR.step (Ob.load (F := IsCon (compactC b)) Wanted.free Has.oldIs (fun w1 v hb1 hv => BXr.out.loadI hb1 hv)) ?_
        refine MDerR.step (Ob.fieldV Wanted.free Has.oldIs (fun w1 => field_con1)) ?_
        refine MDerR.step (Ob.loadV Wanted.free (Has.new 1 0) (fun w1 hb1 => load_dots hb1 V1.out)) ?_
        refine MDerR.step (Ob.move Wanted.free Has.oldIs) ?_
        refine MDerR.step (Ob.indexV Wanted.free (Has.new 2 1) (Has.new 3 0) (fun w1 => IX.out w1)) ?_
        refine MDerR.step (Ob.loadV Wanted.free (Has.new 4 0) (fun w1 hb1 => load_dot hb1 K1.out K2.out)) ?_
        refine MDerR.step (Ob.call2 Wanted.free entersRHas (Has.new 0 5) (Has.new 5 0) (fun w1 u v hb1 (hu : IsCon (compactC b) w1 u) (hv : IsDot (p, q) w1 v) => rchasI hu hv true HH.out)) ?_
        refine MDerR.step (Ob.not Wanted.free (Has.new 6 0)) ?_
        simp only [MDerR, dstsOf, List.map, EndM, List.reverse_cons, List.reverse_nil, List.nil_append, List.cons_append]
        intro wE hE
        rintro _ _h0
        iterate 7 (rintro _ rfl)
        simp only [Act.put, List.setIfInBounds_toArray, List.set_cons_zero, List.set_cons_succ]
        have HE := Lib.hid hE; clear hE
        go_wp2
        go_roundw
        case rel => exact ⟨k + 1, by simp, hlt, HBB.out.le HE.out, by rw [HF.out, Bool.true_and]⟩
        case measure => simp [intOf]; omega
      | false =>
        rw [hh] at hf
        have HH := Lib.hid hh; have HF := Lib.hid hf
        clear hh hf d1 e0 hA hix k1 k2 hb
        go_wp2_with fail
        refine wp_region_M mixed (by kernel_rfl) ?_
        refine MDerR.step (Ob.load (F := IsCon (compactC b)) Wanted.free Has.oldIs (fun w1 v hb1 hv => BXr.out.loadI hb1 hv)) ?_
        refine MDerR.step (Ob.fieldV Wanted.free Has.oldIs (fun w1 => field_con1)) ?_
        refine MDerR.step (Ob.loadV Wanted.free (Has.new 1 0) (fun w1 hb1 => load_dots hb1 V1.out)) ?_
        refine MDerR.step (Ob.move Wanted.free Has.oldIs) ?_
        refine MDerR.step (Ob.indexV Wanted.free (Has.new 2 1) (Has.new 3 0) (fun w1 => IX.out w1)) ?_
        refine MDerR.step (Ob.loadV Wanted.free (Has.new 4 0) (fun w1 hb1 => load_dot hb1 K1.out K2.out)) ?_
        refine MDerR.step (Ob.call2 Wanted.free entersRHas (Has.new 0 5) (Has.new 5 0) (fun w1 u v hb1 (hu : IsCon (compactC b) w1 u) (hv : IsDot (p, q) w1 v) => rchasI hu hv false HH.out)) ?_
        refine MDerR.step (Ob.not Wanted.free (Has.new 6 0)) ?_
        simp only [MDerR, dstsOf, List.map, EndM, List.reverse_cons, List.reverse_nil, List.nil_append, List.cons_append]
        intro wE hE
        rintro _ _h0
        iterate 7 (rintro _ rfl)
        simp only [Act.put, List.setIfInBounds_toArray, List.set_cons_zero, List.set_cons_succ]
        have HE := Lib.hid hE; clear hE
        go_wp2
        go_ret
        exact ⟨_, rfl, HBr.out.le HE.out, by unfold inRef; rw [HF.out]; rfl⟩
    · rw [List.drop_of_length_le (by rw [← LM.out]; omega)] at hf
      have HF := Lib.hid hf
      have y0 := BXr.out.c0; have y1 := BXr.out.c1
      clear hf hb
      go_wp2_with fail
      refine (rvwithin A A3 n ca n3 c3 a.1 (compactC b).1 _ BYr.out.con.v BXr.out.con.v).mono ?_
      rintro _ w9 ⟨_, rfl, hb9, rfl⟩
      have HB9 := Lib.hid (HBr.out.le hb9)
      clear hb9
      go_wp2
      go_ret
      exact ⟨_, rfl, HB9.out, by unfold inRef; rw [HF.out]; rfl⟩
theorem runionI {a b : Ctx} {w : World} {u v : Value} (hu : IsCon a w u) (hv : IsCon b w v) (hl : a.1.length + a.2.length ≤ 1000) (hl2 : b.1.length + b.2.length ≤ 1000) (va : validC a = true) (vb : validC b = true) : Calls Tryz.prog 10 #[u, v] w (Ret w (IsCon (unionC a b))) := by
  obtain ⟨A, n, ca, B, m, cb, rfl, hc⟩ := hu
  obtain ⟨A2, n2, ca2, B2, m2, cb2, rfl, hd0⟩ := hv
  have h3 : validC (mergeV a.1 b.1, unionD a.2 b.2) = true := ok_iff.2 (ok_union (ok_iff.1 va) (ok_iff.1 vb))
  exact runionC A B A2 B2 n ca m cb n2 ca2 m2 cb2 a b w hc hd0 (by have := IsCon.small hc hl; have := IsCon.small hd0 hl2; unfold Small; omega) h3 (pass_comp h3)
theorem rwithinI {a b : Ctx} {w : World} {u v : Value} (hu : IsCon a w u) (hv : IsCon b w v) (hl2 : b.1.length + b.2.length ≤ 1000) (va : validC a = true) (vb : validC b = true) : Calls Tryz.prog 11 #[u, v] w (Ret w (IsB (inC a b))) := by
  obtain ⟨A, n, ca, B, m, cb, rfl, hc⟩ := hu
  obtain ⟨A2, n2, ca2, B2, m2, cb2, rfl, hd0⟩ := hv
  rw [inC_ref (ok_iff.1 va) (ok_iff.1 vb)]
  exact rcwithin A B A2 B2 n ca m cb n2 ca2 m2 cb2 a b w hc hd0 (by have := IsCon.small hd0 hl2; unfold Small; omega) vb (pass_comp vb)
theorem lownI {a : Ctx} {w : World} {u : Value} (hu : IsCon a w u) (hl : a.1.length + a.2.length ≤ 1000) : Calls Tryz.prog 9 #[u] w (Ret w (IsCon a)) := by
  obtain ⟨A, n, ca, B, m, cb, rfl, hc⟩ := hu
  refine (lown A B n ca m cb a w hc (by have := hc.v.len; unfold Small; omega) (by have := hc.k.len; unfold Small; omega)).mono ?_
  rintro _ w1 ⟨v, rfl, hb, hv⟩
  exact ⟨v, rfl, hb, hv.con⟩
theorem entRUnion : Enters Tryz.prog 10 := enters_of Tryz.func10 (by kernel_rfl) rfl
theorem entRWithin : Enters Tryz.prog 11 := enters_of Tryz.func11 (by kernel_rfl) rfl
theorem entLown : Enters Tryz.prog 9 := enters_of Tryz.func9 (by kernel_rfl) rfl
/-- A pointer to a zero context in a block of its own, from block B on. -/
def IsNewBox (B : Nat) (w : World) (v : Value) : Prop := ∃ N, v = .pointer (some ⟨N, 0, none⟩) ∧ B ≤ N ∧ N < w.heap.size ∧ w.cell? ⟨N, 0, none⟩ = some (.slice none 0 0) ∧ w.cell? ⟨N, 1, none⟩ = some (.slice none 0 0) ∧ (∀ o, w.frozen? ⟨N, o, none⟩ = false) ∧ NoInt w N
instance (B : Nat) : Grows (IsNewBox B) := ⟨fun hb ⟨N, e, h1, h2, h3, h4, h5, h6⟩ => ⟨N, e, h1, Nat.lt_of_lt_of_le h2 hb.size, cellKeep hb h3, cellKeep hb h4, fun o => (hb.frozen (p := ⟨N, o, none⟩) h2).trans (h5 o), h6.mono hb h2⟩⟩
section
variable {P : Program} {ops : List Oper} {Fs : List VT} {w0 : World} {a0 : Act} {i : Nat} {d : Option Tmp} {ty : TypeId} {pos : String} {after : Array Edge} {g : Option (Nat × Bool)}
theorem Ob.allocCon (hw : Wanted ops Fs w0 a0 i ⟨d, .alloc 25, ty, pos, after, g⟩) : Ob Tryz.prog ops Fs w0 a0 i ⟨d, .alloc 25, ty, pos, after, g⟩ (IsNewBox w0.heap.size) :=
  Ob.any hw fun a w cx => by
    refine ⟨.pointer (some ⟨w.heap.size, 0, none⟩), w.alloc (conBox none 0 0 none 0 0), ?_, by go_grown, w.heap.size, rfl, cx.le.size, by simp, by simp [go_sem], by simp [go_sem], fun o => by simp [go_sem], NoInt.box w none none 0 0 0 0⟩
    simp [execOp, go_sem]
end
theorem NoInt.far {w : World} {N M o : Nat} {u : Value} (h : NoInt w N) (hn : M ≠ N) : NoInt (w.setCell ⟨M, o, none⟩ u) N := fun o' x e => h o' x (by rwa [World.cell?_setCell_other w _ _ _ (fun e => hn (congrArg Addr.block e))] at e)
theorem Con.setNN {w : World} {A B : Option Addr} {n ca m cb N : Nat} {c : Ctx} {u v x : Value} {A' : Option Addr} {n' c' : Nat} (h : Con w A n ca B m cb c) (ni : NoInt w N) (c0 : w.cell? ⟨N, 0, none⟩ = some x) (hu : u = .slice A' n' c') : Con ((w.setCell ⟨N, 0, none⟩ u).setCell ⟨N, 1, none⟩ v) A n ca B m cb c := by
  subst hu
  exact (h.setN ni _).setN (NoInt.set_ c0 ni) _
end Go.Proofs.YtdngechnelemlaaGreat

/-
  ContextUnites: for any two contexts, with no further condition, the law returns true, and its arguments read afterwards as they read before.
-/
namespace Go.Proofs.YtdngechnelemlaaGreat
open Go.RowKit

theorem isNil3 (w : World) : IsCon ([], []) w (.agg #[.slice none 0 0, .slice none 0 0]) := ⟨none, 0, 0, none, 0, 0, rfl, ⟨Dots.nil_, Dots.nil_⟩⟩
theorem uniR_no {a b : Ctx} (h : (validC a && validC b) = false) : (eqC (uniR a b).1 ([], []) && ((uniR a b).2 == 2)) = true := by
  unfold uniR
  rw [if_neg (by rw [h]; simp)]
  rfl
theorem winR_no {a b : Ctx} (h : (validC a && validC b) = false) : ((winR a b).1 == false && ((winR a b).2 == 2)) = true := by
  unfold winR
  rw [if_neg (by rw [h]; simp)]
  rfl
theorem winR_yes {a b : Ctx} (h1 : validC a = true) (h2 : validC b = true) : ((winR a b).1 == inC a b && ((winR a b).2 == 0)) = true := by
  unfold winR
  rw [if_pos (by rw [h1, h2]; rfl)]
  simp
set_option maxRecDepth 100000 in
set_option maxHeartbeats 8000000 in
theorem lawUnites (A B A2 B2 : Option Addr) (n ca m cb n2 ca2 m2 cb2 : Nat) (a b : Ctx) (w : World) (h : Con w A n ca B m cb a) (h2 : Con w A2 n2 ca2 B2 m2 cb2 b) :
    Calls Tryz.prog 3 #[.agg #[.slice A n ca, .slice B m cb], .agg #[.slice A2 n2 ca2, .slice B2 m2 cb2]] w (Ret w (IsB true)) := by
  obtain ⟨W, hWdef⟩ : ∃ W, W = (w.alloc (conBox A n ca B m cb)).alloc (conBox A2 n2 ca2 B2 m2 cb2) := ⟨_, rfl⟩
  have hb0 : Below w.heap.size w W := by rw [hWdef]; go_grown
  have ba : Boxed w.heap.size A B n ca m cb a W := ⟨by rw [hWdef]; simp [go_sem], by rw [hWdef]; simp [go_sem], h.mono hb0⟩
  have bb : Boxed (w.heap.size + 1) A2 B2 n2 ca2 m2 cb2 b W := ⟨by rw [hWdef]; simp [go_sem], by rw [hWdef]; simp [go_sem], h2.mono hb0⟩
  have LN := Lib.hid h.v.len; have LM := Lib.hid h.k.len; have LN2 := Lib.hid h2.v.len; have LM2 := Lib.hid h2.k.len
  have DEF := Lib.hid hWdef; have HB := Lib.hid hb0; have BA := Lib.hid ba; have BB := Lib.hid bb
  clear hWdef hb0 ba bb h h2
  go_enter Tryz.func3, Tryz.ntmps3
  go_wp2_with fail
  rw [← DEF.out]
  refine (lightI BA.out.is (lightB a) rfl).mono ?_
  rintro _ w1 ⟨_, rfl, hb1, rfl⟩
  have BA1 := Lib.hid (BA.out.mono hb1); have BB1 := Lib.hid (BB.out.mono hb1); have HB1 := Lib.hid (HB.out.le hb1)
  clear hb1
  cases hg : lightB a
  case false =>
    have HBK := HB1
    go_wp2_with fail
    refine (known_ _).mono ?_
    rintro _ w9 ⟨_, rfl, hb9, rfl⟩
    have HB9 := Lib.hid (HBK.out.le hb9)
    clear hb9
    go_wp2
    go_ret
    exact retB rfl HB9.out
  have HG := Lib.hid (lightB_len hg); clear hg
  have x0 := BB1.out.c0; have x1 := BB1.out.c1
  go_wp2_with fail
  refine (lightI BB1.out.is (lightB b) rfl).mono ?_
  rintro _ w2 ⟨_, rfl, hb2, rfl⟩
  have BA2 := Lib.hid (BA1.out.mono hb2); have BB2 := Lib.hid (BB1.out.mono hb2); have HB2 := Lib.hid (HB1.out.le hb2)
  clear hb2 x0 x1 BA1 BB1 HB1
  cases hg2 : lightB b
  case false =>
    have HBK := HB2
    go_wp2_with fail
    refine (known_ _).mono ?_
    rintro _ w9 ⟨_, rfl, hb9, rfl⟩
    have HB9 := Lib.hid (HBK.out.le hb9)
    clear hb9
    go_wp2
    go_ret
    exact retB rfl HB9.out
  have HG2 := Lib.hid (lightB_len hg2); clear hg2
  have la : a.1.length + a.2.length ≤ 1000 := by have := HG.out; omega
  have lb : b.1.length + b.2.length ≤ 1000 := by have := HG2.out; omega
  have LA := Lib.hid la; have LB := Lib.hid lb; clear la lb
  have x0 := BA2.out.c0; have x1 := BA2.out.c1
  go_wp2_with fail
  refine (rvalidI BA2.out.is (validC a) rfl).mono ?_
  rintro _ w3 ⟨_, rfl, hb3, rfl⟩
  have BA3 := Lib.hid (BA2.out.mono hb3); have BB3 := Lib.hid (BB2.out.mono hb3); have HB3 := Lib.hid (HB2.out.le hb3)
  clear hb3 x0 x1 BA2 BB2 HB2
  cases hva : validC a
  case false =>
    have NO := Lib.hid (show (validC a && validC b) = false by rw [hva]; rfl)
    clear hva
    have BAV := BA3; have BBV := BB3; have HBV := HB3
    have x2 := BAV.out.c0; have x3 := BAV.out.c1; have x4 := BBV.out.c0; have x5 := BBV.out.c1
    go_wp2_with fail
    refine (lunitedI BAV.out.is BBV.out.is (isNil3 _) rfl LA.out LB.out true (uniR_no NO.out)).mono ?_
    rintro _ v5 ⟨_, rfl, hc5, rfl⟩
    have BA5 := Lib.hid (BAV.out.mono hc5); have BB5 := Lib.hid (BBV.out.mono hc5); have HB5 := Lib.hid (HBV.out.le hc5)
    clear hc5 x2 x3 x4 x5 BAV BBV HBV
    have x2 := BA5.out.c0; have x3 := BA5.out.c1; have x4 := BB5.out.c0; have x5 := BB5.out.c1
    go_wp2_with fail
    refine (lwithinI BA5.out.is BB5.out.is rfl rfl LA.out LB.out true (winR_no NO.out)).mono ?_
    rintro _ v6 ⟨_, rfl, hc6, rfl⟩
    have HBK := Lib.hid (HB5.out.le hc6)
    clear hc6 x2 x3 x4 x5 BA5 BB5 HB5
    go_wp2_with fail
    refine (known_ _).mono ?_
    rintro _ w9 ⟨_, rfl, hb9, rfl⟩
    have HB9 := Lib.hid (HBK.out.le hb9)
    clear hb9
    go_wp2
    go_ret
    exact retB rfl HB9.out
  have HVA := Lib.hid hva; clear hva
  have x0 := BB3.out.c0; have x1 := BB3.out.c1
  go_wp2_with fail
  refine (rvalidI BB3.out.is (validC b) rfl).mono ?_
  rintro _ w4 ⟨_, rfl, hb4, rfl⟩
  have BA4 := Lib.hid (BA3.out.mono hb4); have BB4 := Lib.hid (BB3.out.mono hb4); have HB4 := Lib.hid (HB3.out.le hb4)
  clear hb4 x0 x1 BA3 BB3 HB3
  cases hvb : validC b
  case false =>
    have NO := Lib.hid (show (validC a && validC b) = false by rw [hvb]; simp)
    clear hvb
    have BAV := BA4; have BBV := BB4; have HBV := HB4
    have x2 := BAV.out.c0; have x3 := BAV.out.c1; have x4 := BBV.out.c0; have x5 := BBV.out.c1
    go_wp2_with fail
    refine (lunitedI BAV.out.is BBV.out.is (isNil3 _) rfl LA.out LB.out true (uniR_no NO.out)).mono ?_
    rintro _ v5 ⟨_, rfl, hc5, rfl⟩
    have BA5 := Lib.hid (BAV.out.mono hc5); have BB5 := Lib.hid (BBV.out.mono hc5); have HB5 := Lib.hid (HBV.out.le hc5)
    clear hc5 x2 x3 x4 x5 BAV BBV HBV
    have x2 := BA5.out.c0; have x3 := BA5.out.c1; have x4 := BB5.out.c0; have x5 := BB5.out.c1
    go_wp2_with fail
    refine (lwithinI BA5.out.is BB5.out.is rfl rfl LA.out LB.out true (winR_no NO.out)).mono ?_
    rintro _ v6 ⟨_, rfl, hc6, rfl⟩
    have HBK := Lib.hid (HB5.out.le hc6)
    clear hc6 x2 x3 x4 x5 BA5 BB5 HB5
    go_wp2_with fail
    refine (known_ _).mono ?_
    rintro _ w9 ⟨_, rfl, hb9, rfl⟩
    have HB9 := Lib.hid (HBK.out.le hb9)
    clear hb9
    go_wp2
    go_ret
    exact retB rfl HB9.out
  have HVB := Lib.hid hvb; clear hvb
  go_wp2_with fail
  refine wp_region_MJ 6 4 5 5 6 mixed (by kernel_rfl) (by kernel_rfl) (by decide) ⟨_, rfl, rfl, rfl, _, fun a w => by simp [execOp, go_sem]; rfl⟩ ⟨_, rfl, rfl, rfl, _, fun a w => by simp [execOp, go_sem]; rfl⟩ ?_
  refine MDerJ.step (Ob.load (F := IsCon a) Wanted.free Has.oldIs (fun w1 v hb1 hv => BA4.out.loadI hb1 hv)) ?_
  refine MDerJ.step (Ob.call1 Wanted.free entLown (Has.new 0 0) (fun w1 u hb1 (hu : IsCon a w1 u) => lownI hu LA.out)) ?_
  refine MDerJ.step (Ob.load (F := IsCon b) Wanted.free Has.oldIs (fun w1 v hb1 hv => BB4.out.loadI hb1 hv)) ?_
  refine MDerJ.step (Ob.call1 Wanted.free entLown (Has.new 2 0) (fun w1 u hb1 (hu : IsCon b w1 u) => lownI hu LB.out)) ?_
  refine MDerJ.step (Ob.allocCon Wanted.free) ?_
  refine MDerJ.step (Ob.allocCon Wanted.free) ?_
  simp only [MDerJ, dstsOf, List.map, EndM, List.reverse_cons, List.reverse_nil, List.nil_append, List.cons_append, List.take_succ_cons, List.take_zero]
  intro wE hE
  rintro _ _h0
  rintro _ ⟨A5, n5, c5, B5, m5, d5, rfl, k5⟩
  rintro _ _h2
  rintro _ ⟨A6, n6, c6, B6, m6, d6, rfl, k6⟩
  rintro _ ⟨N5, rfl, hN5, hs5, p0, p1, pf, pn⟩
  rintro _ ⟨N6, rfl, hN6, hs6, q0, q1, qf, qn⟩
  simp only [Act.put, List.setIfInBounds_toArray, List.set_cons_zero, List.set_cons_succ]
  intro hne
  have hn : N5 ≠ N6 := fun e => hne (by subst e; rfl)
  clear hne
  have pf0 := pf 0; have pf1 := pf 1
  refine wpAny_next (i := 6) (by kernel_rfl) rfl rfl ?_
  refine wp_skips (w' := (wE.setCell ⟨N5, 0, none⟩ (.slice A5 n5 c5)).setCell ⟨N5, 1, none⟩ (.slice B5 m5 d5)) (by simp [execOp, Act.eval, go_sem, p0, p1, pf0, pf1]) ?_
  change wpAny _ _ _ _ _ _ (Act.put _ none undef) _
  simp only [Act.put]
  have q0' : ((wE.setCell ⟨N5, 0, none⟩ (.slice A5 n5 c5)).setCell ⟨N5, 1, none⟩ (.slice B5 m5 d5)).cell? ⟨N6, 0, none⟩ = some (.slice none 0 0) := cell_far (fun e => hn (congrArg Addr.block e)) (cell_far (fun e => hn (congrArg Addr.block e)) q0)
  have q1' : ((wE.setCell ⟨N5, 0, none⟩ (.slice A5 n5 c5)).setCell ⟨N5, 1, none⟩ (.slice B5 m5 d5)).cell? ⟨N6, 1, none⟩ = some (.slice none 0 0) := cell_far (fun e => hn (congrArg Addr.block e)) (cell_far (fun e => hn (congrArg Addr.block e)) q1)
  have qf' : ∀ o, ((wE.setCell ⟨N5, 0, none⟩ (.slice A5 n5 c5)).setCell ⟨N5, 1, none⟩ (.slice B5 m5 d5)).frozen? ⟨N6, o, none⟩ = false := fun o => (World.frozen?_setCell _ _ _ _).trans ((World.frozen?_setCell _ _ _ _).trans (qf o))
  have hE1 : Below w4.heap.size w4 ((wE.setCell ⟨N5, 0, none⟩ (.slice A5 n5 c5)).setCell ⟨N5, 1, none⟩ (.slice B5 m5 d5)) := (hE.setCell (p := ⟨N5, 0, none⟩) hN5 _).setCell (p := ⟨N5, 1, none⟩) hN5 _
  have k5' : Con ((wE.setCell ⟨N5, 0, none⟩ (.slice A5 n5 c5)).setCell ⟨N5, 1, none⟩ (.slice B5 m5 d5)) A5 n5 c5 B5 m5 d5 a := k5.setNN pn p0 rfl
  have k6' : Con ((wE.setCell ⟨N5, 0, none⟩ (.slice A5 n5 c5)).setCell ⟨N5, 1, none⟩ (.slice B5 m5 d5)) A6 n6 c6 B6 m6 d6 b := k6.setNN pn p0 rfl
  have qn' : NoInt ((wE.setCell ⟨N5, 0, none⟩ (.slice A5 n5 c5)).setCell ⟨N5, 1, none⟩ (.slice B5 m5 d5)) N6 := (qn.far hn).far hn
  have p0' : ((wE.setCell ⟨N5, 0, none⟩ (.slice A5 n5 c5)).setCell ⟨N5, 1, none⟩ (.slice B5 m5 d5)).cell? ⟨N5, 0, none⟩ = some (.slice A5 n5 c5) := cell_far (by simp) (cell_set p0)
  have p1' : ((wE.setCell ⟨N5, 0, none⟩ (.slice A5 n5 c5)).setCell ⟨N5, 1, none⟩ (.slice B5 m5 d5)).cell? ⟨N5, 1, none⟩ = some (.slice B5 m5 d5) := cell_set (cell_far (by simp) p1)
  clear q0 q1 qf hE k5 k6 qn p0 p1 pf pf0 pf1 pn hs5 hs6
  generalize (wE.setCell ⟨N5, 0, none⟩ (.slice A5 n5 c5)).setCell ⟨N5, 1, none⟩ (.slice B5 m5 d5) = wF at *
  have qf0 := qf' 0; have qf1 := qf' 1
  refine wpAny_next (i := 7) (by kernel_rfl) rfl rfl ?_
  refine wp_skips (w' := (wF.setCell ⟨N6, 0, none⟩ (.slice A6 n6 c6)).setCell ⟨N6, 1, none⟩ (.slice B6 m6 d6)) (by simp [execOp, Act.eval, go_sem, q0', q1', qf0, qf1]) ?_
  change wpAny _ _ _ _ _ _ (Act.put _ none undef) _
  simp only [Act.put]
  refine ⟨by kernel_rfl, ?_⟩
  have hn' : N6 ≠ N5 := fun e => hn e.symm
  have hE2 : Below w4.heap.size w4 ((wF.setCell ⟨N6, 0, none⟩ (.slice A6 n6 c6)).setCell ⟨N6, 1, none⟩ (.slice B6 m6 d6)) := (hE1.setCell (p := ⟨N6, 0, none⟩) hN6 _).setCell (p := ⟨N6, 1, none⟩) hN6 _
  have bm : Boxed N5 A5 B5 n5 c5 m5 d5 a ((wF.setCell ⟨N6, 0, none⟩ (.slice A6 n6 c6)).setCell ⟨N6, 1, none⟩ (.slice B6 m6 d6)) := ⟨cell_far (fun e => hn' (congrArg Addr.block e)) (cell_far (fun e => hn' (congrArg Addr.block e)) p0'), cell_far (fun e => hn' (congrArg Addr.block e)) (cell_far (fun e => hn' (congrArg Addr.block e)) p1'), k5'.setNN qn' q0' rfl⟩
  have bo : Boxed N6 A6 B6 n6 c6 m6 d6 b ((wF.setCell ⟨N6, 0, none⟩ (.slice A6 n6 c6)).setCell ⟨N6, 1, none⟩ (.slice B6 m6 d6)) := ⟨cell_far (by simp) (cell_set q0'), cell_set (cell_far (by simp) q1'), k6'.setNN qn' q0' rfl⟩
  have BM := Lib.hid bm; have BO := Lib.hid bo; have BA5 := Lib.hid (BA4.out.mono hE2); have BB5 := Lib.hid (BB4.out.mono hE2); have HB5 := Lib.hid (HB4.out.le hE2)
  clear bm bo hE2 hE1 k5' k6' qn' q0' q1' qf' qf0 qf1 p0' p1' BA4 BB4 HB4 hn hn' hN5 hN6
  generalize (wF.setCell ⟨N6, 0, none⟩ (.slice A6 n6 c6)).setCell ⟨N6, 1, none⟩ (.slice B6 m6 d6) = w5 at *
  go_wp2_with fail
  refine wp_region_M mixed (by kernel_rfl) ?_
  refine MDerR.step (Ob.load (F := IsCon a) Wanted.free Has.oldIs (fun w1 v hb1 hv => BM.out.loadI hb1 hv)) ?_
  refine MDerR.step (Ob.load (F := IsCon b) Wanted.free Has.oldIs (fun w1 v hb1 hv => BO.out.loadI hb1 hv)) ?_
  refine MDerR.step (Ob.load (F := IsCon a) Wanted.free Has.oldIs (fun w1 v hb1 hv => BA5.out.loadI hb1 hv)) ?_
  refine MDerR.step (Ob.load (F := IsCon b) Wanted.free Has.oldIs (fun w1 v hb1 hv => BB5.out.loadI hb1 hv)) ?_
  refine MDerR.step (Ob.call2 Wanted.free entRUnion (Has.new 2 1) (Has.new 3 0) (fun w1 u v hb1 (hu : IsCon a w1 u) (hv : IsCon b w1 v) => runionI hu hv LA.out LB.out HVA.out HVB.out)) ?_
  refine MDerR.step (Ob.call4 Wanted.free entLunited (Has.new 0 4) (Has.new 1 3) (Has.new 4 0) (Has.cst _) (fun w1 q u v s hb1 (hq : IsCon a w1 q) (hu : IsCon b w1 u) (hv : IsCon (unionC a b) w1 v) (hs : Is (.int .i64 0) w1 s) => lunitedI hq hu hv hs LA.out LB.out true (uniR_eq HVA.out HVB.out rfl))) ?_
  refine MDerR.step (Ob.move Wanted.free (Has.new 5 0)) ?_
  refine MDerR.step (Ob.load (F := IsCon a) (Wanted.on 6 0) Has.oldIs (fun w1 v hb1 hv => BM.out.loadI hb1 hv)) ?_
  refine MDerR.step (Ob.load (F := IsCon b) (Wanted.on 6 1) Has.oldIs (fun w1 v hb1 hv => BO.out.loadI hb1 hv)) ?_
  refine MDerR.step (Ob.load (F := IsCon a) (Wanted.on 6 2) Has.oldIs (fun w1 v hb1 hv => BA5.out.loadI hb1 hv)) ?_
  refine MDerR.step (Ob.load (F := IsCon b) (Wanted.on 6 3) Has.oldIs (fun w1 v hb1 hv => BB5.out.loadI hb1 hv)) ?_
  refine MDerR.step (Ob.call2 (Wanted.on 6 4) entRWithin (Has.new 9 1) (Has.new 10 0) (fun w1 u v hb1 (hu : IsCon a w1 u) (hv : IsCon b w1 v) => rwithinI hu hv LB.out HVA.out HVB.out)) ?_
  refine MDerR.step (Ob.call4 (Wanted.on 6 5) entLwithin (Has.new 7 4) (Has.new 8 3) (Has.new 11 0) (Has.cst _) (fun w1 q u v s hb1 (hq : IsCon a w1 q) (hu : IsCon b w1 u) (hv : Is (.bool (inC a b)) w1 v) (hs : Is (.int .i64 0) w1 s) => lwithinI hq hu hv hs LA.out LB.out true (winR_yes HVA.out HVB.out))) ?_
  refine MDerR.step (Ob.pickT Wanted.free (Has.new 6 6) (Has.new 12 0)) ?_
  refine MDerR.step (Ob.move Wanted.free (Has.new 13 0)) ?_
  refine MDerR.step (Ob.load (F := IsCon a) (Wanted.on 14 0) Has.oldIs (fun w1 v hb1 hv => BM.out.loadI hb1 hv)) ?_
  refine MDerR.step (Ob.load (F := IsCon a) (Wanted.on 14 1) Has.oldIs (fun w1 v hb1 hv => BA5.out.loadI hb1 hv)) ?_
  refine MDerR.step (Ob.call2 (Wanted.on 14 2) entRceq (Has.new 15 1) (Has.new 16 0) (fun w1 u v hb1 (hu : IsCon a w1 u) (hv : IsCon a w1 v) => rceqI hu hv true (eqC_self a))) ?_
  refine MDerR.step (Ob.pickT Wanted.free (Has.new 14 3) (Has.new 17 0)) ?_
  refine MDerR.step (Ob.move Wanted.free (Has.new 18 0)) ?_
  refine MDerR.step (Ob.load (F := IsCon b) (Wanted.on 19 0) Has.oldIs (fun w1 v hb1 hv => BO.out.loadI hb1 hv)) ?_
  refine MDerR.step (Ob.load (F := IsCon b) (Wanted.on 19 1) Has.oldIs (fun w1 v hb1 hv => BB5.out.loadI hb1 hv)) ?_
  refine MDerR.step (Ob.call2 (Wanted.on 19 2) entRceq (Has.new 20 1) (Has.new 21 0) (fun w1 u v hb1 (hu : IsCon b w1 u) (hv : IsCon b w1 v) => rceqI hu hv true (eqC_self b))) ?_
  refine MDerR.step (Ob.pickT Wanted.free (Has.new 19 3) (Has.new 22 0)) ?_
  refine MDerR.step (Ob.move Wanted.free (Has.new 23 0)) ?_
  refine MDerR.step (Ob.call0 (Wanted.on 24 0) entKnown  (fun w1 hb1 => known_ w1)) ?_
  refine MDerR.step (Ob.pickT Wanted.free (Has.new 24 1) (Has.new 25 0)) ?_
  refine MDerR.step (Ob.assign Wanted.free (Has.new 26 0)) ?_
  simp only [MDerR, dstsOf, List.map, EndM, List.reverse_cons, List.reverse_nil, List.nil_append, List.cons_append]
  intro wE hE
  rintro _ _g0
  rintro _ _g1
  rintro _ _g2
  rintro _ _g3
  rintro _ _g4
  iterate 2 (rintro _ rfl)
  rintro _ _g7
  rintro _ _g8
  rintro _ _g9
  rintro _ _g10
  iterate 4 (rintro _ rfl)
  rintro _ _g15
  rintro _ _g16
  iterate 3 (rintro _ rfl)
  rintro _ _g20
  rintro _ _g21
  iterate 6 (rintro _ rfl)
  simp only [Act.put, List.setIfInBounds_toArray, List.set_cons_zero, List.set_cons_succ]
  have HB9 := Lib.hid (HB5.out.le hE)
  clear hE
  go_wp2
  go_ret
  exact retB rfl HB9.out
end Go.Proofs.YtdngechnelemlaaGreat

/-
  ContextUnites: of any two contexts, with no condition, the law returns true, and its arguments read afterwards as before.
-/
namespace Go.Proofs.YtdngechnelemlaaGreat
open Go.ChangeShapes Go.WideShapes Go.ChangeAt Go.RowKit Go.Deep Go.Joins

set_option maxRecDepth 100000 in
theorem contextUnites_lifted (os : Os) (started : os.Started) (H : Type) (enc : TypeId × Value → H) :
    ReturnsInHanded {} Tryz.checked os 3 .any (Rows.contextUnitesSpec.pre6 enc Tryz.prog Tryz.f3 Rows.contextUnitesRow.domain false) (Rows.contextUnitesSpec.post enc Tryz.prog Tryz.f3 false true false false) := by
  refine returnsInHanded_of_change (C := Tryz.checked) own_none started (by kernel_rfl) Tryz.func3
    (ChangeSpec.witness6 (enc := enc) (C := Tryz.checked) false ⟨#[], #[.agg #[.slice none 0 0, .slice none 0 0], .agg #[.slice none 0 0, .slice none 0 0]], []⟩ 8 (by kernel_rfl) (by kernel_rfl) (by kernel_rfl) (by kernel_rfl)) ?_
  intro W base args ds gs before hval0 hW hcnd _
  have hval : ∀ (j : Nat) t v, Tryz.f3.params[j]? = some t → args[j]? = some v → Value.okWide Tryz.prog W .any base t v := hval0
  have hW' := hW
  obtain ⟨p, q, hA0, hV, rfl, hfz, hnd⟩ := hW
  have hA : DataW.TrodAll enc Tryz.prog W 0 (fun _ => true) true Tryz.f3.params.toList args.toList ds p := hA0
  rw [Tryz.params3] at hA hval
  obtain ⟨v0, v1, d0, d1, p0, p1, rfl, rfl, rfl, h0, h1⟩ := trodAll_two hA
  obtain ⟨rfl, rfl⟩ := trodVars_none hV
  obtain ⟨A, n, ca, B, m, cb, c, rfl, hc⟩ := read_con (hval 0 25 v0 rfl rfl) h0
  obtain ⟨A2, n2, ca2, B2, m2, cb2, c2, rfl, hc2⟩ := read_con (hval 1 25 v1 rfl rfl) h1
  clear hA0 hval0
  refine (lawUnites A B A2 B2 n ca m cb n2 ca2 m2 cb2 c c2 W hc hc2).mono fun e W' ⟨_, he, hb, rfl⟩ => ?_
  subst he
  exact ⟨_, rfl, law_post laid_out (by kernel_rfl) (by kernel_rfl) Tryz.underlying4 rfl rfl hW' hb⟩

theorem contextUnites_holds : Rows.ContextUnitesSaid :=
  OpenClaim.holds_of_wide 3 Tryz.f3 rfl rfl rfl rfl rfl rfl rfl ⟨rfl, rfl, rfl, rfl, rfl⟩ rfl rfl rfl rfl rfl (by kernel_rfl) Tryz.func3 (by kernel_rfl)
    (of_decide_eq_true (by kernel_rfl)) (by unfold Func.isWrapper; first | (rw [if_pos (by decide +kernel)]; kernel_rfl) | (rw [if_neg (by decide +kernel)]; exact ⟨rfl, rfl⟩))
    (fun os started H enc _ => contextUnites_lifted os started H enc)
end Go.Proofs.YtdngechnelemlaaGreat
