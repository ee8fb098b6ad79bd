/-
  A region whose order is open: its first n operations walked once; what is left is handed on in the model's own words (a store, and pure operations beside it).
-/
import Derived.Test.YtjbakmmmgejhlaaWA
namespace Go.Proofs.Ytjbakmmmgejhlaa
open Go.RowKit

section
variable {P : Program} {ops : List Oper} {w0 : World} {a0 : Act} {Q : Exit → Act → World → Prop}
/-- The first n have come up, no other. -/
def firstN (n len : Nat) : Array Bool := (List.replicate n true ++ List.replicate (len - n) false).toArray
/-- The closed facts: what is left waits for the last of the first n, and that one, through others, for all of them. -/
def okR (n : Nat) (ops : List Oper) : Bool :=
  (List.range ops.length).all fun i => match ops[i]? with
    | none => false
    | some o => (!decide (i < n) || ((o.after.toList.all fun e => decide (e.on < i)) && (match o.guard with | none => true | some (j, _) => decide (j < i)))) &&
      (if i < n then decide (i + 1 = n) || (List.range n).any fun k => decide (i < k) && (match ops[k]? with | some q => hasEdge q i | none => false) else (List.range i).any fun k => decide (n ≤ k + 1) && hasEdge o k)
theorem okR_spec {n : Nat} (h : okR n ops = true) {i : Nat} {o : Oper} (hi : ops[i]? = some o) : (i < n → ∀ e ∈ o.after, e.on < i) ∧ (i < n → ∀ j b, o.guard = some (j, b) → j < i) ∧
    (i + 1 < n → ∃ k q, i < k ∧ k < n ∧ ops[k]? = some q ∧ hasEdge q i = true) ∧ (n ≤ i → ∃ k, k < i ∧ n ≤ k + 1 ∧ hasEdge o k = true) := by
  have hl : i < ops.length := (List.getElem?_eq_some_iff.1 hi).1
  have := List.all_eq_true.1 h i (List.mem_range.2 hl)
  simp only [hi, Bool.and_eq_true] at this
  obtain ⟨h1, h3⟩ := this
  refine ⟨fun hin e he => ?_, fun hin j b hg => ?_, fun hin => ?_, fun hin => ?_⟩
  · simp only [hin, decide_true, Bool.not_true, Bool.false_or, Bool.and_eq_true] at h1
    simpa using List.all_eq_true.1 h1.1 e (by simpa using he)
  · simp only [hin, decide_true, Bool.not_true, Bool.false_or, Bool.and_eq_true] at h1
    have h2 := h1.2
    rw [hg] at h2; simpa using h2
  · rw [if_pos (by omega)] at h3
    have hne : decide (i + 1 = n) = false := by rw [decide_eq_false_iff_not]; omega
    rw [hne, Bool.false_or, List.any_eq_true] at h3
    obtain ⟨k, hk, hk2⟩ := h3
    rw [Bool.and_eq_true] at hk2
    cases hq : ops[k]? with
    | none => rw [hq] at hk2; exact absurd hk2.2 (by simp)
    | some q => rw [hq] at hk2; exact ⟨k, q, by simpa using hk2.1, List.mem_range.1 hk, hq, hk2.2⟩
  · rw [if_neg (by omega), List.any_eq_true] at h3
    obtain ⟨k, hk, hk2⟩ := h3
    rw [Bool.and_eq_true, decide_eq_true_iff] at hk2
    exact ⟨k, List.mem_range.1 hk, hk2.1, hk2.2⟩

def MDerL (P : Program) (ops : List Oper) (n : Nat) (w0 : World) (a0 : Act) (Q : Exit → Act → World → Prop) : List Oper → List VT → Prop
  | o :: os, RF => ∃ F : VT, Grows F ∧ Ob P (ops.take n) RF.reverse w0 a0 RF.length o F ∧ MDerL P ops n w0 a0 Q os (F :: RF)
  | [], RF => ∀ w, Below w0.heap.size w0 w → EndM (fun _ a w => wpAny P .any ops.toArray Q (ops.length - n) (firstN n ops.length) a w) (dstsOf (ops.take n)) RF.reverse a0 w
theorem MDerL.step {n : Nat} {o : Oper} {os : List Oper} {RF : List VT} {F : VT} [hF : Grows F] (h : Ob P (ops.take n) RF.reverse w0 a0 RF.length o F) (k : MDerL P ops n w0 a0 Q os (F :: RF)) : MDerL P ops n w0 a0 Q (o :: os) RF := ⟨F, hF, h, k⟩
theorem MDerL.fore {n : Nat} : ∀ {os : List Oper} {RF : List VT}, MDerL P ops n w0 a0 Q os RF → MDer P (ops.take n) w0 a0 (fun _ a w => wpAny P .any ops.toArray Q (ops.length - n) (firstN n ops.length) a w) os RF.reverse
  | [], _, h => h
  | o :: os, RF, ⟨F, hF, hob, k⟩ => ⟨F, hF, by rw [List.length_reverse]; exact hob, by have := k.fore; rwa [List.reverse_cons] at this⟩

theorem region_MR_any {n : Nat} {Gs : List VT} (hn : n < ops.length) (hok : okM a0.tmps.size 0 (ops.take n) [] = true) (hot : okR n ops = true) (hlen : Gs.length = (ops.take n).length)
    (hobs : ∀ (i : Nat) (o : Oper) (F : VT), (ops.take n)[i]? = some o → Gs[i]? = some F → Grows F ∧ Ob P (ops.take n) Gs w0 a0 i o F)
    (hend : ∀ w, Below w0.heap.size w0 w → EndM (fun _ a w => wpAny P .any ops.toArray Q (ops.length - n) (firstN n ops.length) a w) (dstsOf (ops.take n)) Gs a0 w) :
    ∀ (fuel : Nat) (listed : Array Bool) (a : Act) (w : World), InvM (ops.take n) Gs w0 a0 listed a w → listed.size = ops.length → (∀ j, n ≤ j → j < ops.length → listed[j]? = some false) → unlisted listed = fuel → wpAny P .any ops.toArray Q fuel listed a w := by
  obtain ⟨s1, s2⟩ := okM_spec hok
  have htl : (ops.take n).length = n := by rw [List.length_take]; omega
  have bodyAt : ∀ j o, j < n → (ops[j]? = some o ↔ (ops.take n)[j]? = some o) := fun j o hj => by rw [List.getElem?_take, if_pos hj]
  intro fuel
  induction fuel with
  | zero =>
    intro listed a w h hs hf hu
    exfalso
    have h1 := hf n (Nat.le_refl _) hn
    have : 0 < unlisted listed := by
      unfold unlisted
      rw [List.countP_pos_iff]
      refine ⟨false, ?_, rfl⟩
      rw [← Array.getElem?_toList] at h1
      exact List.mem_of_getElem? h1
    omega
  | succ fuel ih =>
    intro listed a w h hs hf hu
    -- whether the body has all come up
    by_cases hall : ∀ j, j < n → listed[j]? = some true
    · -- what is left
      have e : listed = firstN n ops.length := by
        refine Array.ext (by simp [firstN]; omega) fun j h1 h2 => ?_
        have hl : listed[j]? = (firstN n ops.length)[j]? := by
          have hr : (firstN n ops.length)[j]? = if j < n then (if j < n then some true else none) else (if j - n < ops.length - n then some false else none) := by
            unfold firstN
            rw [List.getElem?_toArray, List.getElem?_append, List.length_replicate, List.getElem?_replicate, List.getElem?_replicate]
          rw [hr]
          by_cases hj : j < n
          · rw [if_pos hj, if_pos hj]; exact hall j hj
          · rw [if_neg hj, if_pos (by omega)]; exact hf j (by omega) (by omega)
        rw [Array.getElem?_eq_getElem h1, Array.getElem?_eq_getElem h2] at hl
        exact Option.some.inj hl
      have hQ : wpAny P .any ops.toArray Q (ops.length - n) (firstN n ops.length) a w := by
        refine endM_of (Q := fun _ a w => wpAny P .any ops.toArray Q (ops.length - n) (firstN n ops.length) a w) (ops.take n) Gs a0 (fun j o d F h1 h2 h3 => h.done j o d F (hall j (by have := (List.getElem?_eq_some_iff.1 h1).1; omega)) h1 h2 h3) hlen.symm (fun o ho => ?_) h.defers.symm h.size.symm (fun t ht => (h.old t ht).symm) (hend w h.le)
        obtain ⟨j, hj⟩ := List.getElem?_of_mem ho
        obtain ⟨⟨d, hd, _⟩, _⟩ := s1 j o hj
        rw [hd]; simp
      have hcount : unlisted listed = ops.length - n := by
        rw [e]
        unfold unlisted firstN
        simp [List.countP_append, List.countP_replicate]
      rw [← hu, hcount, e]
      exact hQ
    · -- the body
      have hex : ∃ j, j < n ∧ listed[j]? = some false := by
        refine Classical.byContradiction fun hne => hall fun j hj => ?_
        have hjs : j < listed.size := by omega
        cases hb : listed[j] with
        | true => rw [Array.getElem?_eq_getElem hjs, hb]
        | false => exact absurd ⟨j, hj, by rw [Array.getElem?_eq_getElem hjs, hb]⟩ hne
      have hnr : Region.ready .any ops.toArray listed ≠ [] := by
        obtain ⟨j0, hj0, hjf⟩ := hex
        have key : ∀ j, j < n → listed[j]? = some false → Region.ready .any ops.toArray listed ≠ [] := by
          intro j
          induction j using Nat.strongRecOn with
          | _ j ihj =>
            intro hj hjf hr
            have hjo : ops[j]? = some ops[j] := List.getElem?_eq_getElem (by omega)
            have : j ∈ Region.ready .any ops.toArray listed := mem_ready.2 ⟨by simp [Array.getD_eq_getD_getElem?, hjf], ops[j], by simp, fun e he _ => by
              have hlt := (okR_spec hot hjo).1 (by omega) e he
              have hes : e.on < listed.size := by omega
              cases hb : listed[e.on] with
              | true => simp [Array.getD_eq_getD_getElem?, hes, hb]
              | false => exact absurd hr (ihj e.on hlt (by omega) (by rw [Array.getElem?_eq_getElem hes, hb]))⟩
            rw [hr] at this; cases this
        exact key j0 hj0 hjf
      refine ⟨fun h0 => absurd h0 hnr, fun i hi => ?_⟩
      obtain ⟨h0, o, ho, hed⟩ := mem_ready.1 hi
      have ho' : ops[i]? = some o := by simpa using ho
      have hil : i < ops.length := (List.getElem?_eq_some_iff.1 ho').1
      have edgeF : ∀ (o : Oper), ops[i]? = some o → ∀ j, hasEdge o j = true → listed[j]? = some true := fun q hq j he => by
        have hqo : q = o := by rw [hq] at ho'; simpa using ho'
        subst hqo
        unfold hasEdge at he
        rw [List.any_eq_true] at he
        obtain ⟨e, hm, he⟩ := he
        simp only [Bool.and_eq_true, beq_iff_eq] at he
        have h1 := hed e (by simpa using hm) he.2
        rw [he.1] at h1
        have hj2 : j < listed.size := by
          rcases Nat.lt_or_ge j listed.size with h9 | h9
          · exact h9
          · simp [Array.getD_eq_getD_getElem?, h9] at h1
        rw [Array.getElem?_eq_getElem hj2]
        simpa [Array.getD_eq_getD_getElem?, hj2] using h1
      have hin : i < n := by
        rcases Nat.lt_or_ge i n with h1 | h1
        · exact h1
        · exfalso
          obtain ⟨k, hk1, hk2, hk3⟩ := (okR_spec hot ho').2.2.2 h1
          rcases Nat.lt_or_ge k n with h2 | h2
          · have hk : k + 1 = n := by omega
            have chain : ∀ d j, n - j = d → j < n → listed[j]? = some true := by
              intro d
              induction d using Nat.strongRecOn with
              | _ d ihd =>
                intro j hd hj
                by_cases hjk : j = k
                · subst hjk; exact edgeF o ho' j hk3
                · have hjo : ops[j]? = some ops[j] := List.getElem?_eq_getElem (by omega)
                  obtain ⟨m, q, hm1, hm2, hm3, hm4⟩ := (okR_spec hot hjo).2.2.1 (by omega)
                  exact h.closed m q j (ihd (n - m) (by omega) m rfl hm2) ((bodyAt m q hm2).1 hm3) hm4
            exact hall fun j hj => chain (n - j) j rfl hj
          · have := edgeF o ho' k hk3
            have h5 := hf k h2 (by omega)
            rw [this] at h5; cases h5
      have hob' : (ops.take n)[i]? = some o := (bodyAt i o hin).1 ho'
      have hjl : i < listed.size := by omega
      have hfi : listed[i]? = some false := by
        rw [Array.getElem?_eq_getElem hjl]
        simpa [Array.getD_eq_getD_getElem?, hjl] using h0
      have hGi : i < Gs.length := by omega
      obtain ⟨hgr, hob⟩ := hobs i o Gs[i] hob' (List.getElem?_eq_getElem hGi)
      have hg : ∀ (j : Nat) (F : VT), Gs[j]? = some F → Grows F := fun j F hj => by
        have hjo : j < (ops.take n).length := by rw [← hlen]; exact (List.getElem?_eq_some_iff.1 hj).1
        exact (hobs j (ops.take n)[j] F (List.getElem?_eq_getElem hjo) hj).1
      have edge := edgeF o ho'
      have cx : Cx (ops.take n) Gs w0 a0 i o a w := ⟨h.le, h.defers, h.size, h.old, fun j oj d G he h1 h2 h3 => h.done j oj d G (edge j he) h1 h2 h3, fun j oj d h1 he h2 => by
        refine h.todo j oj d ?_ h1 h2
        have hj3 : j < (ops.take n).length := (List.getElem?_eq_some_iff.1 h1).1
        have hj2 : j < listed.size := by omega
        cases hb : listed[j] with
        | false => rw [Array.getElem?_eq_getElem hj2, hb]
        | true =>
          exfalso
          have := h.closed j oj i (by rw [Array.getElem?_eq_getElem hj2, hb]) h1 he
          rw [hfi] at this; cases this⟩
      have hob2 := hob a w cx
      rw [wanted_take hin ((okR_spec hot ho').2.1 hin)] at hob2
      have step : ∀ a' w', InvM (ops.take n) Gs w0 a0 (listed.setIfInBounds i true) a' w' → wpAny P .any ops.toArray Q fuel (listed.setIfInBounds i true) a' w' := fun a' w' h' =>
        ih _ a' w' h' (by simp [hs]) (fun j hj hjl2 => by rw [Array.getElem?_setIfInBounds_ne (by omega)]; exact hf j hj hjl2) (by have := unlisted_set hfi; omega)
      unfold wpOp
      simp only [ho]
      split
      · rename_i hw
        rw [if_pos hw] at hob2
        refine .inl (Oper.wp_noQ (Oper.wp_mono (fun a' w' h' => ?_) hob2))
        obtain ⟨v, rfl, hb, hv⟩ := h'
        exact step _ _ (h.put hok hg hb hob' edge fun G hG => by rw [List.getElem?_eq_getElem hGi] at hG; cases hG; exact hv)
      · rename_i hw
        rw [if_neg hw] at hob2
        exact step _ _ (h.put hok hg (Below.refl _ _) hob' edge fun G hG => by rw [List.getElem?_eq_getElem hGi] at hG; cases hG; exact hob2)


/-- The rule: the first n operations; what is left is the caller's. -/
theorem wp_region_MR {id : Nat} (n : Nat) (hm : P.follows .mixedOrders = true) (hok : okM a0.tmps.size 0 (ops.take n) [] = true) (hot : (decide (n < ops.length) && okR n ops) = true) (h : MDerL P ops n w0 a0 Q (ops.take n) []) : (Code.region id ops.toArray true).wp P Q a0 w0 := by
  rw [Bool.and_eq_true, decide_eq_true_iff] at hot
  obtain ⟨Gs, h1, h2, h3⟩ := MDer.all (Fs := []) h.fore [] rfl (by simp) (fun i o F hi => by simp at hi)
  refine wp_region_any hm ?_
  have hu : unlisted (Array.replicate ops.length false) = ops.length := by simp [unlisted, List.countP_replicate]
  have := region_MR_any (Q := Q) hot.1 hok hot.2 h1 h2 h3 ops.length (Array.replicate ops.length false) a0 { w0 with drawn := w0.drawn + 1 }
    ⟨(Below.refl _ w0).drew, rfl, rfl, by simp [List.length_take]; omega, fun _ _ => rfl, fun j oj d G hj => by simp [Array.getElem?_replicate] at hj, fun j oj i hj => by simp [Array.getElem?_replicate] at hj, fun j oj d _ _ _ => rfl⟩ (by simp) (fun j _ hj => by simp [hj]) hu
  simpa using this
/-- One operation alone can come up. -/
theorem wpAny_next {ops : Array Oper} {fuel i : Nat} {listed : Array Bool} {a : Act} {w : World} {o : Oper} (hr : Region.ready .any ops listed = [i]) (ho : ops[i]? = some o) (hg : o.guard = none)
    (h : o.wp P a w (wpAny P .any ops Q fuel (listed.setIfInBounds i true)) Q) : wpAny P .any ops Q (fuel + 1) listed a w := by
  refine ⟨fun h0 => (by rw [hr] at h0; cases h0), fun j hj => ?_⟩
  rw [hr] at hj
  obtain rfl := List.mem_singleton.1 hj
  unfold wpOp
  simp only [ho]
  rw [if_pos (by simp [Region.wanted, hg])]
  exact .inl h
end
end Go.Proofs.Ytjbakmmmgejhlaa

/-
  A region whose order is open and in which two blocks are made at any time: they are two.
-/
namespace Go.Proofs.Ytjbakmmmgejhlaa
open Go.RowKit

section
variable {P : Program} {ops : List Oper} {w0 : World} {a0 : Act} {Q : Exit → Act → World → Prop}
/-- The closed facts: what is left waits for one of its own, or, through at most one other, for all of the first n. -/
def okJ (n : Nat) (ops : List Oper) : Bool :=
  (List.range ops.length).all fun i => match ops[i]? with
    | none => false
    | some o => (!decide (i < n) || ((o.after.toList.all fun e => decide (e.on < i)) && (match o.guard with | none => true | some (j, _) => decide (j < i)))) &&
      (decide (i < n) || (List.range i).any (fun k => decide (n ≤ k) && hasEdge o k) || (List.range n).all fun j => hasEdge o j || (List.range n).any fun k => hasEdge o k && (match ops[k]? with | some q => hasEdge q j | none => false))
theorem okJ_spec {n : Nat} (h : okJ n ops = true) {i : Nat} {o : Oper} (hi : ops[i]? = some o) : (i < n → ∀ e ∈ o.after, e.on < i) ∧ (i < n → ∀ j b, o.guard = some (j, b) → j < i) ∧
    (n ≤ i → (∃ k, k < i ∧ n ≤ k ∧ hasEdge o k = true) ∨ ∀ j, j < n → hasEdge o j = true ∨ ∃ k q, k < n ∧ ops[k]? = some q ∧ hasEdge o k = true ∧ hasEdge q j = true) := by
  have hl : i < ops.length := (List.getElem?_eq_some_iff.1 hi).1
  have := List.all_eq_true.1 h i (List.mem_range.2 hl)
  simp only [hi, Bool.and_eq_true] at this
  obtain ⟨h1, h3⟩ := this
  refine ⟨fun hin e he => ?_, fun hin j b hg => ?_, fun hin => ?_⟩
  · simp only [hin, decide_true, Bool.not_true, Bool.false_or, Bool.and_eq_true] at h1
    simpa using List.all_eq_true.1 h1.1 e (by simpa using he)
  · simp only [hin, decide_true, Bool.not_true, Bool.false_or, Bool.and_eq_true] at h1
    have h2 := h1.2
    rw [hg] at h2; simpa using h2
  · have hne : decide (i < n) = false := by rw [decide_eq_false_iff_not]; omega
    rw [hne, Bool.false_or, Bool.or_eq_true] at h3
    rcases h3 with h3 | h3
    · rw [List.any_eq_true] at h3
      obtain ⟨k, hk, hk2⟩ := h3
      rw [Bool.and_eq_true, decide_eq_true_iff] at hk2
      exact .inl ⟨k, List.mem_range.1 hk, hk2.1, hk2.2⟩
    · refine .inr fun j hj => ?_
      have h4 := List.all_eq_true.1 h3 j (List.mem_range.2 hj)
      rw [Bool.or_eq_true] at h4
      rcases h4 with h4 | h4
      · exact .inl h4
      · rw [List.any_eq_true] at h4
        obtain ⟨k, hk, hk2⟩ := h4
        rw [Bool.and_eq_true] at hk2
        cases hq : ops[k]? with
        | none => rw [hq] at hk2; exact absurd hk2.2 (by simp)
        | some q => rw [hq] at hk2; exact .inr ⟨k, q, List.mem_range.1 hk, hq, hk2.1, hk2.2⟩
/-- The operation makes a block. -/
def AllocAt (P : Program) (body : List Oper) (p : Nat) (dp : Tmp) : Prop :=
  ∃ o, body[p]? = some o ∧ o.dst = some dp ∧ o.guard = none ∧ ∃ bx, ∀ (a : Act) (w : World), (execOp a.eval o).run P w = .ok (.value (.pointer (some ⟨w.heap.size, 0, none⟩))) (w.alloc bx)
theorem AllocAt.lt_n {n p : Nat} {dp : Tmp} (h : AllocAt P (ops.take n) p dp) : p < n := by
  obtain ⟨o, h1, _⟩ := h
  have := (List.getElem?_eq_some_iff.1 h1).1
  rw [List.length_take] at this; omega
/-- What has been made, as far as it has come up. -/
def JJ (p q : Nat) (dp dq : Tmp) (listed : Array Bool) (a : Act) (w : World) : Prop :=
  (listed[p]? = some true → ∃ N, a.tmps.getD dp undef = .pointer (some ⟨N, 0, none⟩) ∧ N < w.heap.size) ∧ (listed[q]? = some true → ∃ N, a.tmps.getD dq undef = .pointer (some ⟨N, 0, none⟩) ∧ N < w.heap.size) ∧
  (listed[p]? = some true → listed[q]? = some true → a.tmps.getD dp undef ≠ a.tmps.getD dq undef)
def MDerJ (P : Program) (ops : List Oper) (n : Nat) (dp dq : Tmp) (w0 : World) (a0 : Act) (Q : Exit → Act → World → Prop) : List Oper → List VT → Prop
  | o :: os, RF => ∃ F : VT, Grows F ∧ Ob P (ops.take n) RF.reverse w0 a0 RF.length o F ∧ MDerJ P ops n dp dq w0 a0 Q os (F :: RF)
  | [], RF => ∀ w, Below w0.heap.size w0 w → EndM (fun _ a w => a.tmps.getD dp undef ≠ a.tmps.getD dq undef → wpAny P .any ops.toArray Q (ops.length - n) (firstN n ops.length) a w) (dstsOf (ops.take n)) RF.reverse a0 w
theorem MDerJ.step {n : Nat} {dp dq : Tmp} {o : Oper} {os : List Oper} {RF : List VT} {F : VT} [hF : Grows F] (h : Ob P (ops.take n) RF.reverse w0 a0 RF.length o F) (k : MDerJ P ops n dp dq w0 a0 Q os (F :: RF)) : MDerJ P ops n dp dq w0 a0 Q (o :: os) RF := ⟨F, hF, h, k⟩
theorem MDerJ.fore {n : Nat} {dp dq : Tmp} : ∀ {os : List Oper} {RF : List VT}, MDerJ P ops n dp dq w0 a0 Q os RF → MDer P (ops.take n) w0 a0 (fun _ a w => a.tmps.getD dp undef ≠ a.tmps.getD dq undef → wpAny P .any ops.toArray Q (ops.length - n) (firstN n ops.length) a w) os RF.reverse
  | [], _, h => h
  | o :: os, RF, ⟨F, hF, hob, k⟩ => ⟨F, hF, by rw [List.length_reverse]; exact hob, by have := k.fore; rwa [List.reverse_cons] at this⟩

theorem region_MJ_any {n p q : Nat} {dp dq : Tmp} {Gs : List VT} (hn : n < ops.length) (hok : okM a0.tmps.size 0 (ops.take n) [] = true) (hot : okJ n ops = true) (hlen : Gs.length = (ops.take n).length)
    (hobs : ∀ (i : Nat) (o : Oper) (F : VT), (ops.take n)[i]? = some o → Gs[i]? = some F → Grows F ∧ Ob P (ops.take n) Gs w0 a0 i o F)
    (hend : ∀ w, Below w0.heap.size w0 w → EndM (fun _ a w => a.tmps.getD dp undef ≠ a.tmps.getD dq undef → wpAny P .any ops.toArray Q (ops.length - n) (firstN n ops.length) a w) (dstsOf (ops.take n)) Gs a0 w)
    (hpq : p ≠ q) (hap : AllocAt P (ops.take n) p dp) (haq : AllocAt P (ops.take n) q dq) :
    ∀ (fuel : Nat) (listed : Array Bool) (a : Act) (w : World), InvM (ops.take n) Gs w0 a0 listed a w → JJ p q dp dq listed a w → listed.size = ops.length → (∀ j, n ≤ j → j < ops.length → listed[j]? = some false) → unlisted listed = fuel → wpAny P .any ops.toArray Q fuel listed a w := by
  obtain ⟨s1, s2⟩ := okM_spec hok
  have htl : (ops.take n).length = n := by rw [List.length_take]; omega
  have bodyAt : ∀ j o, j < n → (ops[j]? = some o ↔ (ops.take n)[j]? = some o) := fun j o hj => by rw [List.getElem?_take, if_pos hj]
  intro fuel
  induction fuel with
  | zero =>
    intro listed a w h hj0 hs hf hu
    exfalso
    have h1 := hf n (Nat.le_refl _) hn
    have : 0 < unlisted listed := by
      unfold unlisted
      rw [List.countP_pos_iff]
      refine ⟨false, ?_, rfl⟩
      rw [← Array.getElem?_toList] at h1
      exact List.mem_of_getElem? h1
    omega
  | succ fuel ih =>
    intro listed a w h hj0 hs hf hu
    -- whether the body has all come up
    by_cases hall : ∀ j, j < n → listed[j]? = some true
    · -- what is left
      have e : listed = firstN n ops.length := by
        refine Array.ext (by simp [firstN]; omega) fun j h1 h2 => ?_
        have hl : listed[j]? = (firstN n ops.length)[j]? := by
          have hr : (firstN n ops.length)[j]? = if j < n then (if j < n then some true else none) else (if j - n < ops.length - n then some false else none) := by
            unfold firstN
            rw [List.getElem?_toArray, List.getElem?_append, List.length_replicate, List.getElem?_replicate, List.getElem?_replicate]
          rw [hr]
          by_cases hj : j < n
          · rw [if_pos hj, if_pos hj]; exact hall j hj
          · rw [if_neg hj, if_pos (by omega)]; exact hf j (by omega) (by omega)
        rw [Array.getElem?_eq_getElem h1, Array.getElem?_eq_getElem h2] at hl
        exact Option.some.inj hl
      have hQ : wpAny P .any ops.toArray Q (ops.length - n) (firstN n ops.length) a w := by
        refine endM_of (Q := (fun _ a w => a.tmps.getD dp undef ≠ a.tmps.getD dq undef → wpAny P .any ops.toArray Q (ops.length - n) (firstN n ops.length) a w)) (ops.take n) Gs a0 (fun j o d F h1 h2 h3 => h.done j o d F (hall j (by have := (List.getElem?_eq_some_iff.1 h1).1; omega)) h1 h2 h3) hlen.symm (fun o ho => ?_) h.defers.symm h.size.symm (fun t ht => (h.old t ht).symm) (hend w h.le) (hj0.2.2 (hall p hap.lt_n) (hall q haq.lt_n))
        obtain ⟨j, hj⟩ := List.getElem?_of_mem ho
        obtain ⟨⟨d, hd, _⟩, _⟩ := s1 j o hj
        rw [hd]; simp
      have hcount : unlisted listed = ops.length - n := by
        rw [e]
        unfold unlisted firstN
        simp [List.countP_append, List.countP_replicate]
      rw [← hu, hcount, e]
      exact hQ
    · -- the body
      have hex : ∃ j, j < n ∧ listed[j]? = some false := by
        refine Classical.byContradiction fun hne => hall fun j hj => ?_
        have hjs : j < listed.size := by omega
        cases hb : listed[j] with
        | true => rw [Array.getElem?_eq_getElem hjs, hb]
        | false => exact absurd ⟨j, hj, by rw [Array.getElem?_eq_getElem hjs, hb]⟩ hne
      have hnr : Region.ready .any ops.toArray listed ≠ [] := by
        obtain ⟨j0, hj0, hjf⟩ := hex
        have key : ∀ j, j < n → listed[j]? = some false → Region.ready .any ops.toArray listed ≠ [] := by
          intro j
          induction j using Nat.strongRecOn with
          | _ j ihj =>
            intro hj hjf hr
            have hjo : ops[j]? = some ops[j] := List.getElem?_eq_getElem (by omega)
            have : j ∈ Region.ready .any ops.toArray listed := mem_ready.2 ⟨by simp [Array.getD_eq_getD_getElem?, hjf], ops[j], by simp, fun e he _ => by
              have hlt := (okJ_spec hot hjo).1 (by omega) e he
              have hes : e.on < listed.size := by omega
              cases hb : listed[e.on] with
              | true => simp [Array.getD_eq_getD_getElem?, hes, hb]
              | false => exact absurd hr (ihj e.on hlt (by omega) (by rw [Array.getElem?_eq_getElem hes, hb]))⟩
            rw [hr] at this; cases this
        exact key j0 hj0 hjf
      refine ⟨fun h0 => absurd h0 hnr, fun i hi => ?_⟩
      obtain ⟨h0, o, ho, hed⟩ := mem_ready.1 hi
      have ho' : ops[i]? = some o := by simpa using ho
      have hil : i < ops.length := (List.getElem?_eq_some_iff.1 ho').1
      have edgeF : ∀ (o : Oper), ops[i]? = some o → ∀ j, hasEdge o j = true → listed[j]? = some true := fun q hq j he => by
        have hqo : q = o := by rw [hq] at ho'; simpa using ho'
        subst hqo
        unfold hasEdge at he
        rw [List.any_eq_true] at he
        obtain ⟨e, hm, he⟩ := he
        simp only [Bool.and_eq_true, beq_iff_eq] at he
        have h1 := hed e (by simpa using hm) he.2
        rw [he.1] at h1
        have hj2 : j < listed.size := by
          rcases Nat.lt_or_ge j listed.size with h9 | h9
          · exact h9
          · simp [Array.getD_eq_getD_getElem?, h9] at h1
        rw [Array.getElem?_eq_getElem hj2]
        simpa [Array.getD_eq_getD_getElem?, hj2] using h1
      have hin : i < n := by
        rcases Nat.lt_or_ge i n with h1 | h1
        · exact h1
        · exfalso
          rcases (okJ_spec hot ho').2.2 h1 with ⟨k, hk1, hk2, hk3⟩ | hjs
          · have := edgeF o ho' k hk3
            have h5 := hf k hk2 (by omega)
            rw [this] at h5; cases h5
          · exact hall fun j hj => by
              rcases hjs j hj with he | ⟨k, u, hk, hu, he1, he2⟩
              · exact edgeF o ho' j he
              · exact h.closed k u j (edgeF o ho' k he1) ((bodyAt k u hk).1 hu) he2
      have hob' : (ops.take n)[i]? = some o := (bodyAt i o hin).1 ho'
      have hjl : i < listed.size := by omega
      have hfi : listed[i]? = some false := by
        rw [Array.getElem?_eq_getElem hjl]
        simpa [Array.getD_eq_getD_getElem?, hjl] using h0
      have hGi : i < Gs.length := by omega
      obtain ⟨hgr, hob⟩ := hobs i o Gs[i] hob' (List.getElem?_eq_getElem hGi)
      have hg : ∀ (j : Nat) (F : VT), Gs[j]? = some F → Grows F := fun j F hj => by
        have hjo : j < (ops.take n).length := by rw [← hlen]; exact (List.getElem?_eq_some_iff.1 hj).1
        exact (hobs j (ops.take n)[j] F (List.getElem?_eq_getElem hjo) hj).1
      have edge := edgeF o ho'
      have cx : Cx (ops.take n) Gs w0 a0 i o a w := ⟨h.le, h.defers, h.size, h.old, fun j oj d G he h1 h2 h3 => h.done j oj d G (edge j he) h1 h2 h3, fun j oj d h1 he h2 => by
        refine h.todo j oj d ?_ h1 h2
        have hj3 : j < (ops.take n).length := (List.getElem?_eq_some_iff.1 h1).1
        have hj2 : j < listed.size := by omega
        cases hb : listed[j] with
        | false => rw [Array.getElem?_eq_getElem hj2, hb]
        | true =>
          exfalso
          have := h.closed j oj i (by rw [Array.getElem?_eq_getElem hj2, hb]) h1 he
          rw [hfi] at this; cases this⟩
      have hob2 := hob a w cx
      rw [wanted_take hin ((okJ_spec hot ho').2.1 hin)] at hob2
      have step : ∀ a' w', InvM (ops.take n) Gs w0 a0 (listed.setIfInBounds i true) a' w' → JJ p q dp dq (listed.setIfInBounds i true) a' w' → wpAny P .any ops.toArray Q fuel (listed.setIfInBounds i true) a' w' := fun a' w' h' hj' =>
        ih _ a' w' h' hj' (by simp [hs]) (fun j hj hjl2 => by rw [Array.getElem?_setIfInBounds_ne (by omega)]; exact hf j hj hjl2) (by have := unlisted_set hfi; omega)
      unfold wpOp
      simp only [ho]
      obtain ⟨op_, hop, hopd, hopg, bx, hopx⟩ := hap
      obtain ⟨oq_, hoq, hoqd, hoqg, bq, hoqx⟩ := haq
      have dne : ∀ j oj d, j ≠ i → (ops.take n)[j]? = some oj → oj.dst = some d → o.dst ≠ some d := fun j oj d hj h1 h2 e => hj (s2 j i oj o h1 hob' (h2.trans e.symm))
      have keep : ∀ j oj d v, j ≠ i → (ops.take n)[j]? = some oj → oj.dst = some d → (a.put o.dst v).tmps.getD d undef = a.tmps.getD d undef := fun j oj d v hj h1 h2 => by
        have h3 := dne j oj d hj h1 h2
        cases ed : o.dst with
        | none => rfl
        | some e => rw [getD_put, if_neg (fun h4 => h3 (by rw [ed, h4.1]))]
      have lst : ∀ j, j ≠ i → (listed.setIfInBounds i true)[j]? = listed[j]? := fun j hj => Array.getElem?_setIfInBounds_ne (fun e => hj e.symm)
      by_cases hip : i = p
      · subst hip
        have e := hop.symm.trans hob'; cases e
        have hw : Region.wanted o (yielded (ops.take n).toArray a.tmps) = true := by simp [Region.wanted, hopg]
        rw [if_pos (by simp [Region.wanted, hopg])] at hob2
        rw [if_pos (by simp [Region.wanted, hopg])]
        unfold Oper.wp at hob2 ⊢
        rw [hopx] at hob2 ⊢
        refine .inl ?_
        obtain ⟨v, e, hb, hv⟩ := hob2
        have hinv : InvM (ops.take n) Gs w0 a0 (listed.setIfInBounds i true) (a.put o.dst (.pointer (some ⟨w.heap.size, 0, none⟩))) (w.alloc bx) := by
          rw [e]; exact h.put hok hg hb hob' edge fun G hG => by rw [List.getElem?_eq_getElem hGi] at hG; cases hG; exact hv
        have hdn : dp < a.tmps.size := by obtain ⟨⟨d, hd, hdn, _⟩, _⟩ := s1 i o hob'; rw [hopd] at hd; cases hd; rw [h.size]; exact hdn
        have hmine : (a.put o.dst (.pointer (some ⟨w.heap.size, 0, none⟩))).tmps.getD dp undef = .pointer (some ⟨w.heap.size, 0, none⟩) := by rw [hopd, getD_put, if_pos ⟨rfl, hdn⟩]
        have hother := keep q oq_ dq (.pointer (some ⟨w.heap.size, 0, none⟩)) (fun e => hpq e.symm) hoq hoqd
        refine step _ _ hinv ⟨fun _ => ⟨w.heap.size, hmine, by simp⟩, fun hl => ?_, fun _ hl => ?_⟩
        · rw [lst q (fun e => hpq e.symm)] at hl
          obtain ⟨N, h1, h2⟩ := hj0.2.1 hl
          exact ⟨N, hother.trans h1, by have := hb.size; omega⟩
        · rw [lst q (fun e => hpq e.symm)] at hl
          obtain ⟨N, h1, h2⟩ := hj0.2.1 hl
          rw [hmine, hother, h1]
          intro e; cases e; omega
      by_cases hiq : i = q
      · subst hiq
        have e := hoq.symm.trans hob'; cases e
        rw [if_pos (by simp [Region.wanted, hoqg])] at hob2
        rw [if_pos (by simp [Region.wanted, hoqg])]
        unfold Oper.wp at hob2 ⊢
        rw [hoqx] at hob2 ⊢
        refine .inl ?_
        obtain ⟨v, e, hb, hv⟩ := hob2
        have hinv : InvM (ops.take n) Gs w0 a0 (listed.setIfInBounds i true) (a.put o.dst (.pointer (some ⟨w.heap.size, 0, none⟩))) (w.alloc bq) := by
          rw [e]; exact h.put hok hg hb hob' edge fun G hG => by rw [List.getElem?_eq_getElem hGi] at hG; cases hG; exact hv
        have hdn : dq < a.tmps.size := by obtain ⟨⟨d, hd, hdn, _⟩, _⟩ := s1 i o hob'; rw [hoqd] at hd; cases hd; rw [h.size]; exact hdn
        have hmine : (a.put o.dst (.pointer (some ⟨w.heap.size, 0, none⟩))).tmps.getD dq undef = .pointer (some ⟨w.heap.size, 0, none⟩) := by rw [hoqd, getD_put, if_pos ⟨rfl, hdn⟩]
        have hother := keep p op_ dp (.pointer (some ⟨w.heap.size, 0, none⟩)) hpq hop hopd
        refine step _ _ hinv ⟨fun hl => ?_, fun _ => ⟨w.heap.size, hmine, by simp⟩, fun hl _ => ?_⟩
        · rw [lst p hpq] at hl
          obtain ⟨N, h1, h2⟩ := hj0.1 hl
          exact ⟨N, hother.trans h1, by have := hb.size; omega⟩
        · rw [lst p hpq] at hl
          obtain ⟨N, h1, h2⟩ := hj0.1 hl
          rw [hmine, hother, h1]
          intro e; cases e; omega
      have keepJ : ∀ v w', Below w.heap.size w w' → JJ p q dp dq (listed.setIfInBounds i true) (a.put o.dst v) w' := fun v w' hb => by
        refine ⟨fun hl => ?_, fun hl => ?_, fun hl hl2 => ?_⟩
        · rw [lst p (fun e => hip e.symm)] at hl
          obtain ⟨N, h1, h2⟩ := hj0.1 hl
          exact ⟨N, (keep p op_ dp v (fun e => hip e.symm) hop hopd).trans h1, by have := hb.size; omega⟩
        · rw [lst q (fun e => hiq e.symm)] at hl
          obtain ⟨N, h1, h2⟩ := hj0.2.1 hl
          exact ⟨N, (keep q oq_ dq v (fun e => hiq e.symm) hoq hoqd).trans h1, by have := hb.size; omega⟩
        · rw [lst p (fun e => hip e.symm)] at hl
          rw [lst q (fun e => hiq e.symm)] at hl2
          rw [keep p op_ dp v (fun e => hip e.symm) hop hopd, keep q oq_ dq v (fun e => hiq e.symm) hoq hoqd]
          exact hj0.2.2 hl hl2
      split
      · rename_i hw
        rw [if_pos hw] at hob2
        refine .inl (Oper.wp_noQ (Oper.wp_mono (fun a' w' h' => ?_) hob2))
        obtain ⟨v, rfl, hb, hv⟩ := h'
        exact step _ _ (h.put hok hg hb hob' edge fun G hG => by rw [List.getElem?_eq_getElem hGi] at hG; cases hG; exact hv) (keepJ _ _ hb)
      · rename_i hw
        rw [if_neg hw] at hob2
        exact step _ _ (h.put hok hg (Below.refl _ _) hob' edge fun G hG => by rw [List.getElem?_eq_getElem hGi] at hG; cases hG; exact hob2) (keepJ _ _ (Below.refl _ _))

/-- The rule: the first n operations, of which p and q make a block each; what is left is the caller's. -/
theorem wp_region_MJ {id : Nat} (n p q : Nat) (dp dq : Tmp) (hm : P.follows .mixedOrders = true) (hok : okM a0.tmps.size 0 (ops.take n) [] = true) (hot : (decide (n < ops.length) && okJ n ops) = true) (hpq : p ≠ q) (hap : AllocAt P (ops.take n) p dp) (haq : AllocAt P (ops.take n) q dq)
    (h : MDerJ P ops n dp dq w0 a0 Q (ops.take n) []) : (Code.region id ops.toArray true).wp P Q a0 w0 := by
  rw [Bool.and_eq_true, decide_eq_true_iff] at hot
  obtain ⟨Gs, h1, h2, h3⟩ := MDer.all (Fs := []) h.fore [] rfl (by simp) (fun i o F hi => by simp at hi)
  refine wp_region_any hm ?_
  have hu : unlisted (Array.replicate ops.length false) = ops.length := by simp [unlisted, List.countP_replicate]
  have := region_MJ_any (Q := Q) hot.1 hok hot.2 h1 h2 h3 hpq hap haq ops.length (Array.replicate ops.length false) a0 { w0 with drawn := w0.drawn + 1 }
    ⟨(Below.refl _ w0).drew, rfl, rfl, by simp [List.length_take]; omega, fun _ _ => rfl, fun j oj d G hj => by simp [Array.getElem?_replicate] at hj, fun j oj i hj => by simp [Array.getElem?_replicate] at hj, fun j oj d _ _ _ => rfl⟩
    ⟨fun hl => by simp [Array.getElem?_replicate] at hl, fun hl => by simp [Array.getElem?_replicate] at hl, fun hl => by simp [Array.getElem?_replicate] at hl⟩ (by simp) (fun j _ hj => by simp [hj]) hu
  simpa using this
theorem wp_skips {o : Oper} {a : Act} {w w' : World} {K : Act → World → Prop} (e : (execOp a.eval o).run P w = .ok .skip w') (h : K (a.put o.dst undef) w') : o.wp P a w K Q := by
  unfold Oper.wp
  rw [e]; exact h
end
end Go.Proofs.Ytjbakmmmgejhlaa

/-
  A region whose order is open, its operations in a new order: the first n walked once, what is left handed on.
-/
namespace Go.Proofs.Ytjbakmmmgejhlaa
open Go.RowKit

section
variable {P : Program} {ops : List Oper} {w0 : World} {a0 : Act} {Q : Exit → Act → World → Prop}
theorem region_MK_any {n : Nat} {Gs : List VT} (hn : n < ops.length) (hok : okM a0.tmps.size 0 (ops.take n) [] = true) (hot : okJ n ops = true) (hlen : Gs.length = (ops.take n).length)
    (hobs : ∀ (i : Nat) (o : Oper) (F : VT), (ops.take n)[i]? = some o → Gs[i]? = some F → Grows F ∧ Ob P (ops.take n) Gs w0 a0 i o F)
    (hend : ∀ w, Below w0.heap.size w0 w → EndM (fun _ a w => wpAny P .any ops.toArray Q (ops.length - n) (firstN n ops.length) a w) (dstsOf (ops.take n)) Gs a0 w) :
    ∀ (fuel : Nat) (listed : Array Bool) (a : Act) (w : World), InvM (ops.take n) Gs w0 a0 listed a w → listed.size = ops.length → (∀ j, n ≤ j → j < ops.length → listed[j]? = some false) → unlisted listed = fuel → wpAny P .any ops.toArray Q fuel listed a w := by
  obtain ⟨s1, s2⟩ := okM_spec hok
  have htl : (ops.take n).length = n := by rw [List.length_take]; omega
  have bodyAt : ∀ j o, j < n → (ops[j]? = some o ↔ (ops.take n)[j]? = some o) := fun j o hj => by rw [List.getElem?_take, if_pos hj]
  intro fuel
  induction fuel with
  | zero =>
    intro listed a w h hs hf hu
    exfalso
    have h1 := hf n (Nat.le_refl _) hn
    have : 0 < unlisted listed := by
      unfold unlisted
      rw [List.countP_pos_iff]
      refine ⟨false, ?_, rfl⟩
      rw [← Array.getElem?_toList] at h1
      exact List.mem_of_getElem? h1
    omega
  | succ fuel ih =>
    intro listed a w h hs hf hu
    -- whether the body has all come up
    by_cases hall : ∀ j, j < n → listed[j]? = some true
    · -- what is left
      have e : listed = firstN n ops.length := by
        refine Array.ext (by simp [firstN]; omega) fun j h1 h2 => ?_
        have hl : listed[j]? = (firstN n ops.length)[j]? := by
          have hr : (firstN n ops.length)[j]? = if j < n then (if j < n then some true else none) else (if j - n < ops.length - n then some false else none) := by
            unfold firstN
            rw [List.getElem?_toArray, List.getElem?_append, List.length_replicate, List.getElem?_replicate, List.getElem?_replicate]
          rw [hr]
          by_cases hj : j < n
          · rw [if_pos hj, if_pos hj]; exact hall j hj
          · rw [if_neg hj, if_pos (by omega)]; exact hf j (by omega) (by omega)
        rw [Array.getElem?_eq_getElem h1, Array.getElem?_eq_getElem h2] at hl
        exact Option.some.inj hl
      have hQ : wpAny P .any ops.toArray Q (ops.length - n) (firstN n ops.length) a w := by
        refine endM_of (Q := fun _ a w => wpAny P .any ops.toArray Q (ops.length - n) (firstN n ops.length) a w) (ops.take n) Gs a0 (fun j o d F h1 h2 h3 => h.done j o d F (hall j (by have := (List.getElem?_eq_some_iff.1 h1).1; omega)) h1 h2 h3) hlen.symm (fun o ho => ?_) h.defers.symm h.size.symm (fun t ht => (h.old t ht).symm) (hend w h.le)
        obtain ⟨j, hj⟩ := List.getElem?_of_mem ho
        obtain ⟨⟨d, hd, _⟩, _⟩ := s1 j o hj
        rw [hd]; simp
      have hcount : unlisted listed = ops.length - n := by
        rw [e]
        unfold unlisted firstN
        simp [List.countP_append, List.countP_replicate]
      rw [← hu, hcount, e]
      exact hQ
    · -- the body
      have hex : ∃ j, j < n ∧ listed[j]? = some false := by
        refine Classical.byContradiction fun hne => hall fun j hj => ?_
        have hjs : j < listed.size := by omega
        cases hb : listed[j] with
        | true => rw [Array.getElem?_eq_getElem hjs, hb]
        | false => exact absurd ⟨j, hj, by rw [Array.getElem?_eq_getElem hjs, hb]⟩ hne
      have hnr : Region.ready .any ops.toArray listed ≠ [] := by
        obtain ⟨j0, hj0, hjf⟩ := hex
        have key : ∀ j, j < n → listed[j]? = some false → Region.ready .any ops.toArray listed ≠ [] := by
          intro j
          induction j using Nat.strongRecOn with
          | _ j ihj =>
            intro hj hjf hr
            have hjo : ops[j]? = some ops[j] := List.getElem?_eq_getElem (by omega)
            have : j ∈ Region.ready .any ops.toArray listed := mem_ready.2 ⟨by simp [Array.getD_eq_getD_getElem?, hjf], ops[j], by simp, fun e he _ => by
              have hlt := (okJ_spec hot hjo).1 (by omega) e he
              have hes : e.on < listed.size := by omega
              cases hb : listed[e.on] with
              | true => simp [Array.getD_eq_getD_getElem?, hes, hb]
              | false => exact absurd hr (ihj e.on hlt (by omega) (by rw [Array.getElem?_eq_getElem hes, hb]))⟩
            rw [hr] at this; cases this
        exact key j0 hj0 hjf
      refine ⟨fun h0 => absurd h0 hnr, fun i hi => ?_⟩
      obtain ⟨h0, o, ho, hed⟩ := mem_ready.1 hi
      have ho' : ops[i]? = some o := by simpa using ho
      have hil : i < ops.length := (List.getElem?_eq_some_iff.1 ho').1
      have edgeF : ∀ (o : Oper), ops[i]? = some o → ∀ j, hasEdge o j = true → listed[j]? = some true := fun q hq j he => by
        have hqo : q = o := by rw [hq] at ho'; simpa using ho'
        subst hqo
        unfold hasEdge at he
        rw [List.any_eq_true] at he
        obtain ⟨e, hm, he⟩ := he
        simp only [Bool.and_eq_true, beq_iff_eq] at he
        have h1 := hed e (by simpa using hm) he.2
        rw [he.1] at h1
        have hj2 : j < listed.size := by
          rcases Nat.lt_or_ge j listed.size with h9 | h9
          · exact h9
          · simp [Array.getD_eq_getD_getElem?, h9] at h1
        rw [Array.getElem?_eq_getElem hj2]
        simpa [Array.getD_eq_getD_getElem?, hj2] using h1
      have hin : i < n := by
        rcases Nat.lt_or_ge i n with h1 | h1
        · exact h1
        · exfalso
          rcases (okJ_spec hot ho').2.2 h1 with ⟨k, hk1, hk2, hk3⟩ | hjs
          · have := edgeF o ho' k hk3
            have h5 := hf k hk2 (by omega)
            rw [this] at h5; cases h5
          · exact hall fun j hj => by
              rcases hjs j hj with he | ⟨k, u, hk, hu, he1, he2⟩
              · exact edgeF o ho' j he
              · exact h.closed k u j (edgeF o ho' k he1) ((bodyAt k u hk).1 hu) he2
      have hob' : (ops.take n)[i]? = some o := (bodyAt i o hin).1 ho'
      have hjl : i < listed.size := by omega
      have hfi : listed[i]? = some false := by
        rw [Array.getElem?_eq_getElem hjl]
        simpa [Array.getD_eq_getD_getElem?, hjl] using h0
      have hGi : i < Gs.length := by omega
      obtain ⟨hgr, hob⟩ := hobs i o Gs[i] hob' (List.getElem?_eq_getElem hGi)
      have hg : ∀ (j : Nat) (F : VT), Gs[j]? = some F → Grows F := fun j F hj => by
        have hjo : j < (ops.take n).length := by rw [← hlen]; exact (List.getElem?_eq_some_iff.1 hj).1
        exact (hobs j (ops.take n)[j] F (List.getElem?_eq_getElem hjo) hj).1
      have edge := edgeF o ho'
      have cx : Cx (ops.take n) Gs w0 a0 i o a w := ⟨h.le, h.defers, h.size, h.old, fun j oj d G he h1 h2 h3 => h.done j oj d G (edge j he) h1 h2 h3, fun j oj d h1 he h2 => by
        refine h.todo j oj d ?_ h1 h2
        have hj3 : j < (ops.take n).length := (List.getElem?_eq_some_iff.1 h1).1
        have hj2 : j < listed.size := by omega
        cases hb : listed[j] with
        | false => rw [Array.getElem?_eq_getElem hj2, hb]
        | true =>
          exfalso
          have := h.closed j oj i (by rw [Array.getElem?_eq_getElem hj2, hb]) h1 he
          rw [hfi] at this; cases this⟩
      have hob2 := hob a w cx
      rw [wanted_take hin ((okJ_spec hot ho').2.1 hin)] at hob2
      have step : ∀ a' w', InvM (ops.take n) Gs w0 a0 (listed.setIfInBounds i true) a' w' → wpAny P .any ops.toArray Q fuel (listed.setIfInBounds i true) a' w' := fun a' w' h' =>
        ih _ a' w' h' (by simp [hs]) (fun j hj hjl2 => by rw [Array.getElem?_setIfInBounds_ne (by omega)]; exact hf j hj hjl2) (by have := unlisted_set hfi; omega)
      unfold wpOp
      simp only [ho]
      split
      · rename_i hw
        rw [if_pos hw] at hob2
        refine .inl (Oper.wp_noQ (Oper.wp_mono (fun a' w' h' => ?_) hob2))
        obtain ⟨v, rfl, hb, hv⟩ := h'
        exact step _ _ (h.put hok hg hb hob' edge fun G hG => by rw [List.getElem?_eq_getElem hGi] at hG; cases hG; exact hv)
      · rename_i hw
        rw [if_neg hw] at hob2
        exact step _ _ (h.put hok hg (Below.refl _ _) hob' edge fun G hG => by rw [List.getElem?_eq_getElem hGi] at hG; cases hG; exact hob2)


/-- The rule: the operations in the order π, the first n of them; what is left is the caller's. -/
theorem wp_region_MK {id : Nat} (π : List Nat) (n : Nat) (hl : π.length = ops.length) (hcov : ((List.range ops.length).all fun i => π.contains i) = true) (hm : P.follows .mixedOrders = true) (hp : okPerm π ops = true) (hok : okM a0.tmps.size 0 ((reOps π ops).take n) [] = true) (hot : (decide (n < (reOps π ops).length) && okJ n (reOps π ops)) = true)
    (h : MDerL P (reOps π ops) n w0 a0 Q ((reOps π ops).take n) []) : (Code.region id ops.toArray true).wp P Q a0 w0 := by
  rw [Bool.and_eq_true, decide_eq_true_iff] at hot
  obtain ⟨Gs, h1, h2, h3⟩ := MDer.all (Fs := []) h.fore [] rfl (by simp) (fun i o F hi => by simp at hi)
  refine wp_region_any hm ?_
  have hlr : (reOps π ops).length = ops.length := by simp [reOps, hl]
  have hu : unlisted (Array.replicate (reOps π ops).length false) = (reOps π ops).length := by simp [unlisted, List.countP_replicate]
  have := region_MK_any (Q := Q) hot.1 hok hot.2 h1 h2 h3 (reOps π ops).length (Array.replicate (reOps π ops).length false) a0 { w0 with drawn := w0.drawn + 1 }
    ⟨(Below.refl _ w0).drew, rfl, rfl, by simp [List.length_take]; omega, fun _ _ => rfl, fun j oj d G hj => by simp [Array.getElem?_replicate] at hj, fun j oj i hj => by simp [Array.getElem?_replicate] at hj, fun j oj d _ _ _ => rfl⟩ (by simp) (fun j _ hj => by simp [hj]) hu
  rw [hlr] at this
  have e : ops.toArray.size = ops.length := by simp
  rw [e]
  refine wpAny_re hp _ _ _ _ _ ⟨by simp, by simp [hl], fun p j hpj => ?_, fun i hi hn => ?_⟩ this
  · have hpl : p < π.length := (List.getElem?_eq_some_iff.1 hpj).1
    have hjl := (okPerm_spec hp hpj).2.1
    simp [hjl, hl ▸ hpl]
  · exfalso
    have h5 := List.all_eq_true.1 hcov i (List.mem_range.2 hi)
    exact hn (by simpa using h5)
end
end Go.Proofs.Ytjbakmmmgejhlaa

/-
  A region whose order is open, in which one operation takes a part out of a tuple, and a store need not wait for it.
-/
namespace Go.Proofs.Ytjbakmmmgejhlaa
open Go.RowKit

section
variable {P : Program} {ops : List Oper} {w0 : World} {a0 : Act} {Q : Exit → Act → World → Prop}
/-- The closed facts: what is left waits for one of its own, or, through at most one other, for all of the first n but u. -/
def okU (n u : Nat) (ops : List Oper) : Bool :=
  (List.range ops.length).all fun i => match ops[i]? with
    | none => false
    | some o => (!decide (i < n) || ((o.after.toList.all fun e => decide (e.on < i)) && (match o.guard with | none => true | some (j, _) => decide (j < i)))) &&
      (decide (i < n) || (List.range i).any (fun k => decide (n ≤ k) && hasEdge o k) || (List.range n).all fun j => j == u || hasEdge o j || (List.range n).any fun k => hasEdge o k && (match ops[k]? with | some q => hasEdge q j | none => false))
theorem okU_spec {n u : Nat} (h : okU n u ops = true) {i : Nat} {o : Oper} (hi : ops[i]? = some o) : (i < n → ∀ e ∈ o.after, e.on < i) ∧ (i < n → ∀ j b, o.guard = some (j, b) → j < i) ∧
    (n ≤ i → (∃ k, k < i ∧ n ≤ k ∧ hasEdge o k = true) ∨ ∀ j, j < n → j ≠ u → hasEdge o j = true ∨ ∃ k q, k < n ∧ ops[k]? = some q ∧ hasEdge o k = true ∧ hasEdge q j = true) := by
  have hl : i < ops.length := (List.getElem?_eq_some_iff.1 hi).1
  have := List.all_eq_true.1 h i (List.mem_range.2 hl)
  simp only [hi, Bool.and_eq_true] at this
  obtain ⟨h1, h3⟩ := this
  refine ⟨fun hin e he => ?_, fun hin j b hg => ?_, fun hin => ?_⟩
  · simp only [hin, decide_true, Bool.not_true, Bool.false_or, Bool.and_eq_true] at h1
    simpa using List.all_eq_true.1 h1.1 e (by simpa using he)
  · simp only [hin, decide_true, Bool.not_true, Bool.false_or, Bool.and_eq_true] at h1
    have h2 := h1.2
    rw [hg] at h2; simpa using h2
  · have hne : decide (i < n) = false := by rw [decide_eq_false_iff_not]; omega
    rw [hne, Bool.false_or, Bool.or_eq_true] at h3
    rcases h3 with h3 | h3
    · rw [List.any_eq_true] at h3
      obtain ⟨k, hk, hk2⟩ := h3
      rw [Bool.and_eq_true, decide_eq_true_iff] at hk2
      exact .inl ⟨k, List.mem_range.1 hk, hk2.1, hk2.2⟩
    · refine .inr fun j hj hju => ?_
      have h4 := List.all_eq_true.1 h3 j (List.mem_range.2 hj)
      rw [Bool.or_eq_true, Bool.or_eq_true] at h4
      rcases h4 with (h4 | h4) | h4
      · exact absurd (by simpa using h4) hju
      · exact .inl h4
      · rw [List.any_eq_true] at h4
        obtain ⟨k, hk, hk2⟩ := h4
        rw [Bool.and_eq_true] at hk2
        cases hq : ops[k]? with
        | none => rw [hq] at hk2; exact absurd hk2.2 (by simp)
        | some q => rw [hq] at hk2; exact .inr ⟨k, q, List.mem_range.1 hk, hq, hk2.1, hk2.2⟩
/-- The first n have come up, but for u. -/
def butN (u n len : Nat) : Array Bool := (firstN n len).setIfInBounds u false
def isExtract (ops : List Oper) (u : Nat) : Bool := match ops[u]? with
  | some o => (match o.guard with | none => true | some _ => false) && (match o.op with | .extract _ _ => true | _ => false)
  | none => false
theorem isExtract_spec {u : Nat} {o : Oper} (h : isExtract ops u = true) (ho : ops[u]? = some o) : o.guard = none ∧ ∃ t k, o.op = .extract t k := by
  unfold isExtract at h
  rw [ho, Bool.and_eq_true] at h
  refine ⟨?_, ?_⟩
  · cases hg : o.guard with
    | none => rfl
    | some g => rw [hg] at h; cases h.1
  · have h2 := h.2
    cases hop : o.op <;> rw [hop] at h2 <;> first | exact ⟨_, _, rfl⟩ | cases h2
theorem extract_pure {o : Oper} {a : Act} {w : World} {t : Operand} {k : Nat} {K : Act → World → Prop} (ho : o.op = .extract t k) (h : o.wp P a w K (fun _ _ _ => False)) : ∃ v, True ∧ ∀ w', (execOp a.eval o).run P w' = .ok (.value v) w' := by
  unfold Oper.wp at h
  generalize a.eval = ρ at h
  cases hρ : ρ t with
  | tuple vs =>
    cases hv : vs[k]? with
    | some v => exact ⟨v, trivial, fun w' => by simp [execOp, ho, hρ, hv, go_sem]⟩
    | none => exfalso; simp [execOp, ho, hρ, hv, go_sem, Oper.upon] at h
  | _ => exfalso; simp [execOp, ho, hρ, go_sem, Oper.upon] at h
theorem region_MU_any {n u : Nat} {Gs : List VT} (hn : n < ops.length) (hok : okM a0.tmps.size 0 (ops.take n) [] = true) (hot : okU n u ops = true) (hlen : Gs.length = (ops.take n).length)
    (hobs : ∀ (i : Nat) (o : Oper) (F : VT), (ops.take n)[i]? = some o → Gs[i]? = some F → Grows F ∧ Ob P (ops.take n) Gs w0 a0 i o F)
    (hend : ∀ w, Below w0.heap.size w0 w → EndM (fun _ a w => wpAny P .any ops.toArray Q (ops.length - n) (firstN n ops.length) a w) (dstsOf (ops.take n)) Gs a0 w)
    (hun : u < n) (hux : isExtract ops u = true) (hcu : (Region.noSelect ops.toArray && (Region.free .any ops.toArray (butN u n ops.length) u && (Region.ready .any ops.toArray (butN u n ops.length)).contains u)) = true)
    (hQp : ∀ c d v a w, Q (.panic c) (Act.put a d v) w → Q (.panic c) a w) :
    ∀ (fuel : Nat) (listed : Array Bool) (a : Act) (w : World), InvM (ops.take n) Gs w0 a0 listed a w → listed.size = ops.length → (∀ j, n ≤ j → j < ops.length → listed[j]? = some false) → unlisted listed = fuel → wpAny P .any ops.toArray Q fuel listed a w := by
  obtain ⟨s1, s2⟩ := okM_spec hok
  have htl : (ops.take n).length = n := by rw [List.length_take]; omega
  have bodyAt : ∀ j o, j < n → (ops[j]? = some o ↔ (ops.take n)[j]? = some o) := fun j o hj => by rw [List.getElem?_take, if_pos hj]
  intro fuel
  induction fuel with
  | zero =>
    intro listed a w h hs hf hu
    exfalso
    have h1 := hf n (Nat.le_refl _) hn
    have : 0 < unlisted listed := by
      unfold unlisted
      rw [List.countP_pos_iff]
      refine ⟨false, ?_, rfl⟩
      rw [← Array.getElem?_toList] at h1
      exact List.mem_of_getElem? h1
    omega
  | succ fuel ih =>
    intro listed a w h hs hf hu
    -- whether the body has all come up
    by_cases hall : ∀ j, j < n → listed[j]? = some true
    · -- what is left
      have e : listed = firstN n ops.length := by
        refine Array.ext (by simp [firstN]; omega) fun j h1 h2 => ?_
        have hl : listed[j]? = (firstN n ops.length)[j]? := by
          have hr : (firstN n ops.length)[j]? = if j < n then (if j < n then some true else none) else (if j - n < ops.length - n then some false else none) := by
            unfold firstN
            rw [List.getElem?_toArray, List.getElem?_append, List.length_replicate, List.getElem?_replicate, List.getElem?_replicate]
          rw [hr]
          by_cases hj : j < n
          · rw [if_pos hj, if_pos hj]; exact hall j hj
          · rw [if_neg hj, if_pos (by omega)]; exact hf j (by omega) (by omega)
        rw [Array.getElem?_eq_getElem h1, Array.getElem?_eq_getElem h2] at hl
        exact Option.some.inj hl
      have hQ : wpAny P .any ops.toArray Q (ops.length - n) (firstN n ops.length) a w := by
        refine endM_of (Q := fun _ a w => wpAny P .any ops.toArray Q (ops.length - n) (firstN n ops.length) a w) (ops.take n) Gs a0 (fun j o d F h1 h2 h3 => h.done j o d F (hall j (by have := (List.getElem?_eq_some_iff.1 h1).1; omega)) h1 h2 h3) hlen.symm (fun o ho => ?_) h.defers.symm h.size.symm (fun t ht => (h.old t ht).symm) (hend w h.le)
        obtain ⟨j, hj⟩ := List.getElem?_of_mem ho
        obtain ⟨⟨d, hd, _⟩, _⟩ := s1 j o hj
        rw [hd]; simp
      have hcount : unlisted listed = ops.length - n := by
        rw [e]
        unfold unlisted firstN
        simp [List.countP_append, List.countP_replicate]
      rw [← hu, hcount, e]
      exact hQ
    · by_cases hbut : ∀ j, j < n → j ≠ u → listed[j]? = some true
      · have hlu : listed[u]? = some false := by
          have hus : u < listed.size := by omega
          cases hb : listed[u] with
          | false => rw [Array.getElem?_eq_getElem hus, hb]
          | true => exact absurd (fun j hj => by by_cases e : j = u; · subst e; rw [Array.getElem?_eq_getElem hus, hb]
                                                 · exact hbut j hj e) hall
        have e : listed = butN u n ops.length := by
          refine Array.ext (by simp [butN, firstN]; omega) fun j h1 h2 => ?_
          have hl : listed[j]? = (butN u n ops.length)[j]? := by
            unfold butN
            by_cases hju : j = u
            · subst hju
              have : j < (firstN n ops.length).size := by simp [firstN]; omega
              rw [Array.getElem?_setIfInBounds_self, if_pos this]; exact hlu
            · rw [Array.getElem?_setIfInBounds_ne (fun e => hju e.symm)]
              have hr : (firstN n ops.length)[j]? = if j < n then (if j < n then some true else none) else (if j - n < ops.length - n then some false else none) := by
                unfold firstN
                rw [List.getElem?_toArray, List.getElem?_append, List.length_replicate, List.getElem?_replicate, List.getElem?_replicate]
              rw [hr]
              by_cases hj : j < n
              · rw [if_pos hj, if_pos hj]; exact hbut j hj hju
              · rw [if_neg hj, if_pos (by omega)]; exact hf j (by omega) (by omega)
          rw [Array.getElem?_eq_getElem h1, Array.getElem?_eq_getElem h2] at hl
          exact Option.some.inj hl
        have huo : ops[u]? = some ops[u] := List.getElem?_eq_getElem (by omega)
        have huo2 : (ops.take n)[u]? = some ops[u] := (bodyAt u _ hun).1 huo
        obtain ⟨hgd, t_, k_, hxo⟩ := isExtract_spec hux huo
        have hGi : u < Gs.length := by omega
        obtain ⟨hgr, hob⟩ := hobs u ops[u] Gs[u] huo2 (List.getElem?_eq_getElem hGi)
        have hg : ∀ (j : Nat) (F : VT), Gs[j]? = some F → Grows F := fun j F hj => by
          have hjo : j < (ops.take n).length := by rw [← hlen]; exact (List.getElem?_eq_some_iff.1 hj).1
          exact (hobs j (ops.take n)[j] F (List.getElem?_eq_getElem hjo) hj).1
        have edge : ∀ j, hasEdge ops[u] j = true → listed[j]? = some true := fun j he => by
          unfold hasEdge at he
          rw [List.any_eq_true] at he
          obtain ⟨e, hm, he⟩ := he
          simp only [Bool.and_eq_true, beq_iff_eq] at he
          have h9 := (okU_spec hot huo).1 hun e (by simpa using hm)
          rw [he.1] at h9
          exact hbut j (by omega) (by omega)
        have cx : Cx (ops.take n) Gs w0 a0 u ops[u] a w := ⟨h.le, h.defers, h.size, h.old, fun j oj d G he h1 h2 h3 => h.done j oj d G (edge j he) h1 h2 h3, fun j oj d h1 he h2 => by
          refine h.todo j oj d ?_ h1 h2
          have hj3 : j < (ops.take n).length := (List.getElem?_eq_some_iff.1 h1).1
          have hj2 : j < listed.size := by omega
          cases hb : listed[j] with
          | false => rw [Array.getElem?_eq_getElem hj2, hb]
          | true =>
            exfalso
            have := h.closed j oj u (by rw [Array.getElem?_eq_getElem hj2, hb]) h1 he
            rw [hlu] at this; cases this⟩
        have hob2 := hob a w cx
        rw [if_pos (by simp [Region.wanted, hgd])] at hob2
        obtain ⟨v, hv, hvk⟩ := extract_pure hxo hob2
        have hvk' := hvk
        unfold Oper.wp at hob2
        rw [hvk w] at hob2
        obtain ⟨v', e', hb', hF'⟩ := hob2
        have hinv : InvM (ops.take n) Gs w0 a0 (listed.setIfInBounds u true) (a.put ops[u].dst v) w := by
          rw [e']; exact h.put hok hg hb' huo2 edge fun G hG => by rw [List.getElem?_eq_getElem hGi] at hG; cases hG; exact hF'
        rw [← e] at hcu
        exact take_pure huo hgd hcu (fun c a w => hQp c _ _ a w) hvk' (ih _ _ _ hinv (by simp [hs]) (fun j hj hjl2 => by rw [Array.getElem?_setIfInBounds_ne (by omega)]; exact hf j hj hjl2) (by have := unlisted_set hlu; omega))
      -- the body
      have hex2 : ∃ j, j < n ∧ j ≠ u ∧ listed[j]? ≠ some true := by
        refine Classical.byContradiction fun hne => hbut fun j hj hju => ?_
        exact Classical.byContradiction fun h9 => hne ⟨j, hj, hju, h9⟩
      have hex : ∃ j, j < n ∧ listed[j]? = some false := by
        obtain ⟨j, hj, _, hne⟩ := hex2
        have hjs : j < listed.size := by omega
        refine ⟨j, hj, ?_⟩
        cases hb : listed[j] with
        | true => exact absurd (by rw [Array.getElem?_eq_getElem hjs, hb]) hne
        | false => rw [Array.getElem?_eq_getElem hjs, hb]
      have hnr : Region.ready .any ops.toArray listed ≠ [] := by
        obtain ⟨j0, hj0, hjf⟩ := hex
        have key : ∀ j, j < n → listed[j]? = some false → Region.ready .any ops.toArray listed ≠ [] := by
          intro j
          induction j using Nat.strongRecOn with
          | _ j ihj =>
            intro hj hjf hr
            have hjo : ops[j]? = some ops[j] := List.getElem?_eq_getElem (by omega)
            have : j ∈ Region.ready .any ops.toArray listed := mem_ready.2 ⟨by simp [Array.getD_eq_getD_getElem?, hjf], ops[j], by simp, fun e he _ => by
              have hlt := (okU_spec hot hjo).1 (by omega) e he
              have hes : e.on < listed.size := by omega
              cases hb : listed[e.on] with
              | true => simp [Array.getD_eq_getD_getElem?, hes, hb]
              | false => exact absurd hr (ihj e.on hlt (by omega) (by rw [Array.getElem?_eq_getElem hes, hb]))⟩
            rw [hr] at this; cases this
        exact key j0 hj0 hjf
      refine ⟨fun h0 => absurd h0 hnr, fun i hi => ?_⟩
      obtain ⟨h0, o, ho, hed⟩ := mem_ready.1 hi
      have ho' : ops[i]? = some o := by simpa using ho
      have hil : i < ops.length := (List.getElem?_eq_some_iff.1 ho').1
      have edgeF : ∀ (o : Oper), ops[i]? = some o → ∀ j, hasEdge o j = true → listed[j]? = some true := fun q hq j he => by
        have hqo : q = o := by rw [hq] at ho'; simpa using ho'
        subst hqo
        unfold hasEdge at he
        rw [List.any_eq_true] at he
        obtain ⟨e, hm, he⟩ := he
        simp only [Bool.and_eq_true, beq_iff_eq] at he
        have h1 := hed e (by simpa using hm) he.2
        rw [he.1] at h1
        have hj2 : j < listed.size := by
          rcases Nat.lt_or_ge j listed.size with h9 | h9
          · exact h9
          · simp [Array.getD_eq_getD_getElem?, h9] at h1
        rw [Array.getElem?_eq_getElem hj2]
        simpa [Array.getD_eq_getD_getElem?, hj2] using h1
      have hin : i < n := by
        rcases Nat.lt_or_ge i n with h1 | h1
        · exact h1
        · exfalso
          rcases (okU_spec hot ho').2.2 h1 with ⟨k, hk1, hk2, hk3⟩ | hjs
          · have := edgeF o ho' k hk3
            have h5 := hf k hk2 (by omega)
            rw [this] at h5; cases h5
          · obtain ⟨j, hj, hju, hne⟩ := hex2
            refine hne ?_
            rcases hjs j hj hju with he | ⟨k, q, hk, hq, he1, he2⟩
            · exact edgeF o ho' j he
            · exact h.closed k q j (edgeF o ho' k he1) ((bodyAt k q hk).1 hq) he2
      have hob' : (ops.take n)[i]? = some o := (bodyAt i o hin).1 ho'
      have hjl : i < listed.size := by omega
      have hfi : listed[i]? = some false := by
        rw [Array.getElem?_eq_getElem hjl]
        simpa [Array.getD_eq_getD_getElem?, hjl] using h0
      have hGi : i < Gs.length := by omega
      obtain ⟨hgr, hob⟩ := hobs i o Gs[i] hob' (List.getElem?_eq_getElem hGi)
      have hg : ∀ (j : Nat) (F : VT), Gs[j]? = some F → Grows F := fun j F hj => by
        have hjo : j < (ops.take n).length := by rw [← hlen]; exact (List.getElem?_eq_some_iff.1 hj).1
        exact (hobs j (ops.take n)[j] F (List.getElem?_eq_getElem hjo) hj).1
      have edge := edgeF o ho'
      have cx : Cx (ops.take n) Gs w0 a0 i o a w := ⟨h.le, h.defers, h.size, h.old, fun j oj d G he h1 h2 h3 => h.done j oj d G (edge j he) h1 h2 h3, fun j oj d h1 he h2 => by
        refine h.todo j oj d ?_ h1 h2
        have hj3 : j < (ops.take n).length := (List.getElem?_eq_some_iff.1 h1).1
        have hj2 : j < listed.size := by omega
        cases hb : listed[j] with
        | false => rw [Array.getElem?_eq_getElem hj2, hb]
        | true =>
          exfalso
          have := h.closed j oj i (by rw [Array.getElem?_eq_getElem hj2, hb]) h1 he
          rw [hfi] at this; cases this⟩
      have hob2 := hob a w cx
      rw [wanted_take hin ((okU_spec hot ho').2.1 hin)] at hob2
      have step : ∀ a' w', InvM (ops.take n) Gs w0 a0 (listed.setIfInBounds i true) a' w' → wpAny P .any ops.toArray Q fuel (listed.setIfInBounds i true) a' w' := fun a' w' h' =>
        ih _ a' w' h' (by simp [hs]) (fun j hj hjl2 => by rw [Array.getElem?_setIfInBounds_ne (by omega)]; exact hf j hj hjl2) (by have := unlisted_set hfi; omega)
      unfold wpOp
      simp only [ho]
      split
      · rename_i hw
        rw [if_pos hw] at hob2
        refine .inl (Oper.wp_noQ (Oper.wp_mono (fun a' w' h' => ?_) hob2))
        obtain ⟨v, rfl, hb, hv⟩ := h'
        exact step _ _ (h.put hok hg hb hob' edge fun G hG => by rw [List.getElem?_eq_getElem hGi] at hG; cases hG; exact hv)
      · rename_i hw
        rw [if_neg hw] at hob2
        exact step _ _ (h.put hok hg (Below.refl _ _) hob' edge fun G hG => by rw [List.getElem?_eq_getElem hGi] at hG; cases hG; exact hob2)


/-- An operation with the edges alone that bind here. -/
def bare (o : Oper) : Oper := { o with after := (o.after.toList.filter fun e => Region.binds .any e).toArray }
theorem ready_bare {l : Array Bool} {j : Nat} : j ∈ Region.ready .any (ops.map bare).toArray l ↔ j ∈ Region.ready .any ops.toArray l := by
  rw [mem_ready, mem_ready]
  refine and_congr_right fun _ => ?_
  simp only [List.getElem?_toArray, List.getElem?_map]
  cases ops[j]? with
  | none => simp
  | some o =>
    simp only [Option.map_some, Option.some.injEq, exists_eq_left']
    constructor
    · intro h e he hb
      exact h e (by simp [bare, he, hb]) hb
    · intro h e he hb
      exact h e (by simp [bare] at he; exact he.1) hb
theorem wpOp_bare {i : Nat} {K : Act → World → Prop} {a : Act} {w : World} (h : wpOp P (ops.map bare).toArray Q i K a w) : wpOp P ops.toArray Q i K a w := by
  unfold wpOp at *
  simp only [List.getElem?_toArray, List.getElem?_map] at h ⊢
  cases ho : ops[i]? with
  | none => rw [ho] at h; exact h
  | some o =>
    rw [ho] at h
    simp only [Option.map_some] at h
    have hw : Region.wanted (bare o) (yielded (ops.map bare).toArray a.tmps) = Region.wanted o (yielded ops.toArray a.tmps) := by
      unfold Region.wanted
      cases hgd : o.guard with
      | none => simp [bare, hgd]
      | some g =>
        obtain ⟨k, b⟩ := g
        cases hk : ops[k]? with
        | none => simp [bare, hgd, yielded, hk]
        | some q => simp [bare, hgd, yielded, hk]
    have e1 : (bare o).wp P a w K Q = o.wp P a w K Q := by
      have e : execOp a.eval (bare o) = execOp a.eval o := rfl
      unfold Oper.wp
      rw [e]
      generalize (execOp a.eval o).run P w = r
      cases r with
      | ok n w' => cases n <;> rfl
      | halt x w' => cases x <;> rfl
    have e2 : (bare o).asks P a w = o.asks P a w := rfl
    rw [hw, e1, e2] at h
    exact h
theorem ready_bare_nil {l : Array Bool} : Region.ready .any (ops.map bare).toArray l = [] ↔ Region.ready .any ops.toArray l = [] := by
  constructor
  · intro h
    refine List.eq_nil_iff_forall_not_mem.2 fun j hj => ?_
    have h9 := ready_bare.2 hj
    rw [h] at h9
    cases h9
  · intro h
    refine List.eq_nil_iff_forall_not_mem.2 fun j hj => ?_
    have h9 := ready_bare.1 hj
    rw [h] at h9
    cases h9
theorem wpAny_bare : ∀ (fuel : Nat) (l : Array Bool) (a : Act) (w : World), wpAny P .any (ops.map bare).toArray Q fuel l a w → wpAny P .any ops.toArray Q fuel l a w
  | 0, _, _, _, h => ⟨ready_bare_nil.1 h.1, h.2⟩
  | fuel + 1, _, _, _, h => ⟨fun hr => h.1 (ready_bare_nil.2 hr), fun i hi => wpOp_bare (wpOp_mono (fun a' w' h' => wpAny_bare fuel _ a' w' h') (h.2 i (ready_bare.2 hi)))⟩
/-- The rule: the operations in the order π, the first n of them, of which u takes a part out of a tuple; what is left is the caller's. -/
theorem wp_region_MU {id : Nat} (π : List Nat) (n u : Nat) (hl : π.length = ops.length) (hcov : ((List.range ops.length).all fun i => π.contains i) = true) (hm : P.follows .mixedOrders = true) (hp : okPerm π ops = true) (hok : okM a0.tmps.size 0 (((reOps π ops).map bare).take n) [] = true) (hot : (decide (n < ((reOps π ops).map bare).length) && okU n u ((reOps π ops).map bare)) = true)
    (hun : u < n) (hux : isExtract ((reOps π ops).map bare) u = true) (hcu : (Region.noSelect ((reOps π ops).map bare).toArray && (Region.free .any ((reOps π ops).map bare).toArray (butN u n ((reOps π ops).map bare).length) u && (Region.ready .any ((reOps π ops).map bare).toArray (butN u n ((reOps π ops).map bare).length)).contains u)) = true)
    (hQp : ∀ c d v a w, Q (.panic c) (Act.put a d v) w → Q (.panic c) a w)
    (h : MDerL P ((reOps π ops).map bare) n w0 a0 Q (((reOps π ops).map bare).take n) []) : (Code.region id ops.toArray true).wp P Q a0 w0 := by
  rw [Bool.and_eq_true, decide_eq_true_iff] at hot
  obtain ⟨Gs, h1, h2, h3⟩ := MDer.all (Fs := []) h.fore [] rfl (by simp) (fun i o F hi => by simp at hi)
  refine wp_region_any hm ?_
  have hlr : ((reOps π ops).map bare).length = ops.length := by simp [reOps, hl]
  have hu : unlisted (Array.replicate ((reOps π ops).map bare).length false) = ((reOps π ops).map bare).length := by simp [unlisted, List.countP_replicate]
  have := region_MU_any (Q := Q) hot.1 hok hot.2 h1 h2 h3 hun hux hcu hQp ((reOps π ops).map bare).length (Array.replicate ((reOps π ops).map bare).length false) a0 { w0 with drawn := w0.drawn + 1 }
    ⟨(Below.refl _ w0).drew, rfl, rfl, by simp [List.length_take]; omega, fun _ _ => rfl, fun j oj d G hj => by simp [Array.getElem?_replicate] at hj, fun j oj i hj => by simp [Array.getElem?_replicate] at hj, fun j oj d _ _ _ => rfl⟩ (by simp) (fun j _ hj => by rw [Array.getElem?_replicate, if_pos hj]) hu
  rw [hlr] at this
  have e : ops.toArray.size = ops.length := by simp
  rw [e]
  have this2 := wpAny_bare _ _ _ _ this
  refine wpAny_re hp _ (Array.replicate ops.length false) (Array.replicate ops.length false) _ _ ⟨by simp, by simp [hl], fun p j hpj => ?_, fun i hi hn => ?_⟩ this2
  · have hpl : p < π.length := (List.getElem?_eq_some_iff.1 hpj).1
    have hjl := (okPerm_spec hp hpj).2.1
    simp [hjl, hl ▸ hpl]
  · exfalso
    have h5 := List.all_eq_true.1 hcov i (List.mem_range.2 hi)
    exact hn (by simpa using h5)
theorem wp_store_to {o : Oper} {a : Act} {w w' : World} {K : Act → World → Prop} {ty : TypeId} {x y : Operand} {p v : Value} (ho : o.op = .store ty x y) (hd : o.dst = none) (hx : a.eval x = p) (hy : a.eval y = v) (e : (Instr.storeAt ty p v).run P w = .ok () w') (h : K a w') : o.wp P a w K Q := by
  unfold Oper.wp
  generalize a.eval = ρ at hx hy
  have : (execOp ρ o).run P w = .ok .skip w' := by simp [execOp, ho, hx, hy, e]
  rw [this]
  show K (a.put o.dst undef) w'
  rw [hd]; exact h
theorem wp_assign_to {o : Oper} {a : Act} {w : World} {K : Act → World → Prop} {x : Operand} {d : Tmp} {v : Value} (ho : o.op = .assign x) (hd : o.dst = some d) (hx : a.eval x = v) (h : K (a.put (some d) v) w) : o.wp P a w K Q := by
  unfold Oper.wp
  generalize a.eval = ρ at hx
  have : (execOp ρ o).run P w = .ok (.value v) w := by simp [execOp, ho, hx]
  rw [this]
  show K (a.put o.dst v) w
  rw [hd]; exact h
end
end Go.Proofs.Ytjbakmmmgejhlaa

/-
  A region whose order is open, some of whose operations write: those come up in one order, each behind the other; the rest as in XM.
  A relation of worlds (what may have changed), an invariant, and a state that the writing operations carry from one to the next.
-/
namespace Go.Proofs.Ytjbakmmmgejhlaa
open Go.RowKit

/-- What may change: S from world to world; I holds throughout. -/
structure Steps where
  I : World → Prop
  S : World → World → Prop
  refl : ∀ {w}, I w → S w w
  trans : ∀ {a b c}, S a b → S b c → S a c
  inv : ∀ {w w'}, I w → S w w' → I w'
  below : ∀ {w w'}, I w → Below w.heap.size w w' → S w w'

/-- A property of a value that stays true along S. -/
class Stays (R : Steps) (F : VT) : Prop where
  up : ∀ {w w' : World} {v : Value}, R.I w → R.S w w' → F w v → F w' v
instance (R : Steps) (x : Value) : Stays R (Is x) := ⟨fun _ _ h => h⟩

/-- What is to be shown of a writing operation. -/
def ObS (P : Program) (ops : List Oper) (R : Steps) (Ψ : World → Prop) (Fs : List VT) (w0 : World) (a0 : Act) (i : Nat) (o : Oper) (F : VT) : Prop :=
  ∀ a, Cx ops Fs w0 a0 i o a w0 →
    if Region.wanted o (yielded ops.toArray a.tmps) = true then o.wp P a w0 (fun a' w' => ∃ v, a' = a.put o.dst v ∧ R.S w0 w' ∧ Ψ w' ∧ F w' v) (fun _ _ _ => False) else Ψ w0 ∧ F w0 undef

section
variable {P : Program} {ops : List Oper} {w0 : World} {a0 : Act} {Q : Exit → Act → World → Prop} {R : Steps} {Φ : Nat → World → Prop} {E : List Nat}

/-- The obligation of operation i. -/
def ObX (P : Program) (ops : List Oper) (R : Steps) (Φ : Nat → World → Prop) (E : List Nat) (w0 : World) (a0 : Act) (Fs : List VT) (i : Nat) (o : Oper) (F : VT) : Prop :=
  (E.idxOf? i = none → ∀ w, R.S w0 w → R.I w → Ob P ops Fs w a0 i o F) ∧ ∀ k, E.idxOf? i = some k → ∀ w, R.S w0 w → R.I w → Φ k w → ObS P ops R (Φ (k + 1)) Fs w a0 i o F

/-- The walk, the newest property first. -/
def MDerS (P : Program) (ops : List Oper) (R : Steps) (Φ : Nat → World → Prop) (E : List Nat) (w0 : World) (a0 : Act) (Q : Exit → Act → World → Prop) : List Oper → List VT → Prop
  | o :: os, RF => ∃ F : VT, Stays R F ∧ ObX P ops R Φ E w0 a0 RF.reverse RF.length o F ∧ MDerS P ops R Φ E w0 a0 Q os (F :: RF)
  | [], RF => ∀ w, R.S w0 w → R.I w → Φ E.length w → EndM Q (dstsOf ops) RF.reverse a0 w
theorem MDerS.step {o : Oper} {os : List Oper} {RF : List VT} {F : VT} [hF : Stays R F] (hE : E.idxOf? RF.length = none) (h : ∀ w, R.S w0 w → R.I w → Ob P ops RF.reverse w a0 RF.length o F) (k : MDerS P ops R Φ E w0 a0 Q os (F :: RF)) : MDerS P ops R Φ E w0 a0 Q (o :: os) RF :=
  ⟨F, hF, ⟨fun _ => h, fun k hk => by rw [hE] at hk; cases hk⟩, k⟩
theorem MDerS.write {o : Oper} {os : List Oper} {RF : List VT} {F : VT} [hF : Stays R F] (j : Nat) (hE : E.idxOf? RF.length = some j) (h : ∀ w, R.S w0 w → R.I w → Φ j w → ObS P ops R (Φ (j + 1)) RF.reverse w a0 RF.length o F) (k : MDerS P ops R Φ E w0 a0 Q os (F :: RF)) : MDerS P ops R Φ E w0 a0 Q (o :: os) RF :=
  ⟨F, hF, ⟨fun hn => (by rw [hE] at hn; cases hn), fun k hk => by rw [hE] at hk; cases hk; exact h⟩, k⟩

theorem ObX.weak {Fs : List VT} {F G : VT} {i : Nat} {o : Oper} (h : ObX P ops R Φ E w0 a0 Fs i o G) : ObX P ops R Φ E w0 a0 (Fs ++ [F]) i o G := by
  have hc : ∀ {u : World} {a : Act} {w : World}, Cx ops (Fs ++ [F]) u a0 i o a w → Cx ops Fs u a0 i o a w := fun cx =>
    ⟨cx.le, cx.defers, cx.size, cx.old, fun j oj d G' he h1 h2 h3 => cx.new j oj d G' he h1 h2 (by rw [List.getElem?_append_left (List.getElem?_eq_some_iff.1 h3).1]; exact h3), cx.late⟩
  exact ⟨fun hE w hS hI a w' cx => h.1 hE w hS hI a w' (hc cx), fun k hk w hS hI hΦ a cx => h.2 k hk w hS hI hΦ a (hc cx)⟩

theorem MDerS.all : ∀ {os : List Oper} {RF : List VT} (_ : MDerS P ops R Φ E w0 a0 Q os RF) (pre : List Oper) (_ : pre.length = RF.length) (_ : ops = pre ++ os) (_ : ∀ (i : Nat) (o : Oper) (F : VT), pre[i]? = some o → RF.reverse[i]? = some F → Stays R F ∧ ObX P ops R Φ E w0 a0 RF.reverse i o F),
    ∃ Gs : List VT, Gs.length = ops.length ∧ (∀ (i : Nat) (o : Oper) (F : VT), ops[i]? = some o → Gs[i]? = some F → Stays R F ∧ ObX P ops R Φ E w0 a0 Gs i o F) ∧ ∀ w, R.S w0 w → R.I w → Φ E.length w → EndM Q (dstsOf ops) Gs a0 w
  | [], RF, h, pre, hl, ho, hp => by
    refine ⟨RF.reverse, by rw [ho]; simp [hl], fun i o F hi hF => hp i o F (by rw [ho] at hi; simpa using hi) hF, h⟩
  | o :: os, RF, ⟨F, hF, hob, k⟩, pre, hl, ho, hp => by
    refine MDerS.all k (pre ++ [o]) (by simp [hl]) (by simp [ho]) (fun i q G hi hG => ?_)
    rw [List.reverse_cons] at hG ⊢
    rcases Nat.lt_or_ge i pre.length with hlt | hge
    · rw [List.getElem?_append_left hlt] at hi
      rw [List.getElem?_append_left (by simp; omega)] at hG
      obtain ⟨g1, g2⟩ := hp i q G hi hG
      exact ⟨g1, g2.weak⟩
    · have hi' : i = pre.length := by
        have := (List.getElem?_eq_some_iff.1 hi).1
        simp at this; omega
      subst hi'
      rw [List.getElem?_append_right (by simp; omega)] at hG
      simp [hl] at hG
      simp at hi
      subst hi; subst hG
      exact ⟨hF, by rw [hl]; exact hob.weak⟩

/-- Operation j comes up ahead of operation i, through edges. -/
def reaches (ops : List Oper) : Nat → Nat → Nat → Bool
  | 0, _, _ => false
  | fuel + 1, i, j => match ops[i]? with
    | none => false
    | some o => hasEdge o j || (List.range i).any fun k => hasEdge o k && reaches ops fuel k j
/-- The closed facts on the writing operations: each comes up behind the one before it. -/
def okE (ops : List Oper) : List Nat → Bool
  | e :: f :: r => decide (e < f) && decide (f < ops.length) && reaches ops ops.length f e && okE ops (f :: r)
  | [e] => decide (e < ops.length)
  | [] => true
theorem okE_lt : ∀ {E : List Nat} {j e f : Nat}, okE ops E = true → E[j]? = some e → E[j + 1]? = some f → e < f ∧ reaches ops ops.length f e = true
  | [], _, _, _, _, h, _ => by simp at h
  | [_], 0, _, _, _, _, h => by simp at h
  | [_], j + 1, _, _, _, h, _ => by simp at h
  | a :: b :: r, 0, e, f, ok, h1, h2 => by
    simp at h1 h2; subst h1; subst h2
    simp only [okE, Bool.and_eq_true, decide_eq_true_eq] at ok
    exact ⟨ok.1.1.1, ok.1.2⟩
  | a :: b :: r, j + 1, e, f, ok, h1, h2 => by
    simp only [okE, Bool.and_eq_true] at ok
    exact okE_lt (E := b :: r) (j := j) ok.2 (by simpa using h1) (by simpa using h2)
theorem okE_in : ∀ {E : List Nat} {e : Nat}, okE ops E = true → e ∈ E → e < ops.length
  | [], _, _, h => nomatch h
  | [a], e, ok, h => by rw [List.mem_singleton.1 h]; simpa [okE] using ok
  | a :: b :: r, e, ok, h => by
    simp only [okE, Bool.and_eq_true, decide_eq_true_eq] at ok
    rcases List.mem_cons.1 h with rfl | h
    · omega
    · exact okE_in (E := b :: r) ok.2 h
theorem reaches_listed {listed : Array Bool} (hc : ∀ (j : Nat) (oj : Oper) (i : Nat), listed[j]? = some true → ops[j]? = some oj → hasEdge oj i = true → listed[i]? = some true) :
    ∀ (fuel i j : Nat) (o : Oper), ops[i]? = some o → (∀ k, hasEdge o k = true → listed[k]? = some true) → reaches ops fuel i j = true → listed[j]? = some true
  | 0, _, _, _, _, _, h => by simp [reaches] at h
  | fuel + 1, i, j, o, ho, he, h => by
    simp only [reaches, ho, Bool.or_eq_true, List.any_eq_true, Bool.and_eq_true] at h
    rcases h with h | ⟨k, _, h1, h2⟩
    · exact he j h
    · have hk := he k h1
      cases hok : ops[k]? with
      | none => cases fuel <;> simp [reaches, hok] at h2
      | some q => exact reaches_listed hc fuel k j q hok (fun m hm => hc k q m hk hok hm) h2
/-- They have come up one behind the other. -/
def Upto (E : List Nat) (listed : Array Bool) (k : Nat) : Prop := k ≤ E.length ∧ ∀ j e, E[j]? = some e → (listed[e]? = some true ↔ j < k)
theorem upto_at {listed : Array Bool} {k i j : Nat} {o : Oper} (ok : okE ops E = true) (hu : Upto E listed k) (hi : listed[i]? = some false) (ho : ops[i]? = some o) (hj : E.idxOf? i = some j) (hc : ∀ (j : Nat) (oj : Oper) (i : Nat), listed[j]? = some true → ops[j]? = some oj → hasEdge oj i = true → listed[i]? = some true)
    (he : ∀ m, hasEdge o m = true → listed[m]? = some true) : j = k := by
  have hEj : E[j]? = some i := by
    have := List.of_findIdx?_eq_some (p := (· == i)) (xs := E) (i := j) (by simpa [List.idxOf?] using hj)
    cases h : E[j]? with
    | none => rw [h] at this; simp at this
    | some x => rw [h] at this; simp at this; rw [this]
  have h1 := (hu.2 j i hEj)
  rw [hi] at h1
  have h2 : ¬ j < k := fun h => by have := h1.2 h; simp at this
  rcases Nat.lt_or_ge k j with h3 | h3
  · exfalso
    obtain ⟨e0, hp⟩ : ∃ e0, E[j - 1]? = some e0 := ⟨_, List.getElem?_eq_getElem (by have := (List.getElem?_eq_some_iff.1 hEj).1; omega)⟩
    obtain ⟨_, hr⟩ := okE_lt ok hp (by rw [show j - 1 + 1 = j by omega]; exact hEj)
    have h4 := reaches_listed hc _ _ _ o ho he hr
    have := (hu.2 (j - 1) _ hp).1 h4
    omega
  · omega
theorem okE_mono (ok : okE ops E = true) : ∀ {i j e f : Nat}, E[i]? = some e → E[j]? = some f → i < j → e < f := by
  intro i j
  induction j with
  | zero => intro e f _ _ h; omega
  | succ j ih =>
    intro e f h1 h2 h
    obtain ⟨e0, hp⟩ : ∃ e0, E[j]? = some e0 := ⟨_, List.getElem?_eq_getElem (by have := (List.getElem?_eq_some_iff.1 h2).1; omega)⟩
    have h3 := (okE_lt ok hp h2).1
    rcases Nat.lt_or_ge i j with h4 | h4
    · have := ih h1 hp h4; omega
    · have : i = j := by omega
      subst this; rw [hp] at h1; cases h1; exact h3
theorem Upto.next {listed : Array Bool} {k i : Nat} (ok : okE ops E = true) (hs : i < listed.size) (hu : Upto E listed k) (hEk : E[k]? = some i) : Upto E (listed.setIfInBounds i true) (k + 1) := by
  refine ⟨(List.getElem?_eq_some_iff.1 hEk).1, fun j e hj => ?_⟩
  by_cases hei : i = e
  · subst hei
    have : j = k := by
      rcases Nat.lt_trichotomy j k with h | h | h
      · have := okE_mono ok hj hEk h; omega
      · exact h
      · have := okE_mono ok hEk hj h; omega
    subst this
    simp [hs]
  · rw [Array.getElem?_setIfInBounds_ne hei, hu.2 j e hj]
    refine ⟨fun h => by omega, fun h => ?_⟩
    rcases Nat.lt_or_ge j k with h1 | h1
    · exact h1
    · have : j = k := by omega
      subst this; rw [hEk] at hj; cases hj; exact absurd rfl hei
theorem Upto.free {listed : Array Bool} {k i : Nat} (hu : Upto E listed k) (hE : E.idxOf? i = none) : Upto E (listed.setIfInBounds i true) k := by
  refine ⟨hu.1, fun j e hj => ?_⟩
  have hei : i ≠ e := fun h => by
    subst h
    have hm := List.mem_of_getElem? hj
    rw [List.idxOf?_eq_none_iff] at hE
    exact hE hm
  rw [Array.getElem?_setIfInBounds_ne hei]
  exact hu.2 j e hj

/-- The state while the region runs. -/
structure InvS (ops : List Oper) (R : Steps) (Φ : Nat → World → Prop) (E : List Nat) (Gs : List VT) (w0 : World) (a0 : Act) (listed : Array Bool) (a : Act) (w : World) : Prop where
  le : R.S w0 w
  inv : R.I w
  at_ : ∃ k, Upto E listed k ∧ Φ k w
  defers : a.defers = a0.defers
  size : a.tmps.size = a0.tmps.size
  lsize : ops.length ≤ listed.size
  old : ∀ t, some t ∉ dstsOf ops → a.tmps.getD t undef = a0.tmps.getD t undef
  done : ∀ (j : Nat) (oj : Oper) (d : Tmp) (G : VT), listed[j]? = some true → ops[j]? = some oj → oj.dst = some d → Gs[j]? = some G → G w (a.tmps.getD d undef)
  closed : ∀ (j : Nat) (oj : Oper) (i : Nat), listed[j]? = some true → ops[j]? = some oj → hasEdge oj i = true → listed[i]? = some true
  todo : ∀ (j : Nat) (oj : Oper) (d : Tmp), listed[j]? = some false → ops[j]? = some oj → oj.dst = some d → a.tmps.getD d undef = a0.tmps.getD d undef

theorem InvS.put {Gs : List VT} {listed : Array Bool} {a : Act} {w w' : World} (hok : okM a0.tmps.size 0 ops [] = true) (hg : ∀ (i : Nat) (F : VT), Gs[i]? = some F → Stays R F) (h : InvS ops R Φ E Gs w0 a0 listed a w) (hb : R.S w w')
    {i : Nat} {o : Oper} {v : Value} (hi : ops[i]? = some o) (hat : ∃ k, Upto E (listed.setIfInBounds i true) k ∧ Φ k w') (hed : ∀ j, hasEdge o j = true → listed[j]? = some true) (hv : ∀ G, Gs[i]? = some G → G w' v) : InvS ops R Φ E Gs w0 a0 (listed.setIfInBounds i true) (a.put o.dst v) w' := by
  obtain ⟨s1, s2⟩ := okM_spec hok
  obtain ⟨⟨d, hd, hdn, _⟩, _⟩ := s1 i o hi
  have hil : i < ops.length := (List.getElem?_eq_some_iff.1 hi).1
  have hls : i < listed.size := Nat.lt_of_lt_of_le hil h.lsize
  rw [hd]
  refine ⟨R.trans h.le hb, R.inv h.inv hb, hat, h.defers, by simp [Act.put, h.size], by simpa using h.lsize, fun t ht => ?_, fun j oj dj G hj ho hdj hG => ?_, fun j oj dj hj ho hdj => ?_, fun j oj dj hj ho hdj => ?_⟩
  · rw [getD_put, if_neg, h.old t ht]
    rintro ⟨rfl, _⟩
    exact ht (List.mem_map.2 ⟨o, List.mem_of_getElem? hi, hd⟩)
  · by_cases hji : j = i
    · subst hji
      rw [hi] at ho; cases ho
      rw [hd] at hdj; cases hdj
      rw [getD_put, if_pos ⟨rfl, by rw [h.size]; exact hdn⟩]
      exact hv G hG
    · rw [Array.getElem?_setIfInBounds_ne (fun e => hji e.symm)] at hj
      rw [getD_put, if_neg]
      · exact (hg j G hG).up h.inv hb (h.done j oj dj G hj ho hdj hG)
      · rintro ⟨rfl, _⟩
        exact hji (s2 j i oj o ho hi (hdj.trans hd.symm))
  · have tr : ∀ k : Nat, listed[k]? = some true → (listed.setIfInBounds i true)[k]? = some true := fun k hk => by
      by_cases hki : i = k
      · subst hki; simp [hls]
      · rw [Array.getElem?_setIfInBounds_ne hki]; exact hk
    by_cases hji : j = i
    · subst hji
      rw [hi] at ho; cases ho
      exact tr _ (hed _ hdj)
    · rw [Array.getElem?_setIfInBounds_ne (fun e => hji e.symm)] at hj
      exact tr _ (h.closed j oj dj hj ho hdj)
  · by_cases hji : j = i
    · subst hji
      simp [hls] at hj
    · rw [Array.getElem?_setIfInBounds_ne (fun e => hji e.symm)] at hj
      rw [getD_put, if_neg]
      · exact h.todo j oj dj hj ho hdj
      · rintro ⟨rfl, _⟩
        exact hji (s2 j i oj o ho hi (hdj.trans hd.symm))

theorem region_S_any {Gs : List VT} (hok : okM a0.tmps.size 0 ops [] = true) (hE : okE ops E = true) (hΦ : ∀ k w w', R.I w → Below w.heap.size w w' → Φ k w → Φ k w') (hlen : Gs.length = ops.length)
    (hobs : ∀ (i : Nat) (o : Oper) (F : VT), ops[i]? = some o → Gs[i]? = some F → Stays R F ∧ ObX P ops R Φ E w0 a0 Gs i o F)
    (hend : ∀ w, R.S w0 w → R.I w → Φ E.length w → EndM Q (dstsOf ops) Gs a0 w) : ∀ (fuel : Nat) (listed : Array Bool) (a : Act) (w : World), InvS ops R Φ E Gs w0 a0 listed a w → unlisted listed = fuel → wpAny P .any ops.toArray Q fuel listed a w := by
  obtain ⟨s1, s2⟩ := okM_spec hok
  have fin : ∀ (listed : Array Bool) (a : Act) (w : World), InvS ops R Φ E Gs w0 a0 listed a w → Region.ready .any ops.toArray listed = [] → Q .normal a w := by
    intro listed a w h hr
    have all : ∀ j, j < ops.length → listed[j]? = some true := by
      intro j
      induction j using Nat.strongRecOn with
      | _ j ih =>
        intro hj
        have hs : j < listed.size := Nat.lt_of_lt_of_le hj h.lsize
        cases hb : listed[j] with
        | true => rw [Array.getElem?_eq_getElem hs, hb]
        | false =>
          exfalso
          have : j ∈ Region.ready .any ops.toArray listed := mem_ready.2 ⟨by simp [Array.getD_eq_getD_getElem?, hs, hb], ops[j], by simp [hj], fun e he _ => by
            have := (s1 j ops[j] (List.getElem?_eq_getElem hj)).2 e he
            have h2 := ih e.on (by omega) (by omega)
            simp [Array.getD_eq_getD_getElem?, h2]⟩
          rw [hr] at this
          cases this
    have hEnd : Φ E.length w := by
      obtain ⟨k, hu, hk⟩ := h.at_
      have : k = E.length := by
        rcases Nat.lt_or_ge k E.length with h1 | h1
        · have := (hu.2 k E[k] (List.getElem?_eq_getElem h1)).1 (all _ (okE_in hE (List.getElem_mem h1)))
          omega
        · have := hu.1; omega
      rw [← this]; exact hk
    refine endM_of ops Gs a0 (fun j o d F h1 h2 h3 => h.done j o d F (all j (List.getElem?_eq_some_iff.1 h1).1) h1 h2 h3) hlen.symm (fun o ho => ?_) h.defers.symm h.size.symm (fun t ht => (h.old t ht).symm) (hend w h.le h.inv hEnd)
    obtain ⟨j, hj⟩ := List.getElem?_of_mem ho
    obtain ⟨⟨d, hd, _⟩, _⟩ := s1 j o hj
    rw [hd]; simp
  intro fuel
  induction fuel with
  | zero =>
    intro listed a w h hu
    have hr : Region.ready .any ops.toArray listed = [] := by
      rw [List.eq_nil_iff_forall_not_mem]
      intro j hj
      obtain ⟨h0, o, ho, _⟩ := mem_ready.1 hj
      have hjl : j < listed.size := by have := (Array.getElem?_eq_some_iff.1 ho).1; have h2 := h.lsize; simp at this; omega
      have hf : listed[j] = false := by simpa [Array.getD_eq_getD_getElem?, hjl] using h0
      have : 0 < unlisted listed := by
        unfold unlisted
        rw [List.countP_pos_iff]
        exact ⟨listed[j], by simp, by rw [hf]; rfl⟩
      omega
    exact ⟨hr, fin listed a w h hr⟩
  | succ fuel ih =>
    intro listed a w h hu
    refine ⟨fin listed a w h, fun i hi => ?_⟩
    obtain ⟨h0, o, ho, hall⟩ := mem_ready.1 hi
    have ho' : ops[i]? = some o := by simpa using ho
    have hil : i < ops.length := (List.getElem?_eq_some_iff.1 ho').1
    have hjl : i < listed.size := Nat.lt_of_lt_of_le hil h.lsize
    have hf : listed[i]? = some false := by
      rw [Array.getElem?_eq_getElem hjl]
      simpa [Array.getD_eq_getD_getElem?, hjl] using h0
    have hGi : i < Gs.length := by omega
    obtain ⟨hgr, hob⟩ := hobs i o Gs[i] ho' (List.getElem?_eq_getElem hGi)
    have hg : ∀ (j : Nat) (F : VT), Gs[j]? = some F → Stays R F := fun j F hj => by
      have hjo : j < ops.length := by rw [← hlen]; exact (List.getElem?_eq_some_iff.1 hj).1
      exact (hobs j ops[j] F (List.getElem?_eq_getElem hjo) hj).1
    have edge : ∀ j, hasEdge o j = true → listed[j]? = some true := fun j he => by
      unfold hasEdge at he
      rw [List.any_eq_true] at he
      obtain ⟨e, hm, he⟩ := he
      simp only [Bool.and_eq_true, beq_iff_eq] at he
      have h1 := hall e (by simpa using hm) he.2
      have h2 := (s1 i o ho').2 e (by simpa using hm)
      rw [he.1] at h1 h2
      have hj2 : j < listed.size := by omega
      rw [Array.getElem?_eq_getElem hj2]
      simpa [Array.getD_eq_getD_getElem?, hj2] using h1
    have cx : Cx ops Gs w a0 i o a w := ⟨Below.refl _ _, h.defers, h.size, h.old, fun j oj d G he h1 h2 h3 => h.done j oj d G (edge j he) h1 h2 h3, fun j oj d h1 he h2 => by
      refine h.todo j oj d ?_ h1 h2
      have hj3 : j < ops.length := (List.getElem?_eq_some_iff.1 h1).1
      have hj2 : j < listed.size := Nat.lt_of_lt_of_le hj3 h.lsize
      cases hb : listed[j] with
      | false => rw [Array.getElem?_eq_getElem hj2, hb]
      | true =>
        exfalso
        have := h.closed j oj i (by rw [Array.getElem?_eq_getElem hj2, hb]) h1 he
        rw [hf] at this; cases this⟩
    obtain ⟨k, hup, hk⟩ := h.at_
    have step : ∀ {w' : World} {v : Value}, R.S w w' → (∃ k, Upto E (listed.setIfInBounds i true) k ∧ Φ k w') → Gs[i] w' v → wpAny P .any ops.toArray Q fuel (listed.setIfInBounds i true) (a.put o.dst v) w' := fun hb hat hv =>
      ih _ _ _ (h.put hok hg hb ho' hat edge fun G hG => by rw [List.getElem?_eq_getElem hGi] at hG; cases hG; exact hv) (by have := unlisted_set hf; omega)
    unfold wpOp
    simp only [ho]
    cases hx : E.idxOf? i with
    | none =>
      have := hob.1 hx w h.le h.inv a w cx
      split
      · rename_i hw
        rw [if_pos hw] at this
        refine .inl (Oper.wp_noQ (Oper.wp_mono (fun a' w' h' => ?_) this))
        obtain ⟨v, rfl, hb, hv⟩ := h'
        exact step (R.below h.inv hb) ⟨k, hup.free hx, hΦ k _ _ h.inv hb hk⟩ hv
      · rename_i hw
        rw [if_neg hw] at this
        exact step (R.refl h.inv) ⟨k, hup.free hx, hk⟩ this
    | some j =>
      have hjk := upto_at hE hup hf ho' hx h.closed edge
      subst hjk
      have hEj : E[j]? = some i := by
        have := List.of_findIdx?_eq_some (p := (· == i)) (xs := E) (i := j) (by simpa [List.idxOf?] using hx)
        cases h : E[j]? with
        | none => rw [h] at this; simp at this
        | some x => rw [h] at this; simp at this; rw [this]
      have := hob.2 j hx w h.le h.inv hk a cx
      split
      · rename_i hw
        rw [if_pos hw] at this
        refine .inl (Oper.wp_noQ (Oper.wp_mono (fun a' w' h' => ?_) this))
        obtain ⟨v, rfl, hb, hp, hv⟩ := h'
        exact step hb ⟨j + 1, hup.next hE hjl hEj, hp⟩ hv
      · rename_i hw
        rw [if_neg hw] at this
        exact step (R.refl h.inv) ⟨j + 1, hup.next hE hjl hEj, this.1⟩ this.2

/-- The rule. -/
theorem wp_region_MS {id : Nat} (E : List Nat) (Φ : Nat → World → Prop) (hm : P.follows .mixedOrders = true) (hok : okM a0.tmps.size 0 ops [] = true) (hE : okE ops E = true) (hΦ : ∀ k w w', R.I w → Below w.heap.size w w' → Φ k w → Φ k w') (hI : R.I w0) (h0 : Φ 0 w0)
    (h : MDerS P ops R Φ E w0 a0 Q ops []) : (Code.region id ops.toArray true).wp P Q a0 w0 := by
  obtain ⟨Gs, h1, h2, h3⟩ := MDerS.all h [] rfl (by simp) (fun i o F hi => by simp at hi)
  refine wp_region_any hm ?_
  have hd : Below w0.heap.size w0 { w0 with drawn := w0.drawn + 1 } := (Below.refl _ w0).drew
  have hu : unlisted (Array.replicate ops.length false) = ops.length := by simp [unlisted, List.countP_replicate]
  have := region_S_any (Q := Q) hok hE hΦ h1 h2 h3 ops.length (Array.replicate ops.length false) a0 { w0 with drawn := w0.drawn + 1 }
    ⟨R.below hI hd, R.inv hI (R.below hI hd), ⟨0, ⟨Nat.zero_le _, fun j e hj => by
      have hel := okE_in hE (List.mem_of_getElem? hj)
      simp [hel]⟩, hΦ 0 _ _ hI hd h0⟩, rfl, rfl, by simp, fun _ _ => rfl, fun j oj d G hj => by simp [Array.getElem?_replicate] at hj, fun j oj i hj => by simp [Array.getElem?_replicate] at hj, fun j oj d _ _ _ => rfl⟩ hu
  simpa using this

/-! ### The rules of writing operations -/
variable {Fs : List VT} {i : Nat} {o : Oper} {Ψ : World → Prop} {d : Option Tmp} {ty : TypeId} {pos : String} {after : Array Edge} {g : Option (Nat × Bool)}
theorem ObS.off {F : VT} (h : Ob P ops Fs w0 a0 i o F) (hs : ∀ a, Cx ops Fs w0 a0 i o a w0 → Region.wanted o (yielded ops.toArray a.tmps) = false) (hp : Ψ w0) : ObS P ops R Ψ Fs w0 a0 i o F := fun a cx => by
  have := h a w0 cx
  rw [hs a cx] at this ⊢
  exact ⟨hp, this⟩
theorem ObS.call {f : FuncId} {args : Array Operand} {tys : Array TypeId} {F : VT} (hw : Wanted ops Fs w0 a0 i ⟨d, .call ⟨.value (.func f), args, tys⟩, ty, pos, after, g⟩) (he : Enters P f)
    (h : ∀ a, Cx ops Fs w0 a0 i ⟨d, .call ⟨.value (.func f), args, tys⟩, ty, pos, after, g⟩ a w0 → Calls P f (args.map a.eval) w0 (fun e w' => ∃ v, e = .returned v ∧ R.S w0 w' ∧ Ψ w' ∧ F w' v)) : ObS P ops R Ψ Fs w0 a0 i ⟨d, .call ⟨.value (.func f), args, tys⟩, ty, pos, after, g⟩ F := fun a cx => by
  rw [if_pos (hw a w0 cx)]
  unfold Oper.wp
  rw [run_call he a w0]
  refine (h a cx).mono ?_
  rintro e w' ⟨v, rfl, hb, hp, hF⟩
  exact ⟨v, rfl, hb, hp, hF⟩
theorem ObS.call0 {f : FuncId} {tys : Array TypeId} {F : VT} (hw : Wanted ops Fs w0 a0 i ⟨d, .call ⟨.value (.func f), #[], tys⟩, ty, pos, after, g⟩) (he : Enters P f)
    (h : Calls P f #[] w0 (fun e w' => ∃ v, e = .returned v ∧ R.S w0 w' ∧ Ψ w' ∧ F w' v)) : ObS P ops R Ψ Fs w0 a0 i ⟨d, .call ⟨.value (.func f), #[], tys⟩, ty, pos, after, g⟩ F := ObS.call hw he fun a cx => by rw [List.map_toArray]; exact h
theorem ObS.call1 {f : FuncId} {tys : Array TypeId} {x1 : Operand} {G1 F : VT} (hw : Wanted ops Fs w0 a0 i ⟨d, .call ⟨.value (.func f), #[x1], tys⟩, ty, pos, after, g⟩) (he : Enters P f)
    (h1 : Has ops Fs w0 a0 i ⟨d, .call ⟨.value (.func f), #[x1], tys⟩, ty, pos, after, g⟩ x1 G1)
    (h : ∀ v1, G1 w0 v1 → Calls P f #[v1] w0 (fun e w' => ∃ v, e = .returned v ∧ R.S w0 w' ∧ Ψ w' ∧ F w' v)) : ObS P ops R Ψ Fs w0 a0 i ⟨d, .call ⟨.value (.func f), #[x1], tys⟩, ty, pos, after, g⟩ F := ObS.call hw he fun a cx => by rw [List.map_toArray]; exact h _ (h1 a w0 cx)
theorem ObS.call2 {f : FuncId} {tys : Array TypeId} {x1 x2 : Operand} {G1 G2 F : VT} (hw : Wanted ops Fs w0 a0 i ⟨d, .call ⟨.value (.func f), #[x1, x2], tys⟩, ty, pos, after, g⟩) (he : Enters P f)
    (h1 : Has ops Fs w0 a0 i ⟨d, .call ⟨.value (.func f), #[x1, x2], tys⟩, ty, pos, after, g⟩ x1 G1) (h2 : Has ops Fs w0 a0 i ⟨d, .call ⟨.value (.func f), #[x1, x2], tys⟩, ty, pos, after, g⟩ x2 G2)
    (h : ∀ v1 v2, G1 w0 v1 → G2 w0 v2 → Calls P f #[v1, v2] w0 (fun e w' => ∃ v, e = .returned v ∧ R.S w0 w' ∧ Ψ w' ∧ F w' v)) : ObS P ops R Ψ Fs w0 a0 i ⟨d, .call ⟨.value (.func f), #[x1, x2], tys⟩, ty, pos, after, g⟩ F := ObS.call hw he fun a cx => by rw [List.map_toArray]; exact h _ _ (h1 a w0 cx) (h2 a w0 cx)
theorem ObS.call3 {f : FuncId} {tys : Array TypeId} {x1 x2 x3 : Operand} {G1 G2 G3 F : VT} (hw : Wanted ops Fs w0 a0 i ⟨d, .call ⟨.value (.func f), #[x1, x2, x3], tys⟩, ty, pos, after, g⟩) (he : Enters P f)
    (h1 : Has ops Fs w0 a0 i ⟨d, .call ⟨.value (.func f), #[x1, x2, x3], tys⟩, ty, pos, after, g⟩ x1 G1) (h2 : Has ops Fs w0 a0 i ⟨d, .call ⟨.value (.func f), #[x1, x2, x3], tys⟩, ty, pos, after, g⟩ x2 G2) (h3 : Has ops Fs w0 a0 i ⟨d, .call ⟨.value (.func f), #[x1, x2, x3], tys⟩, ty, pos, after, g⟩ x3 G3)
    (h : ∀ v1 v2 v3, G1 w0 v1 → G2 w0 v2 → G3 w0 v3 → Calls P f #[v1, v2, v3] w0 (fun e w' => ∃ v, e = .returned v ∧ R.S w0 w' ∧ Ψ w' ∧ F w' v)) : ObS P ops R Ψ Fs w0 a0 i ⟨d, .call ⟨.value (.func f), #[x1, x2, x3], tys⟩, ty, pos, after, g⟩ F := ObS.call hw he fun a cx => by rw [List.map_toArray]; exact h _ _ _ (h1 a w0 cx) (h2 a w0 cx) (h3 a w0 cx)
theorem ObS.call4 {f : FuncId} {tys : Array TypeId} {x1 x2 x3 x4 : Operand} {G1 G2 G3 G4 F : VT} (hw : Wanted ops Fs w0 a0 i ⟨d, .call ⟨.value (.func f), #[x1, x2, x3, x4], tys⟩, ty, pos, after, g⟩) (he : Enters P f)
    (h1 : Has ops Fs w0 a0 i ⟨d, .call ⟨.value (.func f), #[x1, x2, x3, x4], tys⟩, ty, pos, after, g⟩ x1 G1) (h2 : Has ops Fs w0 a0 i ⟨d, .call ⟨.value (.func f), #[x1, x2, x3, x4], tys⟩, ty, pos, after, g⟩ x2 G2) (h3 : Has ops Fs w0 a0 i ⟨d, .call ⟨.value (.func f), #[x1, x2, x3, x4], tys⟩, ty, pos, after, g⟩ x3 G3) (h4 : Has ops Fs w0 a0 i ⟨d, .call ⟨.value (.func f), #[x1, x2, x3, x4], tys⟩, ty, pos, after, g⟩ x4 G4)
    (h : ∀ v1 v2 v3 v4, G1 w0 v1 → G2 w0 v2 → G3 w0 v3 → G4 w0 v4 → Calls P f #[v1, v2, v3, v4] w0 (fun e w' => ∃ v, e = .returned v ∧ R.S w0 w' ∧ Ψ w' ∧ F w' v)) : ObS P ops R Ψ Fs w0 a0 i ⟨d, .call ⟨.value (.func f), #[x1, x2, x3, x4], tys⟩, ty, pos, after, g⟩ F := ObS.call hw he fun a cx => by rw [List.map_toArray]; exact h _ _ _ _ (h1 a w0 cx) (h2 a w0 cx) (h3 a w0 cx) (h4 a w0 cx)
theorem ObS.call5 {f : FuncId} {tys : Array TypeId} {x1 x2 x3 x4 x5 : Operand} {G1 G2 G3 G4 G5 F : VT} (hw : Wanted ops Fs w0 a0 i ⟨d, .call ⟨.value (.func f), #[x1, x2, x3, x4, x5], tys⟩, ty, pos, after, g⟩) (he : Enters P f)
    (h1 : Has ops Fs w0 a0 i ⟨d, .call ⟨.value (.func f), #[x1, x2, x3, x4, x5], tys⟩, ty, pos, after, g⟩ x1 G1) (h2 : Has ops Fs w0 a0 i ⟨d, .call ⟨.value (.func f), #[x1, x2, x3, x4, x5], tys⟩, ty, pos, after, g⟩ x2 G2) (h3 : Has ops Fs w0 a0 i ⟨d, .call ⟨.value (.func f), #[x1, x2, x3, x4, x5], tys⟩, ty, pos, after, g⟩ x3 G3) (h4 : Has ops Fs w0 a0 i ⟨d, .call ⟨.value (.func f), #[x1, x2, x3, x4, x5], tys⟩, ty, pos, after, g⟩ x4 G4) (h5 : Has ops Fs w0 a0 i ⟨d, .call ⟨.value (.func f), #[x1, x2, x3, x4, x5], tys⟩, ty, pos, after, g⟩ x5 G5)
    (h : ∀ v1 v2 v3 v4 v5, G1 w0 v1 → G2 w0 v2 → G3 w0 v3 → G4 w0 v4 → G5 w0 v5 → Calls P f #[v1, v2, v3, v4, v5] w0 (fun e w' => ∃ v, e = .returned v ∧ R.S w0 w' ∧ Ψ w' ∧ F w' v)) : ObS P ops R Ψ Fs w0 a0 i ⟨d, .call ⟨.value (.func f), #[x1, x2, x3, x4, x5], tys⟩, ty, pos, after, g⟩ F := ObS.call hw he fun a cx => by rw [List.map_toArray]; exact h _ _ _ _ _ (h1 a w0 cx) (h2 a w0 cx) (h3 a w0 cx) (h4 a w0 cx) (h5 a w0 cx)
end
end Go.Proofs.Ytjbakmmmgejhlaa
