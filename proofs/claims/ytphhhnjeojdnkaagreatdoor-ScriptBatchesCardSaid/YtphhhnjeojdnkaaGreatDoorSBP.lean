/-
  As XMST with one writing operation, whose value need not outlast another one (there is none).
-/
import Derived.Test.YtphhhnjeojdnkaaGreatDoorSBO
import Derived.Deep.Upon
import Derived.Test.YtphhhnjeojdnkaaGreatDoorSBN
import Derived.Test.YtphhhnjeojdnkaaGreatDoorSBL
import Derived.Test.YtphhhnjeojdnkaaGreatDoorSBA
import Derived.Test.YtphhhnjeojdnkaaGreatDoorRows
import Derived.ProofKit
import Derived.WideKeyArgs
import Derived.Deep.SlicePairs
import Derived.Lib.SmallJoins
import Derived.KernelRfl
set_option linter.unusedSectionVars false
set_option linter.unusedVariables false
set_option linter.unusedSimpArgs false
namespace Go.Proofs.YtphhhnjeojdnkaaGreatDoor
open Go.RowKit
/-- What is asked of a property of operation i; e is the one that writes. -/
structure StE (R : Steps) (e i : Nat) (F : VT) : Prop where
  other : i ≠ e → Stays R F
  self : i = e → Grows F
section
variable {P : Program} {ops : List Oper} {w0 : World} {a0 : Act} {Q : Exit → Act → World → Prop} {R : Steps} {Φ : Nat → World → Prop} {e : Nat}
/-- The walk, the newest property first. -/
def MDerE (P : Program) (ops : List Oper) (R : Steps) (Φ : Nat → World → Prop) (e : Nat) (w0 : World) (a0 : Act) (Q : Exit → Act → World → Prop) : List Oper → List VT → Prop
  | o :: os, RF => ∃ F : VT, StE R e RF.length F ∧ ObX P ops R Φ [e] w0 a0 RF.reverse RF.length o F ∧ MDerE P ops R Φ e w0 a0 Q os (F :: RF)
  | [], RF => ∀ w, R.S w0 w → R.I w → Φ 1 w → EndM Q (dstsOf ops) RF.reverse a0 w
theorem MDerE.step {o : Oper} {os : List Oper} {RF : List VT} {F : VT} [hF : Stays R F] (hE : (RF.length != e) = true) (h : ∀ w, R.S w0 w → R.I w → Ob P ops RF.reverse w a0 RF.length o F) (k : MDerE P ops R Φ e w0 a0 Q os (F :: RF)) : MDerE P ops R Φ e w0 a0 Q (o :: os) RF :=
  
  have hn : RF.length ≠ e := by simpa using hE
  ⟨F, ⟨fun _ => hF, fun h => absurd h hn⟩, ⟨fun _ => h, fun k hk => by
    have h0 : ([e] : List Nat).idxOf? RF.length = none := by simp [List.idxOf?_eq_none_iff]; exact fun h => hn h.symm
    rw [h0] at hk; cases hk⟩, k⟩
theorem MDerE.write {o : Oper} {os : List Oper} {RF : List VT} {F : VT} [hF : Grows F] (hE : (RF.length == e) = true) (h : ∀ w, R.S w0 w → R.I w → Φ 0 w → ObS P ops R (Φ 1) RF.reverse w a0 RF.length o F) (k : MDerE P ops R Φ e w0 a0 Q os (F :: RF)) : MDerE P ops R Φ e w0 a0 Q (o :: os) RF := by
  have hn : RF.length = e := by simpa using hE
  refine ⟨F, ⟨fun h => absurd hn h, fun _ => hF⟩, ⟨fun hx => ?_, fun j hj => ?_⟩, k⟩
  · rw [List.idxOf?_eq_none_iff] at hx; exact absurd (by simp [hn]) hx
  · have : j = 0 := by
      rw [hn] at hj; simp [List.idxOf?, List.findIdx?_cons] at hj; omega
    subst this; exact h

theorem MDerE.all : ∀ {os : List Oper} {RF : List VT} (_ : MDerE P ops R Φ e w0 a0 Q os RF) (pre : List Oper) (_ : pre.length = RF.length) (_ : ops = pre ++ os) (_ : ∀ (i : Nat) (o : Oper) (F : VT), pre[i]? = some o → RF.reverse[i]? = some F → StE R e i F ∧ ObX P ops R Φ [e] w0 a0 RF.reverse i o F),
    ∃ Gs : List VT, Gs.length = ops.length ∧ (∀ (i : Nat) (o : Oper) (F : VT), ops[i]? = some o → Gs[i]? = some F → StE R e i F ∧ ObX P ops R Φ [e] w0 a0 Gs i o F) ∧ ∀ w, R.S w0 w → R.I w → Φ 1 w → EndM Q (dstsOf ops) Gs a0 w
  | [], RF, h, pre, hl, ho, hp => by
    refine ⟨RF.reverse, by rw [ho]; simp [hl], fun i o F hi hF => hp i o F (by rw [ho] at hi; simpa using hi) hF, h⟩
  | o :: os, RF, ⟨F, hF, hob, k⟩, pre, hl, ho, hp => by
    refine MDerE.all k (pre ++ [o]) (by simp [hl]) (by simp [ho]) (fun i q G hi hG => ?_)
    rw [List.reverse_cons] at hG ⊢
    rcases Nat.lt_or_ge i pre.length with hlt | hge
    · rw [List.getElem?_append_left hlt] at hi
      rw [List.getElem?_append_left (by simp; omega)] at hG
      obtain ⟨g1, g2⟩ := hp i q G hi hG
      exact ⟨g1, g2.weak⟩
    · have hi' : i = pre.length := by
        have := (List.getElem?_eq_some_iff.1 hi).1
        simp at this; omega
      subst hi'
      rw [List.getElem?_append_right (by simp; omega)] at hG
      simp [hl] at hG
      simp at hi
      subst hi; subst hG
      exact ⟨by rw [hl]; exact hF, by rw [hl]; exact hob.weak⟩

theorem InvS.putE {Gs : List VT} {listed : Array Bool} {a : Act} {w w' : World} (hok : okM a0.tmps.size 0 ops [] = true) (hg : ∀ (i : Nat) (F : VT), Gs[i]? = some F → StE R e i F) (h : InvS ops R Φ [e] Gs w0 a0 listed a w) (hb : R.S w w')
    {i : Nat} {o : Oper} {v : Value} (hbe : i ≠ e → Below w.heap.size w w') (hi : ops[i]? = some o) (hat : ∃ k, Upto [e] (listed.setIfInBounds i true) k ∧ Φ k w') (hed : ∀ j, hasEdge o j = true → listed[j]? = some true) (hv : ∀ G, Gs[i]? = some G → G w' v) : InvS ops R Φ [e] Gs w0 a0 (listed.setIfInBounds i true) (a.put o.dst v) w' := by
  obtain ⟨s1, s2⟩ := okM_spec hok
  obtain ⟨⟨d, hd, hdn, _⟩, _⟩ := s1 i o hi
  have hil : i < ops.length := (List.getElem?_eq_some_iff.1 hi).1
  have hls : i < listed.size := Nat.lt_of_lt_of_le hil h.lsize
  rw [hd]
  refine ⟨R.trans h.le hb, R.inv h.inv hb, hat, h.defers, by simp [Act.put, h.size], by simpa using h.lsize, fun t ht => ?_, fun j oj dj G hj ho hdj hG => ?_, fun j oj dj hj ho hdj => ?_, fun j oj dj hj ho hdj => ?_⟩
  · rw [getD_put, if_neg, h.old t ht]
    rintro ⟨rfl, _⟩
    exact ht (List.mem_map.2 ⟨o, List.mem_of_getElem? hi, hd⟩)
  · by_cases hji : j = i
    · subst hji
      rw [hi] at ho; cases ho
      rw [hd] at hdj; cases hdj
      rw [getD_put, if_pos ⟨rfl, by rw [h.size]; exact hdn⟩]
      exact hv G hG
    · rw [Array.getElem?_setIfInBounds_ne (fun e => hji e.symm)] at hj
      rw [getD_put, if_neg]
      · by_cases hje : j = e
        · exact ((hg j G hG).self hje).up (hbe (fun h => hji (hje.trans h.symm))) (h.done j oj dj G hj ho hdj hG)
        · exact ((hg j G hG).other hje).up h.inv hb (h.done j oj dj G hj ho hdj hG)
      · rintro ⟨rfl, _⟩
        exact hji (s2 j i oj o ho hi (hdj.trans hd.symm))
  · have tr : ∀ k : Nat, listed[k]? = some true → (listed.setIfInBounds i true)[k]? = some true := fun k hk => by
      by_cases hki : i = k
      · subst hki; simp [hls]
      · rw [Array.getElem?_setIfInBounds_ne hki]; exact hk
    by_cases hji : j = i
    · subst hji
      rw [hi] at ho; cases ho
      exact tr _ (hed _ hdj)
    · rw [Array.getElem?_setIfInBounds_ne (fun e => hji e.symm)] at hj
      exact tr _ (h.closed j oj dj hj ho hdj)
  · by_cases hji : j = i
    · subst hji
      simp [hls] at hj
    · rw [Array.getElem?_setIfInBounds_ne (fun e => hji e.symm)] at hj
      rw [getD_put, if_neg]
      · exact h.todo j oj dj hj ho hdj
      · rintro ⟨rfl, _⟩
        exact hji (s2 j i oj o ho hi (hdj.trans hd.symm))

theorem region_SE_any {n : Nat} {Gs : List VT} (hn : n < ops.length) (hok : okM a0.tmps.size 0 (ops.take n) [] = true) (hot : okT n ops = true) (hE : okE (ops.take n) [e] = true) (hΦ : ∀ k w w', R.I w → Below w.heap.size w w' → Φ k w → Φ k w') (hlen : Gs.length = (ops.take n).length)
    (hobs : ∀ (i : Nat) (o : Oper) (F : VT), (ops.take n)[i]? = some o → Gs[i]? = some F → StE R e i F ∧ ObX P (ops.take n) R Φ [e] w0 a0 Gs i o F)
    (hend : ∀ w, R.S w0 w → R.I w → Φ ([e] : List Nat).length w → EndM (fun _ a w => wpList P ops.toArray Q (ops.drop n) a w) (dstsOf (ops.take n)) Gs a0 w) :
    ∀ (fuel : Nat) (listed : Array Bool) (a : Act) (w : World), InvS (ops.take n) R Φ [e] Gs w0 a0 listed a w → listed.size = ops.length → (∀ j, n ≤ j → j < ops.length → listed[j]? = some false) → unlisted listed = fuel → wpAny P .any ops.toArray Q fuel listed a w := by
  obtain ⟨s1, s2⟩ := okM_spec hok
  have htl : (ops.take n).length = n := by rw [List.length_take]; omega
  have bodyAt : ∀ j o, j < n → (ops[j]? = some o ↔ (ops.take n)[j]? = some o) := fun j o hj => by rw [List.getElem?_take, if_pos hj]
  intro fuel
  induction fuel with
  | zero =>
    intro listed a w h hs hf hu
    exfalso
    have h1 := hf n (Nat.le_refl _) hn
    have : 0 < unlisted listed := by
      unfold unlisted
      rw [List.countP_pos_iff]
      refine ⟨false, ?_, rfl⟩
      rw [← Array.getElem?_toList] at h1
      exact List.mem_of_getElem? h1
    omega
  | succ fuel ih =>
    intro listed a w h hs hf hu
    -- whether the body has all come up
    by_cases hall : ∀ j, j < n → listed[j]? = some true
    · -- the tail
      have hEnd : Φ ([e] : List Nat).length w := by
        obtain ⟨k, hu, hk⟩ := h.at_
        have : k = ([e] : List Nat).length := by
          rcases Nat.lt_or_ge k ([e] : List Nat).length with h1 | h1
          · have := (hu.2 k ([e] : List Nat)[k] (List.getElem?_eq_getElem h1)).1 (hall _ (by have := okE_in hE (List.getElem_mem h1); omega))
            omega
          · have := hu.1; omega
        rw [← this]; exact hk
      have hQ : wpList P ops.toArray Q (ops.drop n) a w := by
        refine endM_of (Q := fun _ a w => wpList P ops.toArray Q (ops.drop n) a w) (ops.take n) Gs a0 (fun j o d F h1 h2 h3 => h.done j o d F (hall j (by have := (List.getElem?_eq_some_iff.1 h1).1; omega)) h1 h2 h3) hlen.symm (fun o ho => ?_) h.defers.symm h.size.symm (fun t ht => (h.old t ht).symm) (hend w h.le h.inv hEnd)
        obtain ⟨j, hj⟩ := List.getElem?_of_mem ho
        obtain ⟨⟨d, hd, _⟩, _⟩ := s1 j o hj
        rw [hd]; simp
      have hcount : unlisted listed = (ops.drop n).length := by
        unfold unlisted
        have e : listed.toList = List.replicate n true ++ List.replicate (ops.length - n) false := by
          refine List.ext_getElem? fun j => ?_
          rw [List.getElem?_append, List.length_replicate, List.getElem?_replicate, List.getElem?_replicate, Array.getElem?_toList]
          by_cases hj : j < n
          · rw [if_pos hj, if_pos hj]; exact hall j hj
          · rw [if_neg hj]
            by_cases hj2 : j < ops.length
            · rw [if_pos (by omega)]; exact hf j (by omega) hj2
            · rw [if_neg (by omega)]; exact Array.getElem?_eq_none (by omega)
        rw [e]; simp [List.countP_append, List.countP_replicate]
      rw [← hu, hcount]
      exact tail_any hot (ops.drop n) n listed a w (Nat.le_refl _) rfl hs (fun j hj _ => hall j hj) hf hQ
    · -- the body
      have hex : ∃ j, j < n ∧ listed[j]? = some false := by
        refine Classical.byContradiction fun hne => hall fun j hj => ?_
        have hjs : j < listed.size := by omega
        cases hb : listed[j] with
        | true => rw [Array.getElem?_eq_getElem hjs, hb]
        | false => exact absurd ⟨j, hj, by rw [Array.getElem?_eq_getElem hjs, hb]⟩ hne
      have hnr : Region.ready .any ops.toArray listed ≠ [] := by
        obtain ⟨j0, hj0, hjf⟩ := hex
        have key : ∀ j, j < n → listed[j]? = some false → Region.ready .any ops.toArray listed ≠ [] := by
          intro j
          induction j using Nat.strongRecOn with
          | _ j ihj =>
            intro hj hjf hr
            have hjo : ops[j]? = some ops[j] := List.getElem?_eq_getElem (by omega)
            have : j ∈ Region.ready .any ops.toArray listed := mem_ready.2 ⟨by simp [Array.getD_eq_getD_getElem?, hjf], ops[j], by simp, fun e he _ => by
              have hlt := (okT_spec hot hjo).1 e he
              have hes : e.on < listed.size := by omega
              cases hb : listed[e.on] with
              | true => simp [Array.getD_eq_getD_getElem?, hes, hb]
              | false => exact absurd hr (ihj e.on hlt (by omega) (by rw [Array.getElem?_eq_getElem hes, hb]))⟩
            rw [hr] at this; cases this
        exact key j0 hj0 hjf
      refine ⟨fun h0 => absurd h0 hnr, fun i hi => ?_⟩
      obtain ⟨h0, o, ho, hed⟩ := mem_ready.1 hi
      have ho' : ops[i]? = some o := by simpa using ho
      have hil : i < ops.length := (List.getElem?_eq_some_iff.1 ho').1
      have edgeF : ∀ (o : Oper), ops[i]? = some o → ∀ j, hasEdge o j = true → listed[j]? = some true := fun q hq j he => by
        have hqo : q = o := by rw [hq] at ho'; simpa using ho'
        subst hqo
        unfold hasEdge at he
        rw [List.any_eq_true] at he
        obtain ⟨e, hm, he⟩ := he
        simp only [Bool.and_eq_true, beq_iff_eq] at he
        have h1 := hed e (by simpa using hm) he.2
        have h2 := (okT_spec hot hq).1 e (by simpa using hm)
        rw [he.1] at h1 h2
        have hj2 : j < listed.size := by omega
        rw [Array.getElem?_eq_getElem hj2]
        simpa [Array.getD_eq_getD_getElem?, hj2] using h1
      have hin : i < n := by
        rcases Nat.lt_or_ge i n with h1 | h1
        · exact h1
        · exfalso
          rcases Nat.eq_or_lt_of_le h1 with h2 | h2
          · -- the first of the tail: then all of the body has come up
            subst h2
            have chain : ∀ d j, n - j = d → j < n → listed[j]? = some true := by
              intro d
              induction d using Nat.strongRecOn with
              | _ d ihd =>
                intro j hd hj
                have hjo : ops[j]? = some ops[j] := List.getElem?_eq_getElem (by omega)
                obtain ⟨k, q, hk1, hk2, hk3, hk4⟩ := (okT_spec hot hjo).2.2.1 hj
                rcases Nat.eq_or_lt_of_le hk2 with h3 | h3
                · subst h3; exact edgeF q hk3 j hk4
                · exact h.closed k q j (ihd (n - k) (by omega) k rfl h3) ((bodyAt k q h3).1 hk3) hk4
            exact hall fun j hj => chain (n - j) j rfl hj
          · have he := (okT_spec hot ho').2.2.2 h2
            have := edgeF o ho' (i - 1) he
            have h5 := hf (i - 1) (by omega) (by omega)
            rw [this] at h5; cases h5
      have hob' : (ops.take n)[i]? = some o := (bodyAt i o hin).1 ho'
      have hjl : i < listed.size := by omega
      have hfi : listed[i]? = some false := by
        rw [Array.getElem?_eq_getElem hjl]
        simpa [Array.getD_eq_getD_getElem?, hjl] using h0
      have hGi : i < Gs.length := by omega
      obtain ⟨hgr, hob⟩ := hobs i o Gs[i] hob' (List.getElem?_eq_getElem hGi)
      have hg : ∀ (j : Nat) (F : VT), Gs[j]? = some F → StE R e j F := fun j F hj => by
        have hjo : j < (ops.take n).length := by rw [← hlen]; exact (List.getElem?_eq_some_iff.1 hj).1
        exact (hobs j (ops.take n)[j] F (List.getElem?_eq_getElem hjo) hj).1
      have edge := edgeF o ho'
      have cx : Cx (ops.take n) Gs w a0 i o a w := ⟨Below.refl _ _, h.defers, h.size, h.old, fun j oj d G he h1 h2 h3 => h.done j oj d G (edge j he) h1 h2 h3, fun j oj d h1 he h2 => by
        refine h.todo j oj d ?_ h1 h2
        have hj3 : j < (ops.take n).length := (List.getElem?_eq_some_iff.1 h1).1
        have hj2 : j < listed.size := by omega
        cases hb : listed[j] with
        | false => rw [Array.getElem?_eq_getElem hj2, hb]
        | true =>
          exfalso
          have := h.closed j oj i (by rw [Array.getElem?_eq_getElem hj2, hb]) h1 he
          rw [hfi] at this; cases this⟩
      obtain ⟨k, hup, hk⟩ := h.at_
      have step : ∀ {w' : World} {v : Value}, R.S w w' → (i ≠ e → Below w.heap.size w w') → (∃ k, Upto [e] (listed.setIfInBounds i true) k ∧ Φ k w') → Gs[i] w' v → wpAny P .any ops.toArray Q fuel (listed.setIfInBounds i true) (a.put o.dst v) w' := fun hb hbe hat hv =>
        ih _ _ _ (h.putE hok hg hb hbe hob' hat edge fun G hG => by rw [List.getElem?_eq_getElem hGi] at hG; cases hG; exact hv) (by simp [hs]) (fun j hj hjl2 => by rw [Array.getElem?_setIfInBounds_ne (by omega)]; exact hf j hj hjl2) (by have := unlisted_set hfi; omega)
      unfold wpOp
      simp only [ho]
      cases hx : ([e] : List Nat).idxOf? i with
      | none =>
        have hob2 := hob.1 hx w h.le h.inv a w cx
        rw [wanted_take hin (okT_spec hot ho').2.1] at hob2
        split
        · rename_i hw
          rw [if_pos hw] at hob2
          refine .inl (Oper.wp_noQ (Oper.wp_mono (fun a' w' h' => ?_) hob2))
          obtain ⟨v, rfl, hb, hv⟩ := h'
          exact step (R.below h.inv hb) (fun _ => hb) ⟨k, hup.free hx, hΦ k _ _ h.inv hb hk⟩ hv
        · rename_i hw
          rw [if_neg hw] at hob2
          exact step (R.refl h.inv) (fun _ => Below.refl _ _) ⟨k, hup.free hx, hk⟩ hob2
      | some j =>
        have hjk := upto_at hE hup hfi hob' hx h.closed edge
        subst hjk
        have hEj : ([e] : List Nat)[j]? = some i := by
          have := List.of_findIdx?_eq_some (p := (· == i)) (xs := [e]) (i := j) (by simpa [List.idxOf?] using hx)
          cases h : ([e] : List Nat)[j]? with
          | none => rw [h] at this; simp at this
          | some x => rw [h] at this; simp at this; rw [this]
        have hie : i = e := by
          have := List.mem_of_getElem? hEj
          simpa using this
        have hob2 := hob.2 j hx w h.le h.inv hk a cx
        rw [wanted_take hin (okT_spec hot ho').2.1] at hob2
        split
        · rename_i hw
          rw [if_pos hw] at hob2
          refine .inl (Oper.wp_noQ (Oper.wp_mono (fun a' w' h' => ?_) hob2))
          obtain ⟨v, rfl, hb, hp, hv⟩ := h'
          exact step hb (fun hne => absurd hie hne) ⟨j + 1, hup.next hE hjl hEj, hp⟩ hv
        · rename_i hw
          rw [if_neg hw] at hob2
          exact step (R.refl h.inv) (fun _ => Below.refl _ _) ⟨j + 1, hup.next hE hjl hEj, hob2.1⟩ hob2.2

/-- The rule. -/
theorem wp_region_ME {id : Nat} (n : Nat) (e : Nat) (Φ : Nat → World → Prop) (hm : P.follows .mixedOrders = true) (hok : okM a0.tmps.size 0 (ops.take n) [] = true) (hot : (decide (n < ops.length) && okT n ops) = true) (hE : okE (ops.take n) [e] = true) (hΦ : ∀ k w w', R.I w → Below w.heap.size w w' → Φ k w → Φ k w') (hI : R.I w0) (h0 : Φ 0 w0)
    (h : MDerE P (ops.take n) R Φ e w0 a0 (fun _ a w => wpList P ops.toArray Q (ops.drop n) a w) (ops.take n) []) : (Code.region id ops.toArray true).wp P Q a0 w0 := by
  rw [Bool.and_eq_true, decide_eq_true_iff] at hot
  obtain ⟨Gs, h1, h2, h3⟩ := MDerE.all h [] rfl (by simp) (fun i o F hi => by simp at hi)
  refine wp_region_any hm ?_
  have hd : Below w0.heap.size w0 { w0 with drawn := w0.drawn + 1 } := (Below.refl _ w0).drew
  have hu : unlisted (Array.replicate ops.length false) = ops.length := by simp [unlisted, List.countP_replicate]
  have := region_SE_any (Q := Q) hot.1 hok hot.2 hE hΦ h1 h2 h3 ops.length (Array.replicate ops.length false) a0 { w0 with drawn := w0.drawn + 1 }
    ⟨R.below hI hd, R.inv hI (R.below hI hd), ⟨0, ⟨Nat.zero_le _, fun j e hj => by
      have hel := okE_in hE (List.mem_of_getElem? hj)
      rw [List.length_take] at hel
      have : e < ops.length := by omega
      simp [this]⟩, hΦ 0 _ _ hI hd h0⟩, rfl, rfl, by simp [List.length_take]; omega, fun _ _ => rfl, fun j oj d G hj => by simp [Array.getElem?_replicate] at hj, fun j oj i hj => by simp [Array.getElem?_replicate] at hj, fun j oj d _ _ _ => rfl⟩ (by simp) (fun j _ hj => by simp [hj]) hu
  simpa using this
end
end Go.Proofs.YtphhhnjeojdnkaaGreatDoor

/-
  Appends onto a row of one's own in a region whose order is open.
-/
namespace Go.Proofs.YtphhhnjeojdnkaaGreatDoor
open Go.RowKit
section
variable {α : Type} {e : Enc α} {ty : TypeId} {w w' : World} {A : Option Addr} {n c : Nat} {l : List α} {r : Option Nat}
theorem Sl.grownR (h : Sl e w A n c l) (hg : w.grownBy w' r) (hne : ∀ a, A = some a → some a.block ≠ r) : Sl e w' A n c l :=
  ⟨h.len, h.cap, h.max, h.nil, fun i x hi => by
    obtain ⟨b, o, rfl, hlt, hc⟩ := h.cell i x hi
    exact ⟨b, o, rfl, Nat.lt_of_lt_of_le hlt hg.size, fun j u hj => hg.cell (hc j u hj) (show some b ≠ r from hne ⟨b, o, none⟩ rfl)⟩⟩
/-- Elements that do not lie in block r. -/
def IsFree (e : Enc α) (r : Option Nat) (l : List α) : VT := fun w v => ∃ A n c, v = .slice A n c ∧ Sl e w A n c l ∧ ∀ a, A = some a → a.block < w.heap.size ∧ some a.block ≠ r
end
/-- What an append onto the row in block r may change. -/
def rowR (r : Option Nat) : Steps where
  I w := ∀ q, r = some q → q < w.heap.size
  S w w' := w.grownBy w' r
  refl := fun _ => ⟨rfl, rfl, rfl, Nat.le_refl _, fun _ _ _ => rfl⟩
  trans := fun h k => ⟨k.os.trans h.os, k.tape.trans h.tape, k.output.trans h.output, Nat.le_trans h.size k.size, fun i hi hr => (k.block i (Nat.lt_of_lt_of_le hi h.size) hr).trans (h.block i hi hr)⟩
  inv := fun hI hS q hq => Nat.lt_of_lt_of_le (hI q hq) hS.size
  below := fun _ hb => ⟨hb.os, hb.tape, hb.output, hb.size, fun i hi _ => hb.block i hi⟩
instance {α : Type} (e : Enc α) (r : Option Nat) (l : List α) : Stays (rowR r) (IsFree e r l) := ⟨fun _ hS ⟨A, n, c, h1, h2, h3⟩ => ⟨A, n, c, h1, h2.grownR hS fun a ha => (h3 a ha).2, fun a ha => ⟨Nat.lt_of_lt_of_le (h3 a ha).1 hS.size, (h3 a ha).2⟩⟩⟩
theorem free_own {α : Type} {e : Enc α} {ty : TypeId} {w w' : World} {v : Value} {l : List α} {r : Option Nat} (h : OwnSl e ty w' w.heap.size v l) (hr : ∀ q, r = some q → q < w.heap.size) : IsFree e r l w' v := by
  obtain ⟨A, c, rfl, hs⟩ := OwnSl.sl h
  refine ⟨A, _, c, rfl, hs, fun a ha => ?_⟩
  subst ha
  have := OwnSl.own h a.block rfl
  exact ⟨this.2, fun hq => by have := hr a.block hq.symm; omega⟩
theorem ret_free {f : FuncId} {args : Array Value} {ty : TypeId} {w : World} {α : Type} {e : Enc α} {l : List α} {r : Option Nat} (h : Calls Tryz.prog f args w (Ret w (IsOwn e ty w.heap.size l))) (hr : ∀ q, r = some q → q < w.heap.size) : Calls Tryz.prog f args w (Ret w (IsFree e r l)) :=
  h.mono fun _ _ ⟨v, h1, h2, h3⟩ => ⟨v, h1, h2, free_own h3 hr⟩
section
variable {P : Program} {ops : List Oper} {Fs : List VT} {w0 : World} {a0 : Act} {i : Nat} {d : Option Tmp} {rt : TypeId} {pos : String} {after : Array Edge} {g : Option (Nat × Bool)}
theorem ObS.appS {α : Type} {e : Enc α} {ty t : TypeId} {bytes B : Nat} {x y : Operand} {v : Value} {l k : List α} (hw : Wanted ops Fs w0 a0 i ⟨d, .call ⟨.builtin .append, #[x, y], #[t, t]⟩, rt, pos, after, g⟩) (hx : Has ops Fs w0 a0 i ⟨d, .call ⟨.builtin .append, #[x, y], #[t, t]⟩, rt, pos, after, g⟩ x (Is v))
    (hy : Has ops Fs w0 a0 i ⟨d, .call ⟨.builtin .append, #[x, y], #[t, t]⟩, rt, pos, after, g⟩ y (IsFree e v.ownBlock k)) (inf : Inf P ty e bytes) (ht : P.underlying t = some (.slice ty)) (ho : OwnSl e ty w0 B v l) (hs : l.length + k.length ≤ 1000000000) (hB : B ≤ w0.heap.size) :
    ObS P ops (rowR v.ownBlock) (fun _ => True) Fs w0 a0 i ⟨d, .call ⟨.builtin .append, #[x, y], #[t, t]⟩, rt, pos, after, g⟩ (IsOwn e ty B (l ++ k)) := fun a cx => by
  rw [if_pos (hw a w0 cx)]
  obtain ⟨A, n, c, e1, hk, _⟩ := hy a w0 cx
  have e2 : a.eval x = v := hx a w0 cx
  obtain ⟨v', w', hr, h2, h3, h4⟩ := run_appS (rt := rt) inf ht ho hk hs hB
  unfold Oper.wp
  have : (execOp a.eval ⟨d, .call ⟨.builtin .append, #[x, y], #[t, t]⟩, rt, pos, after, g⟩).run P w0 = .ok (.value v') w' := by
    generalize a.eval = ρ at e1 e2
    simp [execOp, resolve, invoke, builtin, e1, e2, hr, Result.andThen]
  rw [this]
  exact ⟨v', rfl, h3, trivial, h2⟩
end
end Go.Proofs.YtphhhnjeojdnkaaGreatDoor

/-
  ref14.dots.
-/
namespace Go.Proofs.YtphhhnjeojdnkaaGreatDoor
open Go.RowKit
/-- The state of a region that appends twice onto one row. -/
def phiO (B : Nat) (v : Value) (L : List UInt8) : Nat → World → Prop
  | 0, w => OwnB w B v L
  | _ + 1, _ => True
theorem phiO_mono {r : Option Nat} {B : Nat} {v : Value} {L : List UInt8} : ∀ k w w', (rowR r).I w → Below w.heap.size w w' → phiO B v L k w → phiO B v L k w'
  | 0, _, _, _, hb, h => OwnSl.mono h hb
  | _ + 1, _, _, _, _, _ => trivial
theorem enters56 : Enters Tryz.prog 56 := enters_of Tryz.func56 (by kernel_rfl) rfl
theorem conv_u64n {w : World} {x : Nat} (h : x < 18446744073709551616) : (convert 3 98 (.int .i64 (x : Int))).run Tryz.prog w = .ok (.int .u64 (x : Int)) w := by
  have := wrap_u64 h
  simp [go_sem, this]
section
variable {P : Program} {ops : List Oper} {Fs : List VT} {w0 : World} {a0 : Act} {i : Nat} {d : Option Tmp} {ty : TypeId} {pos : String} {after : Array Edge} {g : Option (Nat × Bool)}
theorem Ob.convV {x : Operand} {u r : Value} {s t : TypeId} (hw : Wanted ops Fs w0 a0 i ⟨d, .convert s t x, ty, pos, after, g⟩) (hx : Has ops Fs w0 a0 i ⟨d, .convert s t x, ty, pos, after, g⟩ x (Is u))
    (h : ∀ w, (Go.convert s t u).run P w = .ok r w) : Ob P ops Fs w0 a0 i ⟨d, .convert s t x, ty, pos, after, g⟩ (Is r) :=
  Ob.stay hw fun a w cx => ⟨r, by
    have h1 : a.eval x = u := hx a w cx
    generalize a.eval = ρ at h1
    simp [execOp, h1, h w], rfl⟩
end
def RDotsRel (w : World) (l : List Dot) (n : Nat) (v i : Value) (wr : World) : Prop :=
  ∃ (k : Nat) (u : Value), i = .int .i64 k ∧ u = v ∧ k ≤ n ∧ Below w.heap.size w wr ∧ OwnB wr w.heap.size u (numB n ++ (l.take k).flatMap dotB)
set_option maxRecDepth 100000 in
set_option maxHeartbeats 4000000 in
theorem rdots (A : Option Addr) (n c : Nat) (l : List Dot) (w : World) (hd : Dots w A n c l) (hl : ∀ d ∈ l, validD d = true) (hn : n ≤ 1000) :
    Calls Tryz.prog 116 #[.slice A n c] w (Ret w (IsOwnB w.heap.size (dotsB l))) := by
  have C := Lib.hid (rnumber_ n (by omega) w)
  have HD := Lib.hid hd; have HL := Lib.hid hl; have HN := Lib.hid hd.len
  clear hd hl
  go_enter Tryz.func116, Tryz.ntmps116
  go_wp2_with fail
  refine C.out.mono ?_
  clear C
  rintro _ w1 ⟨v1, rfl, hb1, ho1⟩
  have B1 := Lib.hid hb1; have O1 := Lib.hid ho1
  clear hb1 ho1
  go_wp2
  go_loopw [3, 4] (fun v i wr => RDotsRel w l n v i wr) (fun _ i _ => n - (intOf i).toNat)
  case atStart => exact ⟨0, _, rfl, rfl, by omega, B1.out, by simp only [List.take_zero, List.flatMap_nil, List.append_nil]; exact O1.out⟩
  case round =>
    obtain ⟨k, v, rfl, rfl, hk, hb2, ho2⟩ := hrel
    by_cases hlt : k < n
    · obtain ⟨b, o, x, y, rfl, hbs, d1, d2, c1, c2⟩ := HD.out.at_ hlt
      have D1 := Lib.hid d1
      obtain ⟨h1, h2, h3, h4⟩ := validD_iff.1 (HL.out (x, y) (List.mem_of_getElem? d1))
      obtain ⟨x', rfl⟩ := Int.eq_ofNat_of_zero_le (show 0 ≤ x by omega)
      obtain ⟨y', rfl⟩ := Int.eq_ofNat_of_zero_le (show 0 ≤ y by omega)
      have hx' : x' ≤ 65535 := by simp at h2; omega
      have hy' : y' ≤ 4294967295 := by simp at h4; omega
      have U := Lib.hid hx'; have Y := Lib.hid hy'
      have C1 := Lib.hid (cellKeep hb2 c1); have C2 := Lib.hid (cellKeep hb2 c2)
      have HI := Lib.hid (show (rowR v.ownBlock).I wr from fun q hq => (OwnSl.own ho2 q hq).2)
      have HNE := Lib.hid (show some b ≠ v.ownBlock from fun hq => by have := (OwnSl.own ho2 b hq.symm).1; omega)
      obtain ⟨L, hL⟩ : ∃ L, L = numB n ++ (l.take k).flatMap dotB := ⟨_, rfl⟩
      rw [← hL] at ho2
      have LL := Lib.hid (show L.length ≤ 100000 by
        rw [hL, List.length_append]
        have t1 := flat_len (l := l.take k) (fun d hd => HL.out d (List.mem_of_mem_take hd))
        have t2 := numB_ten (n := n) (by omega)
        have t4 : (l.take k).length ≤ n := by rw [List.length_take]; omega
        omega)
      have B2 := Lib.hid hb2; have O2 := Lib.hid ho2; have EL := Lib.hid hL; have KN := Lib.hid hlt
      clear h1 h2 h3 h4 d1 d2 c1 c2 hb2 ho2 hL hx' hy' hbs
      have hlt := KN.out
      go_wp2_with fail
      refine wp_region_ME (R := (rowR v.ownBlock)) 16 8 ((phiO w.heap.size v L)) mixed (by kernel_rfl) (by kernel_rfl) (by kernel_rfl) ?_ ?_ ?_ ?_
      · exact phiO_mono
      · exact HI.out
      · exact O2.out
      refine MDerE.step (by kernel_rfl) (fun wS hS hI => Ob.move Wanted.free Has.oldIs) ?_
      refine MDerE.step (by kernel_rfl) (fun wS hS hI => Ob.move Wanted.free Has.oldIs) ?_
      refine MDerE.step (by kernel_rfl) (fun wS hS hI => Ob.move Wanted.free Has.oldIs) ?_
      refine MDerE.step (by kernel_rfl) (fun wS hS hI => Ob.indexV Wanted.free (Has.new 1 1) (Has.new 2 0) (fun w1 => index_dots KN.out)) ?_
      refine MDerE.step (by kernel_rfl) (fun wS hS hI => Ob.fieldV Wanted.free (Has.new 3 0) (fun w1 => field_dot0)) ?_
      refine MDerE.step (by kernel_rfl) (fun wS hS hI => Ob.loadV Wanted.free (Has.new 4 0) (fun w1 hb1 => load_int hb1 (hS.cell C1.out HNE.out))) ?_
      refine MDerE.step (by kernel_rfl) (fun wS hS hI => Ob.convV Wanted.free (Has.new 5 0) (fun w1 => conv_u64n (by have := U.out; omega))) ?_
      refine MDerE.step (by kernel_rfl) (fun wS hS hI => Ob.call1V Wanted.free enters56 (Has.new 6 0) (fun w1 hb1 => ret_free (r := v.ownBlock) (rnumber_ x' (by have := U.out; omega) w1) (fun q hq => Nat.lt_of_lt_of_le (hI q hq) hb1.size))) ?_
      refine MDerE.write (by kernel_rfl) (fun wS hS hI hP => ObS.appS Wanted.free (Has.new 0 7) (Has.new 7 0) infB Tryz.underlying22 hP (by have := LL.out; have := numB_ten (n := x') (by have := U.out; omega); omega) (by have := B2.out.size; have := hS.size; omega)) ?_
      refine MDerE.step (by kernel_rfl) (fun wS hS hI => Ob.move Wanted.free Has.oldIs) ?_
      refine MDerE.step (by kernel_rfl) (fun wS hS hI => Ob.move Wanted.free Has.oldIs) ?_
      refine MDerE.step (by kernel_rfl) (fun wS hS hI => Ob.indexV Wanted.free (Has.new 9 1) (Has.new 10 0) (fun w1 => index_dots KN.out)) ?_
      refine MDerE.step (by kernel_rfl) (fun wS hS hI => Ob.fieldV Wanted.free (Has.new 11 0) (fun w1 => field_dot1)) ?_
      refine MDerE.step (by kernel_rfl) (fun wS hS hI => Ob.loadV Wanted.free (Has.new 12 0) (fun w1 hb1 => load_int hb1 (hS.cell C2.out HNE.out))) ?_
      refine MDerE.step (by kernel_rfl) (fun wS hS hI => Ob.convV Wanted.free (Has.new 13 0) (fun w1 => conv_u64n (by have := Y.out; omega))) ?_
      refine MDerE.step (by kernel_rfl) (fun wS hS hI => Ob.call1V Wanted.free enters56 (Has.new 14 0) (fun w1 hb1 => ret_free (r := v.ownBlock) (rnumber_ y' (by have := Y.out; omega) w1) (fun q hq => Nat.lt_of_lt_of_le (hI q hq) hb1.size))) ?_
      intro wE hE hIE hPE
      change EndM _ [some 15, some 16, some 17, some 18, some 19, some 20, some 21, some 22, some 23, some 24, some 25, some 26, some 27, some 28, some 29, some 30] _ _ _
      simp only [EndM, List.reverse_cons, List.reverse_nil, List.nil_append, List.cons_append]
      iterate 7 (rintro _ rfl)
      rintro _ _h7
      rintro _ h8
      iterate 6 (rintro _ rfl)
      rintro _ ⟨A15, n15, c15, rfl, s15, _⟩
      simp only [Act.put, List.setIfInBounds_toArray, List.set_cons_zero, List.set_cons_succ]
      rename_i v u7 u8 hr15
      have hsz := hE.size
      have hBr := B2.out.size
      have BE : Below w.heap.size w wE := B2.out.grown hE hBr (fun q hq => (OwnSl.own O2.out q hq).1)
      refine wpList_appS (B := w.heap.size) (v := u8) (l := L ++ numB x') infB rfl rfl Tryz.underlying22 rfl rfl h8 s15 (by rw [List.length_append]; have := LL.out; have := numB_ten (n := x') (by have := U.out; omega); have := numB_ten (n := y') (by have := Y.out; omega); omega) BE.size ?_
      intro v9 w9 ho9 hg9 _
      have B9 := Lib.hid (BE.grown hg9 BE.size (fun q hq => (OwnSl.own h8 q hq).1))
      have O9 := Lib.hid ho9
      clear hE hIE hPE _h7 h8 s15 hr15 hsz hBr BE ho9 hg9
      simp only [Act.put, List.setIfInBounds_toArray, List.set_cons_zero, List.set_cons_succ]
      refine wpList_assign (v := v9) rfl rfl rfl ?_
      refine wpList_nil ?_
      simp only [Act.put, List.setIfInBounds_toArray, List.set_cons_zero, List.set_cons_succ]
      go_wp2
      go_roundw
      case rel =>
        refine ⟨k + 1, v9, by simp, rfl, KN.out, B9.out, ?_⟩
        have := O9.out
        have e : l.take (k + 1) = l.take k ++ [((x' : Int), (y' : Int))] := by rw [List.take_add_one, D1.out]; rfl
        rw [e, List.flatMap_append, ← List.append_assoc, ← EL.out]
        simpa [dotB, List.append_assoc] using this
      case measure => simp [intOf]; omega
    · have hk2 : k = n := by omega
      subst hk2
      have B2 := Lib.hid hb2; have O2 := Lib.hid (show OwnB _ w.heap.size v (dotsB l) by
        rw [List.take_of_length_le (by have := HN.out; omega)] at ho2
        unfold dotsB; rw [← HN.out]; exact ho2)
      clear hb2 ho2
      go_wp2
      go_ret
      exact ⟨_, rfl, B2.out, O2.out⟩
end Go.Proofs.YtphhhnjeojdnkaaGreatDoor

/-
  ref14.Context.
-/
namespace Go.Proofs.YtphhhnjeojdnkaaGreatDoor
open Go.RowKit
theorem enters116 : Enters Tryz.prog 116 := enters_of Tryz.func116 (by kernel_rfl) rfl
theorem ret_low {f : FuncId} {args : Array Value} {ty : TypeId} {w : World} {α : Type} {e : Enc α} {l : List α} {B : Nat} (h : Calls Tryz.prog f args w (Ret w (IsOwn e ty w.heap.size l))) (hB : B ≤ w.heap.size) : Calls Tryz.prog f args w (Ret w (IsOwn e ty B l)) :=
  h.mono fun _ _ ⟨v, h1, h2, h3⟩ => ⟨v, h1, h2, OwnSl.low h3 hB⟩
section
variable {w0 w : World} {N o : Nat} {A : Option Addr} {n c : Nat}
theorem field_x0 : (Instr.fieldAt 60 (.pointer (some ⟨N, o, none⟩)) 0).run Tryz.prog w = .ok (.pointer (some ⟨N, o, none⟩)) w := by simp [go_sem]
theorem field_x1 : (Instr.fieldAt 60 (.pointer (some ⟨N, o, none⟩)) 1).run Tryz.prog w = .ok (.pointer (some ⟨N, o + 1, none⟩)) w := by simp [go_sem]
theorem load_sl58 (hb : Below w0.heap.size w0 w) (h0 : w0.cell? ⟨N, o, none⟩ = some (.slice A n c)) : (Instr.loadAt 58 (.pointer (some ⟨N, o, none⟩))).run Tryz.prog w = .ok (.slice A n c) w := by
  have c1 := cellKeep hb h0
  simp [go_sem, c1]
theorem load_sl57 (hb : Below w0.heap.size w0 w) (h0 : w0.cell? ⟨N, o, none⟩ = some (.slice A n c)) : (Instr.loadAt 57 (.pointer (some ⟨N, o, none⟩))).run Tryz.prog w = .ok (.slice A n c) w := by
  have c1 := cellKeep hb h0
  simp [go_sem, c1]
end
set_option maxRecDepth 100000 in
set_option maxHeartbeats 4000000 in
theorem rcontext {A B : Option Addr} {n m ca cb : Nat} {c : Ctx} {w : World} (h : Con w A n ca B m cb c) (v1 : ∀ d ∈ c.1, validD d = true) (v2 : ∀ d ∈ c.2, validD d = true) (hn : n ≤ 1000) (hm : m ≤ 1000) :
    Calls Tryz.prog 86 #[.agg #[.slice A n ca, .slice B m cb]] w (Ret w (IsOwnB w.heap.size (ctxB c))) := by
  obtain ⟨N, hN⟩ : ∃ N, N = w.heap.size := ⟨_, rfl⟩
  have hx : Below w.heap.size w (w.alloc (.cells #[.slice A n ca, .slice B m cb] 60)) := by go_grown
  have Y0 := Lib.hid (show (w.alloc (.cells #[.slice A n ca, .slice B m cb] 60)).cell? ⟨N, 0, none⟩ = some (.slice A n ca) by rw [hN]; simp [go_sem])
  have Y1 := Lib.hid (show (w.alloc (.cells #[.slice A n ca, .slice B m cb] 60)).cell? ⟨N, 0 + 1, none⟩ = some (.slice B m cb) by rw [hN]; simp [go_sem])
  have H := Lib.hid (h.mono hx); have BX := Lib.hid hx; have V1 := Lib.hid v1; have V2 := Lib.hid v2; have HN := Lib.hid hn; have HM := Lib.hid hm
  have EN : Hid (w.heap.size = N) := Lib.hid hN.symm
  clear h hx v1 v2 hn hm hN
  go_enter Tryz.func86, Tryz.ntmps86
  go_wp2_with fail
  rw [EN.out]
  have hB := Lib.hid (show N ≤ (w.alloc (.cells #[.slice A n ca, .slice B m cb] 60)).heap.size by have := BX.out.size; have := EN.out; omega)
  have BX2 : Hid (Below N w (w.alloc (.cells #[.slice A n ca, .slice B m cb] 60))) := Lib.hid (by rw [← EN.out]; exact BX.out)
  generalize w.alloc (.cells #[.slice A n ca, .slice B m cb] 60) = W at *
  refine wp_region_MT 6 mixed (by kernel_rfl) (by kernel_rfl) ?_
  refine MDerT.step (Ob.fieldV Wanted.free Has.oldIs (fun w1 => field_x0)) ?_
  refine MDerT.step (Ob.loadV Wanted.free (Has.new 0 0) (fun w1 hb1 => load_sl58 hb1 Y0.out)) ?_
  refine MDerT.step (Ob.call1V Wanted.free enters116 (Has.new 1 0) (fun w1 hb1 => ret_low (B := N) (rdots A n ca c.1 w1 (H.out.v.mono hb1) V1.out HN.out) (Nat.le_trans hB.out hb1.size))) ?_
  refine MDerT.step (Ob.fieldV Wanted.free Has.oldIs (fun w1 => field_x1)) ?_
  refine MDerT.step (Ob.loadV Wanted.free (Has.new 3 0) (fun w1 hb1 => load_sl57 hb1 Y1.out)) ?_
  refine MDerT.step (Ob.call1V Wanted.free enters116 (Has.new 4 0) (fun w1 hb1 => ret_low (B := N) (rdots B m cb c.2 w1 (H.out.k.mono hb1) V2.out HM.out) (Nat.le_trans hB.out hb1.size))) ?_
  simp only [MDerT, dstsOf, List.map, EndM, List.reverse_cons, List.reverse_nil, List.nil_append, List.cons_append, List.take_succ_cons, List.take_zero, List.drop_succ_cons, List.drop_zero]
  intro wE hE
  iterate 2 (rintro _ rfl)
  rintro _ h2
  iterate 2 (rintro _ rfl)
  rintro _ h5
  simp only [Act.put, List.setIfInBounds_toArray, List.set_cons_zero, List.set_cons_succ]
  rename_i u2 u5
  obtain ⟨A5, c5, rfl, s5⟩ := OwnSl.sl h5
  have BE : Below N w wE := BX2.out.trans (hE.mono hB.out)
  have t1 := dotsB_len V1.out (by have := H.out.v.len; have := HN.out; omega)
  have t2 := dotsB_len V2.out (by have := H.out.k.len; have := HM.out; omega)
  have hNE : N ≤ wE.heap.size := Nat.le_trans hB.out hE.size
  refine wpList_appS (B := N) (v := u2) (l := dotsB c.1) infB rfl rfl Tryz.underlying22 rfl rfl h2 s5 (by have := H.out.v.len; have := H.out.k.len; have := HN.out; have := HM.out; omega) hNE ?_
  intro v9 w9 ho9 hg9 _
  have B9 := Lib.hid (show Below w.heap.size w w9 by rw [EN.out]; exact BE.grown hg9 hNE (fun q hq => (OwnSl.own h2 q hq).1))
  have O9 := Lib.hid (show OwnB w9 w.heap.size v9 (ctxB c) by rw [EN.out]; exact ho9)
  clear hE h2 h5 s5 BE t1 t2 hNE ho9 hg9
  simp only [Act.put, List.setIfInBounds_toArray, List.set_cons_zero, List.set_cons_succ]
  refine wpList_assign (v := v9) rfl rfl rfl ?_
  refine wpList_nil ?_
  simp only [Act.put, List.setIfInBounds_toArray, List.set_cons_zero, List.set_cons_succ]
  go_wp2
  go_ret
  exact ⟨_, rfl, B9.out, O9.out⟩
end Go.Proofs.YtphhhnjeojdnkaaGreatDoor

/-
  ref14.Bytes at a cart of one item with one mark.
-/
namespace Go.Proofs.YtphhhnjeojdnkaaGreatDoor
open Go.RowKit
theorem enters86 : Enters Tryz.prog 86 := enters_of Tryz.func86 (by kernel_rfl) rfl
theorem enters57 : Enters Tryz.prog 57 := enters_of Tryz.func57 (by kernel_rfl) rfl
theorem len_items {w : World} {A : Option Addr} {n c : Nat} {ty : TypeId} : (Builtin.len_ #[61] ty #[.slice A n c]).run Tryz.prog w = .ok (.int .i64 (n : Int)) w := by simp [go_sem]
theorem conv_one {w : World} : (convert 3 98 (.int .i64 ((1 : Nat) : Int))).run Tryz.prog w = .ok (.int .u64 ((1 : Nat) : Int)) w := conv_u64n (by omega)
theorem numB_pos (n : Nat) : 1 ≤ (numB n).length := by
  cases h : numB n with
  | nil => exfalso; unfold numB at h; split at h <;> simp at h
  | cons => simp
theorem ownb_ne {w : World} {B J : Nat} {v : Value} {l s : List UInt8} {ty : TypeId} (h : OwnSl encB ty w B v l) (hl : 1 ≤ l.length) (hc : w.cell? ⟨J, 0, none⟩ = some (strV s)) : some J ≠ v.ownBlock := by
  rcases h.2 with ⟨rfl, h0⟩ | ⟨g, cap, cur, rfl, hg, hh, hn, hm, hs, ht⟩
  · omega
  · intro e
    have e2 : J = g := Option.some.inj e
    subst e2
    obtain ⟨x, t, rfl⟩ := List.exists_cons_of_length_pos (l := l) (by omega)
    have := World.ownsRow.cells (v := .slice (some ⟨J, 0, none⟩) (x :: t).length cap) h rfl 0 (.int .u8 x.toNat) rfl
    have h2 : w.cell? ⟨J, 0, none⟩ = some (.int .u8 x.toNat) := this
    rw [hc] at h2
    cases h2
theorem ownb_ne64 {w : World} {B J : Nat} {v : Value} {l : List UInt8} {z : Int} {ty : TypeId} (h : OwnSl encB ty w B v l) (hl : 1 ≤ l.length) (hc : w.cell? ⟨J, 0, none⟩ = some (.int .u64 z)) : some J ≠ v.ownBlock := by
  rcases h.2 with ⟨rfl, h0⟩ | ⟨g, cap, cur, rfl, hg, hh, hn, hm, hs, ht⟩
  · omega
  · intro e
    have e2 : J = g := Option.some.inj e
    subst e2
    obtain ⟨x, t, rfl⟩ := List.exists_cons_of_length_pos (l := l) (by omega)
    have := World.ownsRow.cells (v := .slice (some ⟨J, 0, none⟩) (x :: t).length cap) h rfl 0 (.int .u8 x.toNat) rfl
    have h2 : w.cell? ⟨J, 0, none⟩ = some (.int .u8 x.toNat) := this
    rw [hc] at h2
    cases h2
theorem strB_len {l : List UInt8} (h : l.length ≤ 100000) : (strB l).length ≤ 10 + l.length := by
  unfold strB; rw [List.length_append]; have := numB_ten (n := l.length) (by omega); omega
section
variable {w0 w : World} {N o : Nat}
theorem field_i0 : (Instr.fieldAt 115 (.pointer (some ⟨N, 0, none⟩)) 0).run Tryz.prog w = .ok (.pointer (some ⟨N, 0, none⟩)) w := by simp [go_sem]
theorem field_i1 : (Instr.fieldAt 115 (.pointer (some ⟨N, 0, none⟩)) 1).run Tryz.prog w = .ok (.pointer (some ⟨N, 1, none⟩)) w := by simp [go_sem]
theorem load_strN {l : List UInt8} (hb : Below w0.heap.size w0 w) (h0 : w0.cell? ⟨N, o, none⟩ = some (strV l)) : (Instr.loadAt 9 (.pointer (some ⟨N, o, none⟩))).run Tryz.prog w = .ok (strV l) w := by
  have c1 := cellKeep hb h0
  simp [go_sem, c1]
theorem load_marks {A : Option Addr} {n c : Nat} (hb : Below w0.heap.size w0 w) (h0 : w0.cell? ⟨N, o, none⟩ = some (.slice A n c)) : (Instr.loadAt 113 (.pointer (some ⟨N, o, none⟩))).run Tryz.prog w = .ok (.slice A n c) w := by
  have c1 := cellKeep hb h0
  simp [go_sem, c1]
theorem len_marks {A : Option Addr} {n c : Nat} {ty : TypeId} : (Builtin.len_ #[113] ty #[.slice A n c]).run Tryz.prog w = .ok (.int .i64 (n : Int)) w := by simp [go_sem]
end
set_option maxRecDepth 100000 in
set_option maxHeartbeats 8000000 in
theorem rbytes {n m ca cb bi bm : Nat} {A B : Option Addr} {c : Ctx} {nm : List UInt8} {x k q t : Nat} {w : World} (h : CartOK w A n ca B m cb c bi bm nm x k q t) (hn : n ≤ 1000) (hm : m ≤ 1000) :
    Calls Tryz.prog 58 #[.agg (cartA A n ca B m cb bi)] w (Ret w (IsOwnB w.heap.size (wholeB c nm ⟨x, k, q, t⟩))) := by
  obtain ⟨N, hN⟩ : ∃ N, N = w.heap.size := ⟨_, rfl⟩
  have hx : Below w.heap.size w (w.alloc (.cells (cartA A n ca B m cb bi) 63)) := by go_grown
  have Y0 := Lib.hid (show (w.alloc (.cells (cartA A n ca B m cb bi) 63)).cell? ⟨N, 0, none⟩ = some (.slice A n ca) by rw [hN]; simp [go_sem])
  have Y1 := Lib.hid (show (w.alloc (.cells (cartA A n ca B m cb bi) 63)).cell? ⟨N, 1, none⟩ = some (.slice B m cb) by rw [hN]; simp [go_sem])
  have Y2 := Lib.hid (show (w.alloc (.cells (cartA A n ca B m cb bi) 63)).cell? ⟨N, 2, none⟩ = some (.slice (some ⟨bi, 0, none⟩) 1 1) by rw [hN]; simp [go_sem])
  have H := Lib.hid (h.mono hx); have BX := Lib.hid hx; have HN := Lib.hid hn; have HM := Lib.hid hm
  have EN : Hid (w.heap.size = N) := Lib.hid hN.symm
  have HBI := Lib.hid (show bi < N + 1 by have := h.at_.item.lt; omega); have HBM := Lib.hid (show bm < N + 1 by have := h.at_.item.mark.lt; omega)
  clear h hx hn hm hN
  go_enter Tryz.func58, Tryz.ntmps58
  go_wp2_with fail
  rw [EN.out]
  have hB := Lib.hid (show N ≤ (w.alloc (.cells (cartA A n ca B m cb bi) 63)).heap.size by have := BX.out.size; have := EN.out; omega)
  have BX2 : Hid (Below N w (w.alloc (.cells (cartA A n ca B m cb bi) 63))) := Lib.hid (by rw [← EN.out]; exact BX.out)
  have hNlt := Lib.hid (show N < (w.alloc (.cells (cartA A n ca B m cb bi) 63)).heap.size from World.block_lt_of_cell? _ _ Y0.out)
  generalize w.alloc (.cells (cartA A n ca B m cb bi) 63) = W at *
  refine wp_region_MT 8 mixed (by kernel_rfl) (by kernel_rfl) ?_
  refine MDerT.step (Ob.fieldV Wanted.free Has.oldIs (fun w1 => field_c0)) ?_
  refine MDerT.step (Ob.loadV Wanted.free (Has.new 0 0) (fun w1 hb1 => load_cctx hb1 Y0.out Y1.out)) ?_
  refine MDerT.step (Ob.call1V Wanted.free enters86 (Has.new 1 0) (fun w1 hb1 => ret_low (B := N + 1) (rcontext (H.out.mono hb1).at_.con H.out.v1 H.out.v2 HN.out HM.out) (Nat.le_trans hNlt.out hb1.size))) ?_
  refine MDerT.step (Ob.fieldV Wanted.free Has.oldIs (fun w1 => field_c1)) ?_
  refine MDerT.step (Ob.loadV Wanted.free (Has.new 3 0) (fun w1 hb1 => load_citems (v := undef) hb1 Y2.out)) ?_
  refine MDerT.step (Ob.lenV Wanted.free (Has.new 4 0) (fun w1 => len_items)) ?_
  refine MDerT.step (Ob.convV Wanted.free (Has.new 5 0) (fun w1 => conv_one)) ?_
  refine MDerT.step (Ob.call1V Wanted.free enters56 (Has.new 6 0) (fun w1 hb1 => ret_low (B := N + 1) (rnumber_ 1 (by omega) w1) (Nat.le_trans hNlt.out hb1.size))) ?_
  simp only [MDerT, dstsOf, List.map, EndM, List.reverse_cons, List.reverse_nil, List.nil_append, List.cons_append, List.take_succ_cons, List.take_zero, List.drop_succ_cons, List.drop_zero]
  intro wE hE
  iterate 2 (rintro _ rfl)
  rintro _ h2
  iterate 4 (rintro _ rfl)
  rintro _ h7
  simp only [Act.put, List.setIfInBounds_toArray, List.set_cons_zero, List.set_cons_succ]
  rename_i u2 u7
  obtain ⟨A7, c7, rfl, s7⟩ := OwnSl.sl h7
  have BE : Below (N + 1) W wE := hE.mono hNlt.out
  have hNE : N + 1 ≤ wE.heap.size := Nat.le_trans hNlt.out hE.size
  have t0 := num1_len
  have t1 := dotsB_len H.out.v1 (by have := H.out.at_.con.v.len; have := HN.out; omega)
  have t2 := dotsB_len H.out.v2 (by have := H.out.at_.con.k.len; have := HM.out; omega)
  have CL := Lib.hid (show (ctxB c ++ numB 1).length ≤ 100000 by have := H.out.at_.con.v.len; have := H.out.at_.con.k.len; have := HN.out; have := HM.out; unfold ctxB; simp only [List.length_append]; omega)
  refine wpList_appS (B := N + 1) (v := u2) (l := ctxB c) infB rfl rfl Tryz.underlying22 rfl rfl h2 s7 (by have := CL.out; rw [List.length_append] at this; omega) hNE ?_
  intro v2 w2 ho2 hg2 _
  have B2 := Lib.hid (BE.grown hg2 hNE (fun q hq => (OwnSl.own h2 q hq).1))
  have O2 := Lib.hid ho2
  clear hE h2 h7 s7 BE t1 t2 t0 hNE ho2 hg2
  simp only [Act.put, List.setIfInBounds_toArray, List.set_cons_zero, List.set_cons_succ]
  refine wpList_assign (v := v2) rfl rfl rfl ?_
  refine wpList_nil ?_
  simp only [Act.put, List.setIfInBounds_toArray, List.set_cons_zero, List.set_cons_succ]
  have BL : Hid (∀ {a : Addr} {v : Value} {w' : World}, W.cell? a = some v → a.block < N + 1 → Below (N + 1) W w' → w'.cell? a = some v) := Lib.hid (fun h1 h2 hb => (hb.cell h2).trans h1)
  have z0 := BL.out Y2.out (Nat.lt_succ_self N) B2.out
  have z1 := BL.out H.out.at_.item.c0 HBI.out B2.out
  have z2 := BL.out H.out.at_.item.c1 HBI.out B2.out
  have hNs : N < w2.heap.size := World.block_lt_of_cell? _ _ z0
  have hIs : bi < w2.heap.size := World.block_lt_of_cell? _ _ z1
  go_wp2
  refine wp_loop_rounds 2 ?_
  rw [rounds_succ]
  obtain ⟨J, hJ⟩ : ∃ J, J = w2.heap.size := ⟨_, rfl⟩
  have hb3 : Below w2.heap.size w2 (w2.alloc (.cells #[strV nm, .slice (some ⟨bm, 0, none⟩) 1 1] 115)) := by go_grown
  have X0 := Lib.hid (show (w2.alloc (.cells #[strV nm, .slice (some ⟨bm, 0, none⟩) 1 1] 115)).cell? ⟨J, 0, none⟩ = some (strV nm) by rw [hJ]; simp [go_sem])
  have X1 := Lib.hid (show (w2.alloc (.cells #[strV nm, .slice (some ⟨bm, 0, none⟩) 1 1] 115)).cell? ⟨J, 1, none⟩ = some (.slice (some ⟨bm, 0, none⟩) 1 1) by rw [hJ]; simp [go_sem])
  have O3 := Lib.hid (OwnSl.mono O2.out hb3)
  have B3 := Lib.hid (B2.out.trans (hb3.mono (show N + 1 ≤ w2.heap.size by omega)))
  have JNE := Lib.hid (show some J ≠ v2.ownBlock from fun hq => by have := (OwnSl.own O2.out J hq.symm).2; omega)
  have EJ : Hid (w2.heap.size = J) := Lib.hid hJ.symm
  clear hb3 hJ
  go_wp2_with fail
  rw [EJ.out]
  clear z0 z1 z2 hNs hIs
  obtain ⟨L, hL⟩ : ∃ L, L = ctxB c ++ numB 1 := ⟨_, rfl⟩
  have EL : Hid (ctxB c ++ numB 1 = L) := Lib.hid hL.symm
  clear hL
  rw [EL.out] at O3 CL
  generalize w2.alloc (.cells #[strV nm, .slice (some ⟨bm, 0, none⟩) 1 1] 115) = w3 at *
  have NL := Lib.hid (show nm.length ≤ 100000 by have := H.out.small; omega)
  refine wp_region_ME (R := (rowR v2.ownBlock)) 10 4 ((phiO (N + 1) v2 L)) mixed (by kernel_rfl) (by kernel_rfl) (by kernel_rfl) ?_ ?_ ?_ ?_
  · exact phiO_mono
  · exact (fun q hq => (OwnSl.own O3.out q hq).2)
  · exact O3.out
  refine MDerE.step (by kernel_rfl) (fun wS hS hI => Ob.move Wanted.free Has.oldIs) ?_
  refine MDerE.step (by kernel_rfl) (fun wS hS hI => Ob.fieldV Wanted.free Has.oldIs (fun w1 => field_i0)) ?_
  refine MDerE.step (by kernel_rfl) (fun wS hS hI => Ob.loadV Wanted.free (Has.new 1 0) (fun w1 hb1 => load_strN hb1 (hS.cell X0.out JNE.out))) ?_
  refine MDerE.step (by kernel_rfl) (fun wS hS hI => Ob.call1V Wanted.free enters57 (Has.new 2 0) (fun w1 hb1 => ret_free (r := v2.ownBlock) (rstring nm NL.out w1) (fun q hq => Nat.lt_of_lt_of_le (hI q hq) hb1.size))) ?_
  refine MDerE.write (by kernel_rfl) (fun wS hS hI hP => ObS.appS Wanted.free (Has.new 0 3) (Has.new 3 0) infB Tryz.underlying22 hP (by have := CL.out; have := strB_len NL.out; have := NL.out; omega) (by have := B3.out.size; have := hS.size; have := hNlt.out; omega)) ?_
  refine MDerE.step (by kernel_rfl) (fun wS hS hI => Ob.fieldV Wanted.free Has.oldIs (fun w1 => field_i1)) ?_
  refine MDerE.step (by kernel_rfl) (fun wS hS hI => Ob.loadV Wanted.free (Has.new 5 0) (fun w1 hb1 => load_marks hb1 (hS.cell X1.out JNE.out))) ?_
  refine MDerE.step (by kernel_rfl) (fun wS hS hI => Ob.lenV Wanted.free (Has.new 6 0) (fun w1 => len_marks)) ?_
  refine MDerE.step (by kernel_rfl) (fun wS hS hI => Ob.convV Wanted.free (Has.new 7 0) (fun w1 => conv_one)) ?_
  refine MDerE.step (by kernel_rfl) (fun wS hS hI => Ob.call1V Wanted.free enters56 (Has.new 8 0) (fun w1 hb1 => ret_free (r := v2.ownBlock) (rnumber_ 1 (by omega) w1) (fun q hq => Nat.lt_of_lt_of_le (hI q hq) hb1.size))) ?_
  intro wE hE hIE hPE
  change EndM _ [some 31, some 32, some 33, some 34, some 35, some 36, some 37, some 38, some 39, some 40] _ _ _
  simp only [EndM, List.reverse_cons, List.reverse_nil, List.nil_append, List.cons_append]
  iterate 3 (rintro _ rfl)
  rintro _ _h3
  rintro _ h4
  iterate 4 (rintro _ rfl)
  rintro _ ⟨A9, n9, c9, rfl, s9, _⟩
  simp only [Act.put, List.setIfInBounds_toArray, List.set_cons_zero, List.set_cons_succ]
  rename_i v2 u3 u4 hr9
  have hN3 : N + 1 ≤ w3.heap.size := by have := B3.out.size; have := hNlt.out; omega
  have BE : Below (N + 1) W wE := B3.out.grown hE hN3 (fun q hq => (OwnSl.own O3.out q hq).1)
  have hNE : N + 1 ≤ wE.heap.size := Nat.le_trans hN3 hE.size
  have JE := ownb_ne h4 (by rw [← EL.out]; have := numB_pos 1; simp only [List.length_append]; omega) (hE.cell X0.out JNE.out)
  refine wpList_appS (B := N + 1) (v := u4) (l := L ++ strB nm) infB rfl rfl Tryz.underlying22 rfl rfl h4 s9 (by have := CL.out; have := strB_len NL.out; have := NL.out; have := num1_len; simp only [List.length_append]; omega) hNE ?_
  intro v5 w5 ho5 hg5 _
  have X5 := Lib.hid (hg5.cell (hE.cell X1.out JNE.out) JE); have X6 := Lib.hid (hg5.cell (hE.cell X0.out JNE.out) JE)
  have B5 := Lib.hid (BE.grown hg5 hNE (fun q hq => (OwnSl.own h4 q hq).1))
  have O5 := Lib.hid ho5
  clear hE hIE hPE _h3 h4 s9 hr9 BE hNE hN3 JE ho5 hg5
  simp only [Act.put, List.setIfInBounds_toArray, List.set_cons_zero, List.set_cons_succ]
  refine wpList_assign (v := v5) rfl rfl rfl ?_
  refine wpList_nil ?_
  simp only [Act.put, List.setIfInBounds_toArray, List.set_cons_zero, List.set_cons_succ]
  have z0 := X5.out
  have z1 := BL.out H.out.at_.item.mark.c0 HBM.out B5.out
  have z2 := BL.out H.out.at_.item.mark.c1 HBM.out B5.out
  have z3 := BL.out H.out.at_.item.mark.c2 HBM.out B5.out
  have z4 := BL.out H.out.at_.item.mark.c3 HBM.out B5.out
  have hJs : J < w5.heap.size := World.block_lt_of_cell? _ _ z0
  have hMs : bm < w5.heap.size := World.block_lt_of_cell? _ _ z1
  have hx := H.out.hx; have hk := H.out.hk; have hq := H.out.hq; have ht := H.out.ht
  go_wp2
  refine wp_loop_rounds 2 ?_
  rw [rounds_succ]
  obtain ⟨G, hG⟩ : ∃ G, G = w5.heap.size + 1 := ⟨_, rfl⟩
  have hb6 : Below w5.heap.size w5 ((w5.alloc (.cells #[.int .i64 x, .int .i64 k, .int .i64 q, .int .u64 t] 112)).alloc (.cells #[.int .u64 x, .int .u64 k, .int .u64 q, .int .u64 t] 98)) := by go_grown
  have hN5 : N + 1 ≤ w5.heap.size := by have := B5.out.size; have := hNlt.out; omega
  have G0 := Lib.hid (show ((w5.alloc (.cells #[.int .i64 x, .int .i64 k, .int .i64 q, .int .u64 t] 112)).alloc (.cells #[.int .u64 x, .int .u64 k, .int .u64 q, .int .u64 t] 98)).cell? ⟨G, 0, none⟩ = some (.int .u64 x) by rw [hG]; simp [go_sem])
  have G1 := Lib.hid (show ((w5.alloc (.cells #[.int .i64 x, .int .i64 k, .int .i64 q, .int .u64 t] 112)).alloc (.cells #[.int .u64 x, .int .u64 k, .int .u64 q, .int .u64 t] 98)).cell? ⟨G, 1, none⟩ = some (.int .u64 k) by rw [hG]; simp [go_sem])
  have G2 := Lib.hid (show ((w5.alloc (.cells #[.int .i64 x, .int .i64 k, .int .i64 q, .int .u64 t] 112)).alloc (.cells #[.int .u64 x, .int .u64 k, .int .u64 q, .int .u64 t] 98)).cell? ⟨G, 2, none⟩ = some (.int .u64 q) by rw [hG]; simp [go_sem])
  have G3 := Lib.hid (show ((w5.alloc (.cells #[.int .i64 x, .int .i64 k, .int .i64 q, .int .u64 t] 112)).alloc (.cells #[.int .u64 x, .int .u64 k, .int .u64 q, .int .u64 t] 98)).cell? ⟨G, 3, none⟩ = some (.int .u64 t) by rw [hG]; simp [go_sem])
  have O6 := Lib.hid (OwnSl.mono O5.out hb6); have G4 := Lib.hid (cellKeep hb6 X6.out); have G5 := Lib.hid (cellKeep hb6 X5.out)
  have B6 := Lib.hid (B5.out.trans (hb6.mono hN5))
  have EG : Hid (w5.heap.size + 1 = G) := Lib.hid hG.symm
  clear hG hb6 hN5
  go_wp2_with fail
  rw [EG.out]
  clear z0 z1 z2 z3 z4 hJs hMs
  generalize ((w5.alloc (.cells #[.int .i64 x, .int .i64 k, .int .i64 q, .int .u64 t] 112)).alloc (.cells #[.int .u64 x, .int .u64 k, .int .u64 q, .int .u64 t] 98)) = w6 at *
  refine wp_loop_rounds 5 ?_
  have hNG := Lib.hid (show N + 1 ≤ w6.heap.size by have := B6.out.size; have := hNlt.out; omega)
  have L6 := Lib.hid (show (L ++ strB nm ++ numB 1).length ≤ 210100 ∧ 1 ≤ (L ++ strB nm ++ numB 1).length by have := CL.out; have := strB_len NL.out; have := NL.out; have := num1_len; have := numB_pos 1; simp only [List.length_append]; omega)
  have t0 := Lib.hid (numB_ten (n := x) (by omega)); have t1 := Lib.hid (numB_ten (n := k) (by omega)); have t2 := Lib.hid (numB_ten (n := q) (by omega)); have t3 := Lib.hid (numB_ten (n := t) (by omega))
  rw [rounds_succ]
  have g0 := G0.out
  have hGs : G < w6.heap.size := World.block_lt_of_cell? _ _ g0
  go_wp2_with fail
  refine (rnumber_ x (by omega) w6).mono ?_
  clear g0 hGs
  rintro _ a0 ⟨_, rfl, hba, hoa⟩
  obtain ⟨E0, f0, rfl, hsa⟩ := OwnSl.sl hoa
  have P0 := Lib.hid (OwnSl.mono O6.out hba); have Q0 := Lib.hid (B6.out.trans (hba.mono (show N + 1 ≤ w6.heap.size by have := B6.out.size; have := hNlt.out; omega))); have S0 := Lib.hid hsa
  have K00 := Lib.hid (cellKeep hba G0.out)
  have K01 := Lib.hid (cellKeep hba G1.out)
  have K02 := Lib.hid (cellKeep hba G2.out)
  have K03 := Lib.hid (cellKeep hba G3.out)
  have K04 := Lib.hid (cellKeep hba G4.out); have K05 := Lib.hid (cellKeep hba G5.out)
  have D0 := Lib.hid (ownb_ne64 P0.out (by have := L6.out; have := t0.out; have := t1.out; have := t2.out; have := t3.out; simp only [List.length_append] at *; omega) K00.out)
  have F0 := Lib.hid (ownb_ne P0.out (by have := L6.out; have := t0.out; have := t1.out; have := t2.out; have := t3.out; simp only [List.length_append] at *; omega) K04.out)
  clear hba hoa hsa
  go_wp2_with (at_builtin; refine wpList_appS (B := N + 1) (v := v5) (l := (L ++ strB nm ++ numB 1)) infB rfl rfl Tryz.underlying22 rfl rfl P0.out S0.out (by have := L6.out; have := t0.out; have := t1.out; have := t2.out; have := t3.out; simp only [List.length_append] at *; omega) (by have := Q0.out.size; have := hNlt.out; omega) ?_; intro y0 b0 hob hgb _; have R0 := Lib.hid hob; have M0 := Lib.hid hgb; clear hob hgb; simp only [Act.put, List.setIfInBounds_toArray, List.set_cons_zero, List.set_cons_succ])
  have T0 := Lib.hid (Q0.out.grown M0.out (show N + 1 ≤ a0.heap.size by have := Q0.out.size; have := hNlt.out; omega) (fun q hq => (OwnSl.own P0.out q hq).1))
  have Z00 := Lib.hid (M0.out.cell K00.out D0.out)
  have Z01 := Lib.hid (M0.out.cell K01.out D0.out)
  have Z02 := Lib.hid (M0.out.cell K02.out D0.out)
  have Z03 := Lib.hid (M0.out.cell K03.out D0.out)
  have Z04 := Lib.hid (M0.out.cell K04.out F0.out); have Z05 := Lib.hid (M0.out.cell K05.out F0.out)
  rw [rounds_succ]
  have g1 := Z01.out
  have hGs : G < b0.heap.size := World.block_lt_of_cell? _ _ g1
  go_wp2_with fail
  refine (rnumber_ k (by omega) b0).mono ?_
  clear g1 hGs
  rintro _ a1 ⟨_, rfl, hba, hoa⟩
  obtain ⟨E1, f1, rfl, hsa⟩ := OwnSl.sl hoa
  have P1 := Lib.hid (OwnSl.mono R0.out hba); have Q1 := Lib.hid (T0.out.trans (hba.mono (show N + 1 ≤ b0.heap.size by have := T0.out.size; have := hNlt.out; omega))); have S1 := Lib.hid hsa
  have K10 := Lib.hid (cellKeep hba Z00.out)
  have K11 := Lib.hid (cellKeep hba Z01.out)
  have K12 := Lib.hid (cellKeep hba Z02.out)
  have K13 := Lib.hid (cellKeep hba Z03.out)
  have K14 := Lib.hid (cellKeep hba Z04.out); have K15 := Lib.hid (cellKeep hba Z05.out)
  have D1 := Lib.hid (ownb_ne64 P1.out (by have := L6.out; have := t0.out; have := t1.out; have := t2.out; have := t3.out; simp only [List.length_append] at *; omega) K10.out)
  have F1 := Lib.hid (ownb_ne P1.out (by have := L6.out; have := t0.out; have := t1.out; have := t2.out; have := t3.out; simp only [List.length_append] at *; omega) K14.out)
  clear hba hoa hsa
  go_wp2_with (at_builtin; refine wpList_appS (B := N + 1) (v := y0) (l := ((L ++ strB nm ++ numB 1) ++ numB x)) infB rfl rfl Tryz.underlying22 rfl rfl P1.out S1.out (by have := L6.out; have := t0.out; have := t1.out; have := t2.out; have := t3.out; simp only [List.length_append] at *; omega) (by have := Q1.out.size; have := hNlt.out; omega) ?_; intro y1 b1 hob hgb _; have R1 := Lib.hid hob; have M1 := Lib.hid hgb; clear hob hgb; simp only [Act.put, List.setIfInBounds_toArray, List.set_cons_zero, List.set_cons_succ])
  have T1 := Lib.hid (Q1.out.grown M1.out (show N + 1 ≤ a1.heap.size by have := Q1.out.size; have := hNlt.out; omega) (fun q hq => (OwnSl.own P1.out q hq).1))
  have Z10 := Lib.hid (M1.out.cell K10.out D1.out)
  have Z11 := Lib.hid (M1.out.cell K11.out D1.out)
  have Z12 := Lib.hid (M1.out.cell K12.out D1.out)
  have Z13 := Lib.hid (M1.out.cell K13.out D1.out)
  have Z14 := Lib.hid (M1.out.cell K14.out F1.out); have Z15 := Lib.hid (M1.out.cell K15.out F1.out)
  rw [rounds_succ]
  have g2 := Z12.out
  have hGs : G < b1.heap.size := World.block_lt_of_cell? _ _ g2
  go_wp2_with fail
  refine (rnumber_ q (by omega) b1).mono ?_
  clear g2 hGs
  rintro _ a2 ⟨_, rfl, hba, hoa⟩
  obtain ⟨E2, f2, rfl, hsa⟩ := OwnSl.sl hoa
  have P2 := Lib.hid (OwnSl.mono R1.out hba); have Q2 := Lib.hid (T1.out.trans (hba.mono (show N + 1 ≤ b1.heap.size by have := T1.out.size; have := hNlt.out; omega))); have S2 := Lib.hid hsa
  have K20 := Lib.hid (cellKeep hba Z10.out)
  have K21 := Lib.hid (cellKeep hba Z11.out)
  have K22 := Lib.hid (cellKeep hba Z12.out)
  have K23 := Lib.hid (cellKeep hba Z13.out)
  have K24 := Lib.hid (cellKeep hba Z14.out); have K25 := Lib.hid (cellKeep hba Z15.out)
  have D2 := Lib.hid (ownb_ne64 P2.out (by have := L6.out; have := t0.out; have := t1.out; have := t2.out; have := t3.out; simp only [List.length_append] at *; omega) K20.out)
  have F2 := Lib.hid (ownb_ne P2.out (by have := L6.out; have := t0.out; have := t1.out; have := t2.out; have := t3.out; simp only [List.length_append] at *; omega) K24.out)
  clear hba hoa hsa
  go_wp2_with (at_builtin; refine wpList_appS (B := N + 1) (v := y1) (l := (((L ++ strB nm ++ numB 1) ++ numB x) ++ numB k)) infB rfl rfl Tryz.underlying22 rfl rfl P2.out S2.out (by have := L6.out; have := t0.out; have := t1.out; have := t2.out; have := t3.out; simp only [List.length_append] at *; omega) (by have := Q2.out.size; have := hNlt.out; omega) ?_; intro y2 b2 hob hgb _; have R2 := Lib.hid hob; have M2 := Lib.hid hgb; clear hob hgb; simp only [Act.put, List.setIfInBounds_toArray, List.set_cons_zero, List.set_cons_succ])
  have T2 := Lib.hid (Q2.out.grown M2.out (show N + 1 ≤ a2.heap.size by have := Q2.out.size; have := hNlt.out; omega) (fun q hq => (OwnSl.own P2.out q hq).1))
  have Z20 := Lib.hid (M2.out.cell K20.out D2.out)
  have Z21 := Lib.hid (M2.out.cell K21.out D2.out)
  have Z22 := Lib.hid (M2.out.cell K22.out D2.out)
  have Z23 := Lib.hid (M2.out.cell K23.out D2.out)
  have Z24 := Lib.hid (M2.out.cell K24.out F2.out); have Z25 := Lib.hid (M2.out.cell K25.out F2.out)
  rw [rounds_succ]
  have g3 := Z23.out
  have hGs : G < b2.heap.size := World.block_lt_of_cell? _ _ g3
  go_wp2_with fail
  refine (rnumber_ t (by omega) b2).mono ?_
  clear g3 hGs
  rintro _ a3 ⟨_, rfl, hba, hoa⟩
  obtain ⟨E3, f3, rfl, hsa⟩ := OwnSl.sl hoa
  have P3 := Lib.hid (OwnSl.mono R2.out hba); have Q3 := Lib.hid (T2.out.trans (hba.mono (show N + 1 ≤ b2.heap.size by have := T2.out.size; have := hNlt.out; omega))); have S3 := Lib.hid hsa
  have K30 := Lib.hid (cellKeep hba Z20.out)
  have K31 := Lib.hid (cellKeep hba Z21.out)
  have K32 := Lib.hid (cellKeep hba Z22.out)
  have K33 := Lib.hid (cellKeep hba Z23.out)
  have K34 := Lib.hid (cellKeep hba Z24.out); have K35 := Lib.hid (cellKeep hba Z25.out)
  have D3 := Lib.hid (ownb_ne64 P3.out (by have := L6.out; have := t0.out; have := t1.out; have := t2.out; have := t3.out; simp only [List.length_append] at *; omega) K30.out)
  have F3 := Lib.hid (ownb_ne P3.out (by have := L6.out; have := t0.out; have := t1.out; have := t2.out; have := t3.out; simp only [List.length_append] at *; omega) K34.out)
  clear hba hoa hsa
  go_wp2_with (at_builtin; refine wpList_appS (B := N + 1) (v := y2) (l := ((((L ++ strB nm ++ numB 1) ++ numB x) ++ numB k) ++ numB q)) infB rfl rfl Tryz.underlying22 rfl rfl P3.out S3.out (by have := L6.out; have := t0.out; have := t1.out; have := t2.out; have := t3.out; simp only [List.length_append] at *; omega) (by have := Q3.out.size; have := hNlt.out; omega) ?_; intro y3 b3 hob hgb _; have R3 := Lib.hid hob; have M3 := Lib.hid hgb; clear hob hgb; simp only [Act.put, List.setIfInBounds_toArray, List.set_cons_zero, List.set_cons_succ])
  have T3 := Lib.hid (Q3.out.grown M3.out (show N + 1 ≤ a3.heap.size by have := Q3.out.size; have := hNlt.out; omega) (fun q hq => (OwnSl.own P3.out q hq).1))
  have Z30 := Lib.hid (M3.out.cell K30.out D3.out)
  have Z31 := Lib.hid (M3.out.cell K31.out D3.out)
  have Z32 := Lib.hid (M3.out.cell K32.out D3.out)
  have Z33 := Lib.hid (M3.out.cell K33.out D3.out)
  have Z34 := Lib.hid (M3.out.cell K34.out F3.out); have Z35 := Lib.hid (M3.out.cell K35.out F3.out)
  have x1 := Z35.out
  have x2 := BL.out Y2.out (Nat.lt_succ_self N) T3.out
  have hJs : J < b3.heap.size := World.block_lt_of_cell? _ _ x1
  have hNs : N < b3.heap.size := World.block_lt_of_cell? _ _ x2
  rw [rounds_succ]
  go_wp2
  rw [rounds_succ]
  go_wp2
  rw [rounds_succ]
  go_wp2
  go_ret
  have := R3.out
  rw [← EL.out] at this
  exact ⟨_, rfl, by rw [EN.out]; exact (BX2.out.trans (T3.out.mono (Nat.le_succ N))), by rw [EN.out]; refine OwnSl.low ?_ (Nat.le_succ N); simpa [wholeB, markB, List.append_assoc] using this⟩
end Go.Proofs.YtphhhnjeojdnkaaGreatDoor

/-
  ref16.Body at one entry.
-/
namespace Go.Proofs.YtphhhnjeojdnkaaGreatDoor
open Go.RowKit
theorem enters58 : Enters Tryz.prog 58 := enters_of Tryz.func58 (by kernel_rfl) rfl
theorem index_e0 {w : World} {be : Nat} : (Instr.indexAt 72 (.slice (some ⟨be, 0, none⟩) 1 1) (.int .i64 0)).run Tryz.prog w = .ok (.pointer (some ⟨be, 0, none⟩)) w := by simp [go_sem]
set_option maxRecDepth 100000 in
set_option maxHeartbeats 8000000 in
theorem rbody {n m ca cb bi bm be : Nat} {ky : List UInt8} {A B : Option Addr} {c : Ctx} {nm : List UInt8} {x k q t : Nat} {w : World} (h : CartOK w A n ca B m cb c bi bm nm x k q t) (e : E1 w be ky A n ca B m cb bi) (hn : n ≤ 1000) (hm : m ≤ 1000) (hl : ky.length ≤ 64) :
    Calls Tryz.prog 27 #[.slice (some ⟨be, 0, none⟩) 1 1] w (Ret w (IsOwnB w.heap.size (entryB ky c nm ⟨x, k, q, t⟩))) := by
  have H := Lib.hid h; have E := Lib.hid e; have HN := Lib.hid hn; have HM := Lib.hid hm; have KL := Lib.hid hl
  have HBE := Lib.hid (show be < w.heap.size from World.block_lt_of_cell? _ _ e.c0)
  clear h e hn hm hl
  go_enter Tryz.func27, Tryz.ntmps27
  go_wp2_with fail
  refine (rnumber_ 1 (by omega) w).mono ?_
  rintro _ w1 ⟨v1, rfl, hb1, ho1⟩
  have B1 := Lib.hid hb1; have O1 := Lib.hid ho1
  have BNE := Lib.hid (show some be ≠ v1.ownBlock from fun hq => by have := (OwnSl.own ho1 be hq.symm).1; have := HBE.out; omega)
  have E1_ := Lib.hid (E.out.mono hb1)
  have NL := Lib.hid (show ky.length ≤ 100000 by have := KL.out; omega)
  clear hb1 ho1
  go_wp2
  refine wp_loop_rounds 2 ?_
  rw [rounds_succ]
  go_wp2_with fail
  refine wp_region_ME (R := (rowR v1.ownBlock)) 14 7 ((phiO w.heap.size v1 (numB 1))) mixed (by kernel_rfl) (by kernel_rfl) (by kernel_rfl) ?_ ?_ ?_ ?_
  · exact phiO_mono
  · exact (fun q hq => (OwnSl.own O1.out q hq).2)
  · exact O1.out
  refine MDerE.step (by kernel_rfl) (fun wS hS hI => Ob.move Wanted.free Has.oldIs) ?_
  refine MDerE.step (by kernel_rfl) (fun wS hS hI => Ob.move Wanted.free Has.oldIs) ?_
  refine MDerE.step (by kernel_rfl) (fun wS hS hI => Ob.move Wanted.free Has.oldIs) ?_
  refine MDerE.step (by kernel_rfl) (fun wS hS hI => Ob.indexV Wanted.free (Has.new 1 1) (Has.new 2 0) (fun w1 => index_e0)) ?_
  refine MDerE.step (by kernel_rfl) (fun wS hS hI => Ob.fieldV Wanted.free (Has.new 3 0) (fun w1 => field_e0)) ?_
  refine MDerE.step (by kernel_rfl) (fun wS hS hI => Ob.loadV Wanted.free (Has.new 4 0) (fun w1 hb1 => load_strN hb1 (hS.cell E1_.out.c0 BNE.out))) ?_
  refine MDerE.step (by kernel_rfl) (fun wS hS hI => Ob.call1V Wanted.free enters57 (Has.new 5 0) (fun w1 hb1 => ret_free (r := v1.ownBlock) (rstring ky NL.out w1) (fun q hq => Nat.lt_of_lt_of_le (hI q hq) hb1.size))) ?_
  refine MDerE.write (by kernel_rfl) (fun wS hS hI hP => ObS.appS Wanted.free (Has.new 0 6) (Has.new 6 0) infB Tryz.underlying22 hP (by have := strB_len NL.out; have := NL.out; have := num1_len; omega) (by have := B1.out.size; have := hS.size; omega)) ?_
  refine MDerE.step (by kernel_rfl) (fun wS hS hI => Ob.move Wanted.free Has.oldIs) ?_
  refine MDerE.step (by kernel_rfl) (fun wS hS hI => Ob.move Wanted.free Has.oldIs) ?_
  refine MDerE.step (by kernel_rfl) (fun wS hS hI => Ob.indexV Wanted.free (Has.new 8 1) (Has.new 9 0) (fun w1 => index_e0)) ?_
  refine MDerE.step (by kernel_rfl) (fun wS hS hI => Ob.fieldV Wanted.free (Has.new 10 0) (fun w1 => field_e1)) ?_
  refine MDerE.step (by kernel_rfl) (fun wS hS hI => Ob.loadV Wanted.free (Has.new 11 0) (fun w1 hb1 => load_ecart (E1.mono ⟨hS.cell E1_.out.c0 BNE.out, hS.cell E1_.out.c1 BNE.out, hS.cell E1_.out.c2 BNE.out, hS.cell E1_.out.c3 BNE.out⟩ hb1))) ?_
  refine MDerE.step (by kernel_rfl) (fun wS hS hI => Ob.call1V Wanted.free enters58 (Has.new 12 0) (fun w1 hb1 => ret_free (r := v1.ownBlock) (rbytes ((H.out.mono (B1.out.grown hS B1.out.size (fun q hq => (OwnSl.own O1.out q hq).1))).mono hb1) HN.out HM.out) (fun q hq => Nat.lt_of_lt_of_le (hI q hq) hb1.size))) ?_
  intro wE hE hIE hPE
  change EndM _ [some 15, some 16, some 17, some 18, some 19, some 20, some 21, some 22, some 23, some 24, some 25, some 26, some 27, some 28] _ _ _
  simp only [EndM, List.reverse_cons, List.reverse_nil, List.nil_append, List.cons_append]
  iterate 6 (rintro _ rfl)
  rintro _ _h3
  rintro _ h4
  iterate 5 (rintro _ rfl)
  rintro _ ⟨A9, n9, c9, rfl, s9, _⟩
  simp only [Act.put, List.setIfInBounds_toArray, List.set_cons_zero, List.set_cons_succ]
  rename_i u3 u4 hr9
  have BE : Below w.heap.size w wE := B1.out.grown hE B1.out.size (fun q hq => (OwnSl.own O1.out q hq).1)
  have WL := wholeB_len H.out
  refine wpList_appS (B := w.heap.size) (v := u4) (l := numB 1 ++ strB ky) infB rfl rfl Tryz.underlying22 rfl rfl h4 s9 (by have := strB_len NL.out; have := NL.out; have := num1_len; rw [List.length_append]; omega) BE.size ?_
  intro v5 w5 ho5 hg5 _
  have B5 := Lib.hid (BE.grown hg5 BE.size (fun q hq => (OwnSl.own h4 q hq).1))
  have O5 := Lib.hid (show OwnB w5 w.heap.size v5 (entryB ky c nm ⟨x, k, q, t⟩) from ho5)
  clear hE hIE hPE _h3 h4 s9 hr9 BE WL ho5 hg5
  simp only [Act.put, List.setIfInBounds_toArray, List.set_cons_zero, List.set_cons_succ]
  refine wpList_assign (v := v5) rfl rfl rfl ?_
  refine wpList_nil ?_
  simp only [Act.put, List.setIfInBounds_toArray, List.set_cons_zero, List.set_cons_succ]
  go_wp2
  rw [rounds_succ]
  go_wp2
  go_ret
  exact ⟨_, rfl, B5.out, O5.out⟩
end Go.Proofs.YtphhhnjeojdnkaaGreatDoor

/-
  ref12.Fresh on an empty cart, ref09.Find in no items.
-/
namespace Go.Proofs.YtphhhnjeojdnkaaGreatDoor
open Go.RowKit
set_option maxRecDepth 100000 in
theorem rFresh {r k : Int} (hv : validD (r, k) = true) (w : World) : Calls Tryz.prog 49 #[.agg #[.slice none 0 0, .slice none 0 0, .slice none 0 0], .agg #[.int .i64 r, .int .i64 k]] w (Ret w (IsB true)) := by
  have C1 := Lib.hid no_rv
  have C2 := Lib.hid (fun w => by have := rvalid r k w; rw [hv] at this; exact this)
  have C3 := Lib.hid (fun w => by have := rchas r k none none 0 0 0 0 ([], []) w (noCon w); rw [hasNone hv] at this; exact this)
  have hx : Below w.heap.size w ((w.alloc cartBox).alloc (.cells #[.int .i64 r, .int .i64 k] 67)) := by go_grown
  have z0 : ((w.alloc cartBox).alloc (.cells #[.int .i64 r, .int .i64 k] 67)).cell? ⟨w.heap.size, 0, none⟩ = some (.slice none 0 0) := by simp [go_sem]
  have z1 : ((w.alloc cartBox).alloc (.cells #[.int .i64 r, .int .i64 k] 67)).cell? ⟨w.heap.size, 1, none⟩ = some (.slice none 0 0) := by simp [go_sem]
  have u0 : ((w.alloc cartBox).alloc (.cells #[.int .i64 r, .int .i64 k] 67)).cell? ⟨w.heap.size + 1, 0, none⟩ = some (.int .i64 r) := by simp [go_sem]
  have u1 : ((w.alloc cartBox).alloc (.cells #[.int .i64 r, .int .i64 k] 67)).cell? ⟨w.heap.size + 1, 1, none⟩ = some (.int .i64 k) := by simp [go_sem]
  have HX := Lib.hid hx; have Z0 := Lib.hid z0; have Z1 := Lib.hid z1; have U0 := Lib.hid u0; have U1 := Lib.hid u1
  clear hx z0 z1 u0 u1 hv
  go_enter Tryz.func49, Tryz.ntmps49
  go_wp2_with fail
  refine (C1.out _).mono ?_
  rintro _ w1 ⟨_, rfl, hb1, rfl⟩
  have HB1 := Lib.hid (HX.out.le hb1)
  have q0 := cellKeep hb1 Z0.out; have q1 := cellKeep hb1 Z1.out; have v0 := cellKeep hb1 U0.out; have v1 := cellKeep hb1 U1.out
  clear hb1
  go_wp2_with fail
  refine (C2.out _).mono ?_
  rintro _ w2 ⟨_, rfl, hb2, rfl⟩
  have HB2 := Lib.hid (HB1.out.le hb2)
  have p0 := cellKeep hb2 q0; have p1 := cellKeep hb2 q1; have x0 := cellKeep hb2 v0; have x1 := cellKeep hb2 v1
  clear hb2 q0 q1 v0 v1
  go_wp2_with fail
  refine (C3.out _).mono ?_
  rintro _ w3 ⟨_, rfl, hb3, rfl⟩
  have HB3 := Lib.hid (HB2.out.le hb3)
  clear hb3 p0 p1 x0 x1
  go_wp2
  go_ret
  exact retB rfl HB3.out
theorem rFind0 (nm : List UInt8) (w : World) : Calls Tryz.prog 52 #[.slice none 0 0, strV nm] w (Ret w (IsI (-1))) := by
  go_enter Tryz.func52, Tryz.ntmps52
  go_wp2
  refine wp_loop_rounds 1 ?_
  rw [rounds_succ]
  go_wp2
  go_ret
  exact ⟨_, rfl, Below.refl _ _, rfl⟩
end Go.Proofs.YtphhhnjeojdnkaaGreatDoor

/-
  ref12.Gone of one dot.
-/
namespace Go.Proofs.YtphhhnjeojdnkaaGreatDoor
open Go.RowKit
def IsGone (c : Ctx) (w : World) (v : Value) : Prop := ∃ A n ca B m cb, v = .agg #[.slice A n ca, .slice B m cb, .slice none 0 0] ∧ Con w A n ca B m cb c
instance (c : Ctx) : Grows (IsGone c) := ⟨fun hb ⟨A, n, ca, B, m, cb, e, h⟩ => ⟨A, n, ca, B, m, cb, e, h.mono hb⟩⟩
theorem NoInt.cart (w : World) : NoInt (w.alloc cartBox) w.heap.size := by
  intro o x e
  have : o = 0 ∨ o = 1 ∨ o = 2 ∨ 3 ≤ o := by omega
  rcases this with rfl | rfl | rfl | h
  · simp [go_sem] at e
  · simp [go_sem] at e
  · simp [go_sem] at e
  · have h2 := e
    simp [go_sem] at h2
    first
      | omega
      | (rcases o with _ | _ | _ | o <;> simp at h2 <;> omega)
set_option maxRecDepth 100000 in
set_option maxHeartbeats 4000000 in
theorem rGone {C : Option Addr} {k ck : Nat} {d : Dot} {w : World} (h : Dots w C k ck [d]) (hv : validD d = true) : Calls Tryz.prog 54 #[.slice C k ck] w (Ret w (IsGone (addC ([], []) [d]))) := by
  have hx : Below w.heap.size w (w.alloc cartBox) := (Below.refl _ _).alloc (Nat.le_refl _) _
  have hk : k = 1 := h.len
  have hl : validL [d] = true := by simp [validL, hv]
  have hu : unionD [] [d] = [d] := by simp [unionD, withD, memD, cutD]
  have hvc : validC (([] : List Dot), unionD [] [d]) = true := by
    rw [hu]; simp [validC, validV, isSet, hl]; exact ⟨rfl, rfl⟩
  have C1 := Lib.hid (radd none none C 0 0 0 0 k ck ([], []) [d] (w.alloc cartBox) (noCon _) (h.mono hx) (by unfold Small; omega) hvc (pass_comp hvc))
  have z : ∀ o, o < 3 → (w.alloc cartBox).cell? ⟨w.heap.size, o, none⟩ = some (.slice none 0 0) := fun o ho => by
    have : o = 0 ∨ o = 1 ∨ o = 2 := by omega
    rcases this with rfl | rfl | rfl <;> simp [go_sem]
  have f0 : ∀ o, (w.alloc cartBox).frozen? ⟨w.heap.size, o, none⟩ = false := fun o => by simp [go_sem]
  have NI := Lib.hid (NoInt.cart w)
  have HX := Lib.hid hx; have Z := Lib.hid z; have F0 := Lib.hid f0
  clear hx h hv z f0 hk hl hu hvc
  go_enter Tryz.func54, Tryz.ntmps54
  go_wp2_with fail
  refine C1.out.mono ?_
  rintro _ w1 ⟨_, rfl, hb1, A1, n1, c1, B1, m1, d1, rfl, hc⟩
  have x0 := cellKeep hb1 (Z.out 0 (by omega))
  have x1 := cellKeep hb1 (Z.out 1 (by omega))
  have x2 := cellKeep hb1 (Z.out 2 (by omega))
  have hz : w.heap.size < w1.heap.size := World.block_lt_of_cell? w1 _ x0
  have yf : ∀ o, w1.frozen? ⟨w.heap.size, o, none⟩ = false := fun o => (hb1.frozen (p := ⟨w.heap.size, o, none⟩) (by simp)).trans (F0.out o)
  have yf0 := yf 0; have yf1 := yf 1; have yf2 := yf 2
  have ni := NI.out.mono hb1 (by simp)
  have n1_ := Lib.hid (hc.v.noInt ni); have n2_ := Lib.hid (hc.k.noInt ni)
  have HB := Lib.hid (HX.out.le hb1); have HC := Lib.hid hc
  clear hb1 hc yf ni C1
  go_wp2
  obtain ⟨N, hN⟩ : ∃ N, N = w.heap.size := ⟨_, rfl⟩
  rw [← hN] at x0 x1 x2 hz n1_ n2_ ⊢
  have q1 := ((HC.out.v.setO (o := 0) n1_.out (.slice A1 n1 c1)).setO (o := 1) n1_.out (.slice B1 m1 d1)).setO (o := 2) n1_.out (.slice none 0 0)
  have q2 := ((HC.out.k.setO (o := 0) n2_.out (.slice A1 n1 c1)).setO (o := 1) n2_.out (.slice B1 m1 d1)).setO (o := 2) n2_.out (.slice none 0 0)
  have hb := ((HB.out.setCell (p := ⟨N, 0, none⟩) (Nat.le_of_eq hN.symm) (.slice A1 n1 c1)).setCell (p := ⟨N, 1, none⟩) (Nat.le_of_eq hN.symm) (.slice B1 m1 d1)).setCell (p := ⟨N, 2, none⟩) (Nat.le_of_eq hN.symm) (.slice none 0 0)
  have s0 : (((w1.setCell ⟨N, 0, none⟩ (.slice A1 n1 c1)).setCell ⟨N, 1, none⟩ (.slice B1 m1 d1)).setCell ⟨N, 2, none⟩ (.slice none 0 0)).cell? ⟨N, 0, none⟩ = some (.slice A1 n1 c1) := cell_far (by simp) (cell_far (by simp) (cell_set x0))
  have s1 : (((w1.setCell ⟨N, 0, none⟩ (.slice A1 n1 c1)).setCell ⟨N, 1, none⟩ (.slice B1 m1 d1)).setCell ⟨N, 2, none⟩ (.slice none 0 0)).cell? ⟨N, 1, none⟩ = some (.slice B1 m1 d1) := cell_far (by simp) (cell_set (cell_far (by simp) x1))
  have s2 : (((w1.setCell ⟨N, 0, none⟩ (.slice A1 n1 c1)).setCell ⟨N, 1, none⟩ (.slice B1 m1 d1)).setCell ⟨N, 2, none⟩ (.slice none 0 0)).cell? ⟨N, 2, none⟩ = some (.slice none 0 0) := cell_set (cell_far (by simp) (cell_far (by simp) x2))
  refine bodyPost_ret (v := .agg #[.slice A1 n1 c1, .slice B1 m1 d1, .slice none 0 0]) (by simp [results, Tryz.results54, go_sem, s0, s1, s2]) rfl ?_
  exact ⟨_, rfl, hb, A1, n1, c1, B1, m1, d1, rfl, q1, q2⟩
end Go.Proofs.YtphhhnjeojdnkaaGreatDoor

/-
  Rules for ref12.Put: an append of nothing, a new cart's box.
-/
namespace Go.Proofs.YtphhhnjeojdnkaaGreatDoor
open Go.RowKit
/-- A new box of a cart. -/
def IsNewCart (B : Nat) (w : World) (v : Value) : Prop := ∃ p, v = .pointer (some ⟨p, 0, none⟩) ∧ B ≤ p ∧ p < w.heap.size ∧ w.cell? ⟨p, 0, none⟩ = some (.slice none 0 0) ∧ w.cell? ⟨p, 1, none⟩ = some (.slice none 0 0) ∧ w.cell? ⟨p, 2, none⟩ = some (.slice none 0 0) ∧ (∀ o, w.frozen? ⟨p, o, none⟩ = false) ∧ NoInt w p
instance (B : Nat) : Grows (IsNewCart B) := ⟨fun hb ⟨p, h1, h2, h3, h4, h5, h6, h7, h8⟩ => ⟨p, h1, h2, Nat.lt_of_lt_of_le h3 hb.size, cellKeep hb h4, cellKeep hb h5, cellKeep hb h6, fun o => (hb.frozen (p := ⟨p, o, none⟩) h3).trans (h7 o), h8.mono hb h3⟩⟩
section
variable {P : Program} {ops : List Oper} {Fs : List VT} {w0 : World} {a0 : Act} {i : Nat} {d : Option Tmp} {ty : TypeId} {pos : String} {after : Array Edge} {g : Option (Nat × Bool)}
theorem Ob.allocCart (hw : Wanted ops Fs w0 a0 i ⟨d, .alloc 63, ty, pos, after, g⟩) (_ : True) : Ob Tryz.prog ops Fs w0 a0 i ⟨d, .alloc 63, ty, pos, after, g⟩ (IsNewCart w0.heap.size) :=
  Ob.any hw fun a w cx => by
    refine ⟨.pointer (some ⟨w.heap.size, 0, none⟩), w.alloc cartBox, ?_, by go_grown, w.heap.size, rfl, cx.le.size, by simp, by simp [go_sem], by simp [go_sem], by simp [go_sem], fun o => by simp [go_sem], NoInt.cart w⟩
    simp [execOp, go_sem]
theorem srcNoneD (w : World) (A : Option Addr) (c : Nat) : Src Tryz.prog 2 57 (.slice A 0 c) 0 [] w :=
  ⟨.inl ⟨_, Tryz.underlying57⟩, fun w' => by simp [Builtin.lenOf], by cases A <;> simp [Builtin.firstCells, loadCells, loadCellsFrom], by cases A <;> simp [Builtin.firstCells, loadCells, loadCellsFrom], rfl, fun u hu => by cases hu⟩
theorem Ob.appNoneD {x y : Operand} {l : List Dot} (hw : Wanted ops Fs w0 a0 i ⟨d, .call ⟨.builtin .append, #[x, y], #[57, 57]⟩, ty, pos, after, g⟩)
    (hx : Has ops Fs w0 a0 i ⟨d, .call ⟨.builtin .append, #[x, y], #[57, 57]⟩, ty, pos, after, g⟩ x (IsDots l)) (hy : Has ops Fs w0 a0 i ⟨d, .call ⟨.builtin .append, #[x, y], #[57, 57]⟩, ty, pos, after, g⟩ y (Is (.slice none 0 0))) (_ : True) :
    Ob Tryz.prog ops Fs w0 a0 i ⟨d, .call ⟨.builtin .append, #[x, y], #[57, 57]⟩, ty, pos, after, g⟩ (IsDots l) :=
  Ob.stay hw fun a w cx => by
    obtain ⟨A, n, c, h1, hd⟩ := hx a w cx
    have h2 : a.eval y = .slice none 0 0 := hy a w cx
    obtain ⟨inf, hi, _, hs, _⟩ := info_parts (P := Tryz.prog) (show (Tryz.prog.info? 67).map (fun i => (i.zero, i.size, i.bytes)) = some (some (.agg #[.int .i64 0, .int .i64 0]), 2, 16) by kernel_rfl)
    have h3 := run_append_nothing w 57 57 ty 67 inf Tryz.underlying57 hi A n c hd.cap (.slice none 0 0) (by rw [hs]; exact srcNoneD w none 0)
    refine ⟨.slice A n c, ?_, A, n, c, rfl, hd⟩
    generalize a.eval = ρ at h1 h2
    simp [execOp, resolve, invoke, builtin, h1, h2, h3]
end
end Go.Proofs.YtphhhnjeojdnkaaGreatDoor

/-
  ref12.Put on an empty cart.
-/
namespace Go.Proofs.YtphhhnjeojdnkaaGreatDoor
open Go.RowKit
def RItemOK (nm : List UInt8) : Prop := ∀ w, Calls Tryz.prog 50 #[strV nm] w (Ret w (IsB true))
def RNoDots (nm : List UInt8) : Prop := ∀ w, Calls Tryz.prog 55 #[noCart, strV nm] w (Ret w (Is nilV))
abbrev putW (w : World) (r k : Int) : World := ((w.alloc cartBox).alloc (dotBox r k)).alloc cartBox
structure PutAt (N : Nat) (r k : Int) (w : World) : Prop where
  b0 : w.cell? ⟨N, 0, none⟩ = some nilV
  b1 : w.cell? ⟨N, 1, none⟩ = some nilV
  b2 : w.cell? ⟨N, 2, none⟩ = some nilV
  c0 : w.cell? ⟨N + 1, 0, none⟩ = some (.int .i64 r)
  c1 : w.cell? ⟨N + 1, 1, none⟩ = some (.int .i64 k)
  d0 : w.cell? ⟨N + 1 + 1, 0, none⟩ = some nilV
  d1 : w.cell? ⟨N + 1 + 1, 1, none⟩ = some nilV
  d2 : w.cell? ⟨N + 1 + 1, 2, none⟩ = some nilV
  fr : ∀ o, w.frozen? ⟨N + 1 + 1, o, none⟩ = false
  ni : NoInt w (N + 1 + 1)
theorem PutAt.mono {N : Nat} {r k : Int} {w w' : World} (h : PutAt N r k w) (hb : Below w.heap.size w w') : PutAt N r k w' :=
  ⟨cellKeep hb h.b0, cellKeep hb h.b1, cellKeep hb h.b2, cellKeep hb h.c0, cellKeep hb h.c1, cellKeep hb h.d0, cellKeep hb h.d1, cellKeep hb h.d2, fun o => (hb.frozen (p := ⟨N + 1 + 1, o, none⟩) (show N + 1 + 1 < w.heap.size from World.block_lt_of_cell? _ _ h.d0)).trans (h.fr o), h.ni.mono hb (World.block_lt_of_cell? _ _ h.d0)⟩
theorem noInt3 (w : World) (r k : Int) : NoInt (putW w r k) (w.heap.size + 1 + 1) := by
  have h := NoInt.cart ((w.alloc cartBox).alloc (dotBox r k))
  have hz : ((w.alloc cartBox).alloc (dotBox r k)).heap.size = w.heap.size + 1 + 1 := by simp
  rw [hz] at h
  exact h
theorem putAt (w : World) (r k : Int) : PutAt w.heap.size r k (putW w r k) :=
  ⟨by simp [go_sem], by simp [go_sem], by simp [go_sem], by simp [go_sem], by simp [go_sem], by simp [go_sem], by simp [go_sem], by simp [go_sem], fun o => by simp [go_sem], noInt3 w r k⟩
theorem load_cart0 {w0 w : World} {N : Nat} (hb : Below w0.heap.size w0 w) (h0 : w0.cell? ⟨N, 0, none⟩ = some nilV) (h1 : w0.cell? ⟨N, 1, none⟩ = some nilV) (h2 : w0.cell? ⟨N, 2, none⟩ = some nilV) : (Instr.loadAt 63 (.pointer (some ⟨N, 0, none⟩))).run Tryz.prog w = .ok noCart w := by
  have c1 := cellKeep hb h0
  have c2 := cellKeep hb h1
  have c3 := cellKeep hb h2
  simp [go_sem, c1, c2, c3]
theorem enters55 : Enters Tryz.prog 55 := enters_of Tryz.func55 (by kernel_rfl) rfl
theorem enters54 : Enters Tryz.prog 54 := enters_of Tryz.func54 (by kernel_rfl) rfl
theorem goneI {d : Dot} {w : World} {u : Value} (hu : IsDots [d] w u) (hv : validD d = true) : Calls Tryz.prog 54 #[u] w (Ret w (IsGone (addC ([], []) [d]))) := by
  obtain ⟨A, n, c, rfl, hd⟩ := hu
  exact rGone hd hv
set_option maxRecDepth 100000 in
set_option maxHeartbeats 8000000 in
theorem rPut {r k q : Int} {nm : List UInt8} (hv : validD (r, k) = true) (hq : qtyS q = true) (hn : RItemOK nm) (hd : RNoDots nm) (w : World) :
    Calls Tryz.prog 25 #[.agg #[nilV, nilV, nilV], .agg #[.int .i64 r, .int .i64 k], strV nm, .int .i64 q, .bool false] w (Ret w (IsPair (fun w v => ∃ A n ca B m cb bi bm, v = .agg (cartA A n ca B m cb bi) ∧ C1 w A n ca B m cb (addC ([], []) [(r, k)]) bi bm nm ⟨r, k, q, 1⟩) 0)) := by
  have HV := Lib.hid hv; have HQ := Lib.hid (fun w => by have := rqty q w; rw [hq] at this; exact this); have NM := Lib.hid hn; have ND := Lib.hid hd
  have CT := Lib.hid no_rt; have CF := Lib.hid (fun w => rFresh hv w); have FI := Lib.hid (rFind0 nm)
  have M := Lib.hid (putAt w r k)
  have HX := Lib.hid (show Below w.heap.size w (putW w r k) by go_grown)
  clear hv hq hn hd
  go_enter Tryz.func25, Tryz.ntmps25
  go_wp2_with fail
  refine (CF.out _).mono ?_
  rintro _ w1 ⟨_, rfl, hb1, rfl⟩
  have M1 := Lib.hid (M.out.mono hb1); have HB1 := Lib.hid (HX.out.le hb1)
  clear hb1
  obtain ⟨N, hN⟩ : ∃ N, N = w.heap.size := ⟨_, rfl⟩
  rw [← hN] at M1 ⊢
  have EN := Lib.hid hN
  clear hN
  go_wp2_with fail
  refine (NM.out _).mono ?_
  rintro _ w2 ⟨_, rfl, hb2, rfl⟩
  have M2 := Lib.hid (M1.out.mono hb2); have HB2 := Lib.hid (HB1.out.le hb2)
  clear hb2
  go_wp2_with fail
  refine (HQ.out _).mono ?_
  rintro _ w3 ⟨_, rfl, hb3, rfl⟩
  have M3 := Lib.hid (M2.out.mono hb3); have HB3 := Lib.hid (HB2.out.le hb3)
  clear hb3
  have b1 := M3.out.b1; have b2 := M3.out.b2
  go_wp2_with fail
  refine (FI.out _).mono ?_
  rintro _ w4 ⟨_, rfl, hb4, rfl⟩
  have M4 := Lib.hid (M3.out.mono hb4); have HB4 := Lib.hid (HB3.out.le hb4)
  clear hb4 b1 b2
  have b0 := M4.out.b0; have b1 := M4.out.b1; have b2 := M4.out.b2
  go_wp2_with fail
  refine (CT.out _).mono ?_
  rintro _ w5 ⟨_, rfl, hb5, rfl⟩
  have M5 := Lib.hid (M4.out.mono hb5); have HB5 := Lib.hid (HB4.out.le hb5)
  clear hb5 b0 b1 b2
  have C0 := Lib.hid M5.out.c0; have C1_ := Lib.hid M5.out.c1; have D0 := Lib.hid M5.out.b0; have D1 := Lib.hid M5.out.b1; have D2 := Lib.hid M5.out.b2
  go_wp2_with fail
  refine wp_region_MT 8 mixed (by kernel_rfl) (by kernel_rfl) ?_
  refine MDerT.step (Ob.loadV Wanted.free Has.oldIs (fun w1 hb1 => load_dot hb1 C0.out C1_.out)) ?_
  refine MDerT.step (Ob.mkDots157 Wanted.free (Has.new 0 0)) ?_
  refine MDerT.step (Ob.loadV Wanted.free Has.oldIs (fun w1 hb1 => load_cart0 hb1 D0.out D1.out D2.out)) ?_
  refine MDerT.step (Ob.move Wanted.free Has.oldIs) ?_
  refine MDerT.step (Ob.call2V Wanted.free enters55 (Has.new 2 1) (Has.new 3 0) (fun w1 hb1 => ND.out w1)) ?_
  refine MDerT.step (Ob.appNoneD Wanted.free (Has.new 1 3) (Has.new 4 0) trivial) ?_
  refine MDerT.step (Ob.call1 Wanted.free enters54 (Has.new 5 0) (fun w1 u hb1 hu => goneI hu HV.out)) ?_
  refine MDerT.step (Ob.allocCart Wanted.free  trivial) ?_
  simp only [MDerT, dstsOf, List.map, EndM, List.reverse_cons, List.reverse_nil, List.nil_append, List.cons_append, List.take_succ_cons, List.take_zero, List.drop_succ_cons, List.drop_zero]
  intro wE hE
  iterate 1 (rintro _ rfl)
  rintro _ _h1
  iterate 3 (rintro _ rfl)
  rintro _ _h5
  rintro _ ⟨A6, n6, c6, B6, m6, d6, rfl, h6⟩
  rintro _ ⟨p, rfl, hp⟩
  simp only [Act.put, List.setIfInBounds_toArray, List.set_cons_zero, List.set_cons_succ]
  obtain ⟨hp1, hp2, p0, p1, p2, pf, pn⟩ := hp
  have pf0 := pf 0; have pf1 := pf 1; have pf2 := pf 2
  have ME := Lib.hid (M5.out.mono hE); have HE := Lib.hid (HB5.out.le hE)
  have S5 := Lib.hid (show N + 1 + 1 < w5.heap.size from World.block_lt_of_cell? _ _ M5.out.d0)
  have H6 := Lib.hid h6; have PN := Lib.hid pn; have HP1 := Lib.hid hp1
  clear hE h6 pn hp1 pf _h1 _h5
  have e0 : N ≠ p := by have := S5.out; have := HP1.out; omega
  have e1 : N + 1 ≠ p := by have := S5.out; have := HP1.out; omega
  have e2 : N + 1 + 1 ≠ p := by have := S5.out; have := HP1.out; omega
  have x0 := ME.out.c0; have x1 := ME.out.c1
  have y0 := ME.out.d0; have y1 := ME.out.d1; have y2 := ME.out.d2
  have yf0 := ME.out.fr 0; have yf1 := ME.out.fr 1; have yf2 := ME.out.fr 2
  have hs : N + 1 + 1 < wE.heap.size := World.block_lt_of_cell? _ _ ME.out.d0
  have hs1 : N + 1 < wE.heap.size := by omega
  refine wpList_store rfl rfl rfl rfl rfl (w' := ((wE.setCell ⟨p, 0, none⟩ (.slice A6 n6 c6)).setCell ⟨p, 1, none⟩ (.slice B6 m6 d6)).setCell ⟨p, 2, none⟩ (.slice none 0 0)) (by simp [go_sem, p0, p1, p2, pf0, pf1, pf2]) ?_
  have NI := Lib.hid ME.out.ni
  have n1_ := Lib.hid (H6.out.v.noInt PN.out); have n2_ := Lib.hid (H6.out.k.noInt PN.out)
  have n3_ := Lib.hid (H6.out.v.noInt NI.out); have n4_ := Lib.hid (H6.out.k.noInt NI.out)
  have q1 := ((H6.out.v.setO (o := 0) n1_.out (.slice A6 n6 c6)).setO (o := 1) n1_.out (.slice B6 m6 d6)).setO (o := 2) n1_.out (.slice none 0 0)
  have q2 := ((H6.out.k.setO (o := 0) n2_.out (.slice A6 n6 c6)).setO (o := 1) n2_.out (.slice B6 m6 d6)).setO (o := 2) n2_.out (.slice none 0 0)
  have hpw : w.heap.size ≤ p := by have := S5.out; have := HP1.out; have := EN.out; omega
  have hb := ((HE.out.setCell (p := ⟨p, 0, none⟩) hpw (.slice A6 n6 c6)).setCell (p := ⟨p, 1, none⟩) hpw (.slice B6 m6 d6)).setCell (p := ⟨p, 2, none⟩) hpw (.slice none 0 0)
  have s0 : (((wE.setCell ⟨p, 0, none⟩ (.slice A6 n6 c6)).setCell ⟨p, 1, none⟩ (.slice B6 m6 d6)).setCell ⟨p, 2, none⟩ (.slice none 0 0)).cell? ⟨p, 0, none⟩ = some (.slice A6 n6 c6) := cell_far (by simp) (cell_far (by simp) (cell_set p0))
  have s1 : (((wE.setCell ⟨p, 0, none⟩ (.slice A6 n6 c6)).setCell ⟨p, 1, none⟩ (.slice B6 m6 d6)).setCell ⟨p, 2, none⟩ (.slice none 0 0)).cell? ⟨p, 1, none⟩ = some (.slice B6 m6 d6) := cell_far (by simp) (cell_set (cell_far (by simp) p1))
  have s2 : (((wE.setCell ⟨p, 0, none⟩ (.slice A6 n6 c6)).setCell ⟨p, 1, none⟩ (.slice B6 m6 d6)).setCell ⟨p, 2, none⟩ (.slice none 0 0)).cell? ⟨p, 2, none⟩ = some (.slice none 0 0) := cell_set (cell_far (by simp) (cell_far (by simp) p2))
  have g2 : (((wE.setCell ⟨p, 0, none⟩ (.slice A6 n6 c6)).setCell ⟨p, 1, none⟩ (.slice B6 m6 d6)).setCell ⟨p, 2, none⟩ (.slice none 0 0)).frozen? ⟨p, 2, none⟩ = false := by simp [pf2]
  have far : ∀ {b o : Nat} {u : Value}, b ≠ p → wE.cell? ⟨b, o, none⟩ = some u → (((wE.setCell ⟨p, 0, none⟩ (.slice A6 n6 c6)).setCell ⟨p, 1, none⟩ (.slice B6 m6 d6)).setCell ⟨p, 2, none⟩ (.slice none 0 0)).cell? ⟨b, o, none⟩ = some u := fun hb h => cell_far (fun e => hb (congrArg Addr.block e).symm) (cell_far (fun e => hb (congrArg Addr.block e).symm) (cell_far (fun e => hb (congrArg Addr.block e).symm) h))
  have z0 := far e1 x0; have z1 := far e1 x1; have t0 := far e2 y0; have t1 := far e2 y1; have t2 := far e2 y2
  have tf0 : (((wE.setCell ⟨p, 0, none⟩ (.slice A6 n6 c6)).setCell ⟨p, 1, none⟩ (.slice B6 m6 d6)).setCell ⟨p, 2, none⟩ (.slice none 0 0)).frozen? ⟨N + 1 + 1, 0, none⟩ = false := by simp [yf0]
  have tf1 : (((wE.setCell ⟨p, 0, none⟩ (.slice A6 n6 c6)).setCell ⟨p, 1, none⟩ (.slice B6 m6 d6)).setCell ⟨p, 2, none⟩ (.slice none 0 0)).frozen? ⟨N + 1 + 1, 1, none⟩ = false := by simp [yf1]
  have tf2 : (((wE.setCell ⟨p, 0, none⟩ (.slice A6 n6 c6)).setCell ⟨p, 1, none⟩ (.slice B6 m6 d6)).setCell ⟨p, 2, none⟩ (.slice none 0 0)).frozen? ⟨N + 1 + 1, 2, none⟩ = false := by simp [yf2]
  have ez : (((wE.setCell ⟨p, 0, none⟩ (.slice A6 n6 c6)).setCell ⟨p, 1, none⟩ (.slice B6 m6 d6)).setCell ⟨p, 2, none⟩ (.slice none 0 0)).heap.size = wE.heap.size := by simp
  clear far p0 p1 p2 pf0 pf1 pf2 x0 x1 y0 y1 y2 yf0 yf1 yf2 ME HE H6 PN NI
  generalize ((wE.setCell ⟨p, 0, none⟩ (.slice A6 n6 c6)).setCell ⟨p, 1, none⟩ (.slice B6 m6 d6)).setCell ⟨p, 2, none⟩ (.slice none 0 0) = w7 at *
  rw [← ez] at hp2 hs hs1
  have Q1 := Lib.hid q1; have Q2 := Lib.hid q2; have HB := Lib.hid hb; have EZ := Lib.hid ez
  clear q1 q2 hb ez
  have hp3 : p < w7.heap.size + 1 := by omega
  have hs2 : N + 1 + 1 < w7.heap.size + 1 := by omega
  have hs3 : N + 1 < w7.heap.size + 1 := by omega
  have e2' : p ≠ N + 1 + 1 := fun e => e2 e.symm
  refine wpList_nil ?_
  go_wp2
  obtain ⟨I, hI⟩ : ∃ I, I = Value.slice (some ⟨w7.heap.size + 1, 0, none⟩) 1 1 := ⟨_, rfl⟩
  rw [← hI]
  obtain ⟨M, hM⟩ : ∃ M, M = N + 1 + 1 := ⟨_, rfl⟩
  rw [← hM] at t0 t1 t2 e2' ⊢
  rw [← hM] at n3_ n4_
  have hMw : w.heap.size ≤ M := by have := EN.out; omega
  have q1 := (((Q1.out.setO (o := 2) n1_.out I).setO (o := 0) n3_.out (.slice A6 n6 c6)).setO (o := 1) n3_.out (.slice B6 m6 d6)).setO (o := 2) n3_.out I
  have q2 := (((Q2.out.setO (o := 2) n2_.out I).setO (o := 0) n4_.out (.slice A6 n6 c6)).setO (o := 1) n4_.out (.slice B6 m6 d6)).setO (o := 2) n4_.out I
  have hb := (((HB.out.setCell (p := ⟨p, 2, none⟩) hpw I).setCell (p := ⟨M, 0, none⟩) hMw (.slice A6 n6 c6)).setCell (p := ⟨M, 1, none⟩) hMw (.slice B6 m6 d6)).setCell (p := ⟨M, 2, none⟩) hMw I
  have hpM : ∀ o, (⟨p, 2, none⟩ : Addr) ≠ ⟨M, o, none⟩ := fun o e => e2' (congrArg Addr.block e)
  have u0 : ((((w7.setCell ⟨p, 2, none⟩ I).setCell ⟨M, 0, none⟩ (.slice A6 n6 c6)).setCell ⟨M, 1, none⟩ (.slice B6 m6 d6)).setCell ⟨M, 2, none⟩ I).cell? ⟨M, 0, none⟩ = some (.slice A6 n6 c6) := cell_far (by simp) (cell_far (by simp) (cell_set (cell_far (hpM 0) t0)))
  have u1 : ((((w7.setCell ⟨p, 2, none⟩ I).setCell ⟨M, 0, none⟩ (.slice A6 n6 c6)).setCell ⟨M, 1, none⟩ (.slice B6 m6 d6)).setCell ⟨M, 2, none⟩ I).cell? ⟨M, 1, none⟩ = some (.slice B6 m6 d6) := cell_far (by simp) (cell_set (cell_far (by simp) (cell_far (hpM 1) t1)))
  have u2 : ((((w7.setCell ⟨p, 2, none⟩ I).setCell ⟨M, 0, none⟩ (.slice A6 n6 c6)).setCell ⟨M, 1, none⟩ (.slice B6 m6 d6)).setCell ⟨M, 2, none⟩ I).cell? ⟨M, 2, none⟩ = some I := cell_set (cell_far (by simp) (cell_far (by simp) (cell_far (hpM 2) t2)))
  have ex : ((((w7.setCell ⟨p, 2, none⟩ I).setCell ⟨M, 0, none⟩ (.slice A6 n6 c6)).setCell ⟨M, 1, none⟩ (.slice B6 m6 d6)).setCell ⟨M, 2, none⟩ I).heap.size = w7.heap.size := by simp
  have IH := Lib.hid hI
  clear hI hs hs1 hs2 hs3 hp2 hp3 s0 s1 s2 g2 z0 z1 t0 t1 t2 tf0 tf1 tf2 Q1 Q2 n1_ n2_ n3_ n4_ HB hpM e0 e1 e2 e2'
  generalize (((w7.setCell ⟨p, 2, none⟩ I).setCell ⟨M, 0, none⟩ (.slice A6 n6 c6)).setCell ⟨M, 1, none⟩ (.slice B6 m6 d6)).setCell ⟨M, 2, none⟩ I = wx at *
  have ha : Below wx.heap.size wx ((wx.alloc (.cells #[.int .i64 r, .int .i64 k, .int .i64 q, .int .u64 1] 112)).alloc (.cells #[strV nm, .slice (some ⟨w7.heap.size, 0, none⟩) 1 1] 115)) := by go_grown
  have v0 := cellKeep ha u0
  have v1 := cellKeep ha u1
  have v2 := cellKeep ha u2
  have item : I1 ((wx.alloc (.cells #[.int .i64 r, .int .i64 k, .int .i64 q, .int .u64 1] 112)).alloc (.cells #[strV nm, .slice (some ⟨w7.heap.size, 0, none⟩) 1 1] 115)) (w7.heap.size + 1) w7.heap.size nm ⟨r, k, q, 1⟩ := by
    rw [← ex]
    exact ⟨by simp, by simp [go_sem], by simp [go_sem], ⟨by simp <;> omega, by simp [go_sem], by simp [go_sem], by simp [go_sem], by simp [go_sem]⟩⟩
  refine bodyPost_ret (v := .tuple #[.agg #[.slice A6 n6 c6, .slice B6 m6 d6, I], .int .i64 0]) (by simp [results, Tryz.results25, go_sem, v0, v1, v2]) rfl ?_
  exact ⟨_, rfl, hb.le ha, _, rfl, A6, n6, c6, B6, m6, d6, _, _, by rw [IH.out], ⟨q1.mono ha, q2.mono ha⟩, item⟩
end Go.Proofs.YtphhhnjeojdnkaaGreatDoor

/-
  ref30.Batch: codes that are allowed.
-/
namespace Go.Proofs.YtphhhnjeojdnkaaGreatDoor
open Go.RowKit
theorem enters28 : Enters Tryz.prog 28 := enters_of Tryz.func28 (by kernel_rfl) rfl
theorem enters27 : Enters Tryz.prog 27 := enters_of Tryz.func27 (by kernel_rfl) rfl
theorem rbodyL {n m ca cb bi bm N : Nat} {ky : List UInt8} {A B : Option Addr} {c : Ctx} {nm : List UInt8} {x k q t : Nat} {w : World} {u : Value} (h : CartOK w A n ca B m cb c bi bm nm x k q t) (hu : IsEntL ky A n ca B m cb bi w u) (hn : n ≤ 1000) (hm : m ≤ 1000) (hl : ky.length ≤ 64) (hN : N ≤ w.heap.size) :
    Calls Tryz.prog 27 #[u] w (Ret w (IsOwnB N (entryB ky c nm ⟨x, k, q, t⟩))) := by
  obtain ⟨be, rfl, e⟩ := hu
  exact (rbody h e hn hm hl).mono fun _ _ ⟨v, e, hb, ho⟩ => ⟨v, e, hb, OwnSl.low ho hN⟩
theorem entryB_len {c : Ctx} {w : World} {A B : Option Addr} {n m ca cb bi bm : Nat} {nm ky : List UInt8} {x k q t : Nat} (h : CartOK w A n ca B m cb c bi bm nm x k q t) (hn : n ≤ 1000) (hm : m ≤ 1000) (hl : ky.length ≤ 64) : (entryB ky c nm ⟨x, k, q, t⟩).length ≤ 1000000 := by
  have WL := wholeB_len h
  have h1 := strB_len (l := ky) (by omega)
  have h2 := num1_len
  unfold entryB
  simp only [List.length_append]
  omega
set_option maxRecDepth 100000 in
set_option maxHeartbeats 4000000 in
theorem rBatch {a i k q : Nat} (ha : a ≤ 3) (hi : i ≤ 3) (hk : 1 ≤ k) (hk2 : k ≤ 4294967295) (hq : 1 ≤ q) (hq2 : q ≤ 2147483647) {ky nm : List UInt8} (hkl : ky = letter 97 a) (hnl : nm = letter 119 i) (hN : NameOK nm) (hI : RItemOK nm) (hD : RNoDots nm) (hl1 : ky.length ≤ 64) (hl2 : nm.length ≤ 100) (w : World) :
    Calls Tryz.prog 11 #[.int .i64 (a : Int), .int .i64 (i : Int), .int .i64 (k : Int), .int .i64 (q : Int)] w (Ret w (IsOwnB w.heap.size (batchB ky (addC ([], []) [(((50000 + 4 * a + i : Nat) : Int), (k : Int))]) nm ⟨((50000 + 4 * a + i : Nat) : Int), k, q, 1⟩))) := by
  have O1 := Lib.hid (fun w => ritem i w); have O2 := Lib.hid (fun w => rkey a w)
  rw [← hnl] at O1
  rw [← hkl] at O2
  obtain ⟨r, hr⟩ : ∃ r, r = 50000 + 4 * a + i := ⟨_, rfl⟩
  have hv : validD ((r : Int), (k : Int)) = true := validD_iff.2 ⟨by simp; omega, by simp; omega, by simp; omega, by simp; omega⟩
  have hqs : qtyS (q : Int) = true := by simp [qtyS]; omega
  rw [← hr]
  have hri : (r : Int) = 50000 + 4 * (a : Int) + (i : Int) := by omega
  have CA := Lib.hid (rPut hv hqs hI hD)
  have BC := Lib.hid (add_ok hv hqs hN)
  have AO := Lib.hid (add_one hv)
  have HV := Lib.hid hv; have L2 := Lib.hid hl2; have QS := Lib.hid hqs
  have L1 := Lib.hid hl1; have HR := Lib.hid hri
  have KB := Lib.hid hk2
  clear hkl hnl hI hN hD hl1 hl2 hr hv hqs hri
  go_enter Tryz.func11, Tryz.ntmps11
  go_wp2_with fail
  refine (O1.out w).mono ?_
  rintro _ w1 ⟨_, rfl, hb1, rfl⟩
  have B1 := Lib.hid hb1
  clear hb1
  go_wp2_with fail
  rw [← HR.out]
  refine (CA.out w1).mono ?_
  rintro _ w2 ⟨_, rfl, hb2, _, rfl, A, n, ca, B, m, cb, bi, bm, rfl, hc⟩
  have hlens : n ≤ 10 ∧ m ≤ 10 := by
    have h1 := hc.con.v.len; have h2 := hc.con.k.len
    rcases AO.out with e | e <;> rw [e] at h1 h2 <;> simp at h1 h2 <;> omega
  have hok : CartOK w2 A n ca B m cb (addC ([], []) [((r : Int), (k : Int))]) bi bm nm r k q 1 := by
    refine ⟨hc, BC.out, ?_, ?_, ?_, ?_, ?_, ?_, by omega⟩
    · rcases AO.out with e | e <;> rw [e] <;> simp [HV.out]
    · rcases AO.out with e | e <;> rw [e] <;> simp [HV.out]
    · have := L2.out; omega
    · have := validD_iff.1 HV.out; simp at this; omega
    · have := KB.out; omega
    · have := QS.out; simp [qtyS] at this; omega
  have B2 := Lib.hid (B1.out.le hb2); have CK := Lib.hid hok; have LN := Lib.hid hlens
  clear hb2 hc hok hlens
  go_wp2_with fail
  obtain ⟨Z, hZ⟩ : ∃ Z, Z = w2.heap.size := ⟨_, rfl⟩
  have hb3 : Below w2.heap.size w2 (w2.alloc (.cells (cartA A n ca B m cb bi) 63)) := by go_grown
  have y0 : (w2.alloc (.cells (cartA A n ca B m cb bi) 63)).cell? ⟨Z, 0, none⟩ = some (.slice A n ca) := by rw [hZ]; simp [go_sem]
  have y1 : (w2.alloc (.cells (cartA A n ca B m cb bi) 63)).cell? ⟨Z, 1, none⟩ = some (.slice B m cb) := by rw [hZ]; simp [go_sem]
  have y2 : (w2.alloc (.cells (cartA A n ca B m cb bi) 63)).cell? ⟨Z, 2, none⟩ = some (.slice (some ⟨bi, 0, none⟩) 1 1) := by rw [hZ]; simp [go_sem]
  have B3 := Lib.hid (B2.out.le hb3); have CK3 := Lib.hid (CK.out.mono hb3)
  rw [← hZ]
  clear hZ hb3
  generalize w2.alloc (.cells (cartA A n ca B m cb bi) 63) = w3 at *
  have Y0 := Lib.hid y0; have Y1 := Lib.hid y1; have Y2 := Lib.hid y2
  clear y0 y1 y2
  have EL := Lib.hid (show (entryB ky (addC ([], []) [((r : Int), (k : Int))]) nm ⟨r, k, q, 1⟩).length ≤ 1000000 from entryB_len (ky := ky) CK.out (by have := LN.out; omega) (by have := LN.out; omega) L1.out)
  obtain ⟨BB, hBB⟩ : ∃ BB, BB = entryB ky (addC ([], []) [((r : Int), (k : Int))]) nm ⟨r, k, q, 1⟩ := ⟨_, rfl⟩
  have EC := Lib.hid (fun (w1 : World) (u : Value) (hb1 : Below w3.heap.size w3 w1) (hu : IsEntL ky A n ca B m cb bi w1 u) => show Calls Tryz.prog 27 #[u] w1 (Ret w1 (IsOwnB w.heap.size BB)) by
    rw [hBB]
    exact rbodyL (CK3.out.mono hb1) hu (by have := LN.out; omega) (by have := LN.out; omega) L1.out (by have := B3.out.size; have := hb1.size; omega))
  rw [← hBB] at EL
  have EBB : Hid (batchB ky (addC ([], []) [((r : Int), (k : Int))]) nm ⟨r, k, q, 1⟩ = BB ++ sumB (crcS BB)) := Lib.hid (by rw [hBB]; rfl)
  clear hBB
  rw [EBB.out]
  refine wp_region_M mixed (by kernel_rfl) ?_
  refine MDerR.step (Ob.move Wanted.free Has.oldIs) ?_
  refine MDerR.step (Ob.call1V Wanted.free enters28 (Has.new 0 0) (fun w1 hb1 => O2.out w1)) ?_
  refine MDerR.step (Ob.loadV Wanted.free Has.oldIs (fun w1 hb1 => load_cart hb1 Y0.out Y1.out Y2.out)) ?_
  refine MDerR.step (Ob.mkEnt Wanted.free (Has.new 1 1) (Has.new 2 0) trivial) ?_
  refine MDerR.step (Ob.mkEntL Wanted.free (Has.new 3 0) trivial) ?_
  refine MDerR.step (Ob.call1 Wanted.free enters27 (Has.new 4 0) (fun w1 u hb1 hu => EC.out w1 u hb1 hu)) ?_
  refine MDerR.step (Ob.assign Wanted.free (Has.new 5 0)) ?_
  simp only [MDerR, dstsOf, List.map, EndM, List.reverse_cons, List.reverse_nil, List.nil_append, List.cons_append]
  intro wE hE
  iterate 4 (rintro _ rfl)
  rintro _ _h4
  rintro _ h5
  rintro _ h6
  simp only [Act.put, List.setIfInBounds_toArray, List.set_cons_zero, List.set_cons_succ]
  rename_i v6
  obtain ⟨A6, c6, rfl, s6⟩ := OwnSl.sl h6
  have HB := Lib.hid (B3.out.le hE); have S6 := Lib.hid s6
  have NL := Lib.hid (show BB.length ≤ 9223372036854775807 by have := EL.out; omega)
  clear hE _h4 h5 h6 s6
  go_wp2_with fail
  refine (rsum _ _ _ _ _ S6.out).mono ?_
  rintro _ w7 ⟨_, rfl, hb7, rfl⟩
  have S7 := Lib.hid (S6.out.mono hb7); have HB7 := Lib.hid (HB.out.le hb7)
  clear hb7
  go_wp2_with fail
  refine (rend _ _ _ _ _ _ S7.out EL.out).mono ?_
  rintro _ w8 ⟨v8, rfl, hb8, ho8⟩
  have HB8 := Lib.hid (HB7.out.le hb8)
  have HO := Lib.hid (OwnSl.low ho8 HB7.out.size)
  clear hb8 ho8
  go_wp2
  go_ret
  exact ⟨_, rfl, HB8.out, by rw [EBB.out]; exact HO.out⟩
end Go.Proofs.YtphhhnjeojdnkaaGreatDoor

/-
  Are two operations equal: in the code and in the reference.
-/
namespace Go.Proofs.YtphhhnjeojdnkaaGreatDoor
open Go.RowKit

structure OpS where
  kind : Int
  n : Int
  call : CallS
  deriving DecidableEq
end Go.Proofs.YtphhhnjeojdnkaaGreatDoor

/-
  What the bytes of a script read as: plain.
-/
namespace Go.Proofs.YtphhhnjeojdnkaaGreatDoor
open Go.RowKit
/-- The batch of some codes. -/
def batchOf (a i k q : Nat) : List UInt8 := batchB (letter 97 a) (addC ([], []) [(((50000 + 4 * a + i : Nat) : Int), (k : Int))]) (letter 119 i) ⟨((50000 + 4 * a + i : Nat) : Int), k, q, 1⟩
end Go.Proofs.YtphhhnjeojdnkaaGreatDoor

/-
  Lists of operations in memory; a row of operations of the call's own: an append.
-/
namespace Go.Proofs.YtphhhnjeojdnkaaGreatDoor
open Go.RowKit
/-- An operation and where its bytes lie. -/
structure OpE where
  o : OpS
  A : Option Addr
  n : Nat
  c : Nat
def encO : Enc OpE := ⟨8, fun s => [.int .i64 s.o.kind, .int .i64 s.o.n, .int .i64 s.o.call.op, strV s.o.call.key, strV s.o.call.other, strV s.o.call.item, .int .i64 s.o.call.qty, .slice s.A s.n s.c], fun _ => rfl, fun s u hu => by
  simp only [List.mem_cons, List.not_mem_nil, or_false] at hu
  rcases hu with rfl | rfl | rfl | rfl | rfl | rfl | rfl | rfl <;> rfl⟩
/-- The operation's bytes lie in memory, outside a row. -/
structure OffO (w : World) (B : Nat) (r : Option Nat) (s : OpE) : Prop where
  sl : Sl encB w s.A s.n s.c s.o.call.data
  lt : ∀ a, s.A = some a → a.block < w.heap.size
  off : ∀ a, s.A = some a → some a.block ≠ r
  lo : ∀ a, s.A = some a → B ≤ a.block
theorem OffO.mono {w w' : World} {B : Nat} {r : Option Nat} {s : OpE} (h : OffO w B r s) (hb : Below w.heap.size w w') : OffO w' B r s := ⟨h.sl.mono hb, fun a e => Nat.lt_of_lt_of_le (h.lt a e) hb.size, h.off, h.lo⟩
theorem Sl.grownOff {α : Type} {e : Enc α} {w w' : World} {A : Option Addr} {n c : Nat} {l : List α} {r : Option Nat} (h : Sl e w A n c l) (hg : w.grownBy w' r) (ho : ∀ a, A = some a → some a.block ≠ r) : Sl e w' A n c l :=
  ⟨h.len, h.cap, h.max, h.nil, fun i x hi => by
    obtain ⟨b, o, rfl, hb, h1⟩ := h.cell i x hi
    exact ⟨b, o, rfl, Nat.lt_of_lt_of_le hb hg.size, fun j u hj => hg.cell (h1 j u hj) (ho ⟨b, o, none⟩ rfl)⟩⟩
def ORow (w : World) (B : Nat) (u : Value) (l : List OpS) : Prop := ∃ es : List OpE, es.map (·.o) = l ∧ OwnSl encO 41 w B u es ∧ ∀ s ∈ es, OffO w B u.ownBlock s
/-- A slice of operations. -/
def OpsAt (w : World) (A : Option Addr) (n c : Nat) (l : List OpS) : Prop := ∃ es : List OpE, es.map (·.o) = l ∧ Sl encO w A n c es ∧ ∀ s ∈ es, Sl encB w s.A s.n s.c s.o.call.data
section
variable {w w' : World} {B : Nat} {u : Value} {l : List OpS}
theorem ORow.nil_ (w : World) (B : Nat) : ORow w B (.slice none 0 0) [] := ⟨[], rfl, OwnSl.nil_ _ _ _ _, fun _ h => nomatch h⟩
theorem ORow.mono (h : ORow w B u l) (hb : Below w.heap.size w w') : ORow w' B u l := let ⟨es, e, ho, hs⟩ := h; ⟨es, e, ho.mono hb, fun s hm => (hs s hm).mono hb⟩
theorem ORow.own (h : ORow w B u l) : ∀ q, u.ownBlock = some q → B ≤ q ∧ q < w.heap.size := let ⟨_, _, ho, _⟩ := h; OwnSl.own ho
theorem ORow.low {B' : Nat} (h : ORow w B u l) (hB : B' ≤ B) : ORow w B' u l := let ⟨es, e, ho, hs⟩ := h; ⟨es, e, ho.low hB, fun s hm => let ⟨a, b, c, d⟩ := hs s hm; ⟨a, b, c, fun x e => Nat.le_trans hB (d x e)⟩⟩
theorem ORow.ops (h : ORow w B u l) : ∃ A c, u = .slice A l.length c ∧ OpsAt w A l.length c l := by
  obtain ⟨es, rfl, ho, hs⟩ := h
  obtain ⟨A, c, e, h1⟩ := OwnSl.sl ho
  rw [List.length_map]
  exact ⟨A, c, e, es, rfl, h1, fun s hm => (hs s hm).sl⟩
theorem OpsAt.mono {A : Option Addr} {n c : Nat} (h : OpsAt w A n c l) (hb : Below w.heap.size w w') : OpsAt w' A n c l := let ⟨es, e, h1, hs⟩ := h; ⟨es, e, h1.mono hb, fun s hm => (hs s hm).mono hb⟩
theorem OpsAt.len {A : Option Addr} {n c : Nat} (h : OpsAt w A n c l) : n = l.length := by
  obtain ⟨es, rfl, h1, _⟩ := h
  rw [List.length_map]; exact h1.len
theorem OpsAt.big {A : Option Addr} {n c : Nat} (h : OpsAt w A n c l) : n ≤ 9223372036854775807 := let ⟨_, _, h1, _⟩ := h; h1.big
theorem ORow.grown {r : Option Nat} {w1 : World} (h : ORow w B u l) (hg : w.grownBy w1 r) (hne : u.ownBlock = none ∨ u.ownBlock ≠ r) (hoff : ∀ q, r = some q → w.heap.size ≤ q) : ORow w1 B u l := by
  obtain ⟨es, e, ho, hs⟩ := h
  refine ⟨es, e, ho.grown hg hne, fun s hm => ?_⟩
  have h := hs s hm
  exact ⟨h.sl.grownOff hg (fun a e e2 => by have := h.lt a e; have := hoff _ e2.symm; omega), fun a e => Nat.lt_of_lt_of_le (h.lt a e) hg.size, h.off, h.lo⟩
theorem Sl.wrote {α : Type} {e : Enc α} {A : Option Addr} {n c N : Nat} {l : List α} (h : Sl e w A n c l) (hw : Wrote N none w w') (hn : ∀ a, A = some a → a.block ≠ N) : Sl e w' A n c l :=
  ⟨h.len, h.cap, h.max, h.nil, fun i x hi => by
    obtain ⟨b, o, rfl, hb, h1⟩ := h.cell i x hi
    exact ⟨b, o, rfl, Nat.lt_of_lt_of_le hb hw.size, fun j u hj => hw.cell (h1 j u hj) (hn ⟨b, o, none⟩ rfl) (by simp)⟩⟩
theorem OwnSl.wrote {α : Type} {e : Enc α} {ty : TypeId} {N : Nat} {l : List α} (h : OwnSl e ty w B u l) (hw : Wrote N none w w') (hN : N < B) : OwnSl e ty w' B u l := by
  refine ⟨h.1, ?_⟩
  rcases h.2 with h2 | ⟨g, cap, cur, hv, hg, hh, r⟩
  · exact .inl h2
  · exact .inr ⟨g, cap, cur, hv, hg, (hw.block g (Array.getElem?_eq_some_iff.1 hh).1 (by omega) (by simp)).trans hh, r⟩
theorem ORow.wrote {N : Nat} (h : ORow w B u l) (hw : Wrote N none w w') (hN : N < B) : ORow w' B u l := by
  obtain ⟨es, e, ho, hs⟩ := h
  refine ⟨es, e, ho.wrote hw hN, fun s hm => ?_⟩
  have h := hs s hm
  exact ⟨h.sl.wrote hw (fun a e => by have := h.lo a e; omega), fun a e => Nat.lt_of_lt_of_le (h.lt a e) hw.size, h.off, h.lo⟩
end
end Go.Proofs.YtphhhnjeojdnkaaGreatDoor

/-
  script.Batch and ref30.Batch by their codes.
-/
namespace Go.Proofs.YtphhhnjeojdnkaaGreatDoor
open Go.RowKit
theorem item_cases {Q : List UInt8 → Prop} (i : Nat) (h0 : Q [119]) (h1 : Q [120]) (h2 : Q [121]) (h3 : Q [122]) : Q (letter 119 i) := by
  unfold letter
  have h4 : i % 4 = 0 ∨ i % 4 = 1 ∨ i % 4 = 2 ∨ i % 4 = 3 := by omega
  rcases h4 with h | h | h | h <;> rw [h]
  · exact h0
  · exact h1
  · exact h2
  · exact h3
theorem key_cases {Q : List UInt8 → Prop} (i : Nat) (h0 : Q [97]) (h1 : Q [98]) (h2 : Q [99]) (h3 : Q [100]) : Q (letter 97 i) := by
  unfold letter
  have h4 : i % 4 = 0 ∨ i % 4 = 1 ∨ i % 4 = 2 ∨ i % 4 = 3 := by omega
  rcases h4 with h | h | h | h <;> rw [h]
  · exact h0
  · exact h1
  · exact h2
  · exact h3
theorem nameL (i : Nat) : NameOK (letter 119 i) := item_cases (Q := NameOK) i item119 item120 item121 item122
theorem rnameL (i : Nat) : RItemOK (letter 119 i) := item_cases (Q := RItemOK) i ritem119 ritem120 ritem121 ritem122
theorem nodotsL (i : Nat) : NoDots (letter 119 i) := item_cases (Q := NoDots) i no_cd119 no_cd120 no_cd121 no_cd122
theorem rnodotsL (i : Nat) : RNoDots (letter 119 i) := item_cases (Q := RNoDots) i no_rd119 no_rd120 no_rd121 no_rd122
theorem keyL (i : Nat) : KeyOK (letter 97 i) := key_cases (Q := KeyOK) i key97 key98 key99 key100
theorem letter_len (b n : Nat) : (letter b n).length = 1 := rfl
theorem cBatchOf {a i k q : Nat} (ha : a ≤ 3) (hi : i ≤ 3) (hk : 1 ≤ k) (hk2 : k ≤ 4294967295) (hq : 1 ≤ q) (hq2 : q ≤ 2147483647) (w : World) :
    Calls Tryz.prog 10 #[.int .i64 (a : Int), .int .i64 (i : Int), .int .i64 (k : Int), .int .i64 (q : Int)] w (Ret w (IsPair (IsOwnB w.heap.size (batchOf a i k q)) 0)) :=
  cBatch ha hi hk hk2 hq hq2 rfl rfl (keyL a) (nameL i) (nodotsL i) (by rw [letter_len]; omega) (by rw [letter_len]; omega) w
theorem rBatchOf {a i k q : Nat} (ha : a ≤ 3) (hi : i ≤ 3) (hk : 1 ≤ k) (hk2 : k ≤ 4294967295) (hq : 1 ≤ q) (hq2 : q ≤ 2147483647) (w : World) :
    Calls Tryz.prog 11 #[.int .i64 (a : Int), .int .i64 (i : Int), .int .i64 (k : Int), .int .i64 (q : Int)] w (Ret w (IsOwnB w.heap.size (batchOf a i k q))) :=
  rBatch ha hi hk hk2 hq hq2 rfl rfl (nameL i) (rnameL i) (rnodotsL i) (by rw [letter_len]; omega) (by rw [letter_len]; omega) w
end Go.Proofs.YtphhhnjeojdnkaaGreatDoor

/-
  ScriptBatches: for any codes, counter and quantity, with no further condition, the law returns true.
-/
namespace Go.Proofs.YtphhhnjeojdnkaaGreatDoor
open Go.RowKit
theorem enters11 : Enters Tryz.prog 11 := enters_of Tryz.func11 (by kernel_rfl) rfl
theorem enters6 : Enters Tryz.prog 6 := enters_of Tryz.func6 (by kernel_rfl) rfl
section
variable {ops : List Oper} {Fs : List VT} {w0 : World} {a0 : Act} {i : Nat} {d : Option Tmp} {ty : TypeId} {pos : String} {after : Array Edge} {g : Option (Nat × Bool)}
theorem Ob.convB2 {x : Operand} {p r : Value} {t t' : TypeId} (hw : Wanted ops Fs w0 a0 i ⟨d, .convert t t' x, ty, pos, after, g⟩) (hx : Has ops Fs w0 a0 i ⟨d, .convert t t' x, ty, pos, after, g⟩ x (Is p))
    (h : ∀ w, Below w0.heap.size w0 w → (convert t t' p).run Tryz.prog w = .ok r w) : Ob Tryz.prog ops Fs w0 a0 i ⟨d, .convert t t' x, ty, pos, after, g⟩ (Is r) :=
  Ob.stay hw fun a w cx => ⟨r, by
    have h1 : a.eval x = p := hx a w cx
    have h2 := h w cx.le
    generalize a.eval = ρ at h1
    simp [execOp, h1, h2], rfl⟩
theorem Ob.convOwn {x : Operand} {N : Nat} {l : List UInt8} (hw : Wanted ops Fs w0 a0 i ⟨d, .convert 22 9 x, ty, pos, after, g⟩) (hx : Has ops Fs w0 a0 i ⟨d, .convert 22 9 x, ty, pos, after, g⟩ x (IsOwnB N l)) (_ : True) :
    Ob Tryz.prog ops Fs w0 a0 i ⟨d, .convert 22 9 x, ty, pos, after, g⟩ (Is (strV l)) :=
  Ob.stay hw fun a w cx => ⟨strV l, by
    have h1 : IsOwnB N l w (a.eval x) := hx a w cx
    obtain ⟨A, c, e, hs⟩ := OwnSl.sl h1
    have h2 := conv_bytes hs
    clear h1 hs hx
    generalize a.eval = ρ at e
    simp [execOp, e, h2], rfl⟩
end
theorem low_own {P : Program} {f : FuncId} {args : Array Value} {w : World} {N : Nat} {L : List UInt8} (h : Calls P f args w (Ret w (IsOwnB w.heap.size L))) (hN : N ≤ w.heap.size) : Calls P f args w (Ret w (IsOwnB N L)) := h.mono fun _ _ ⟨v, e, hb, ho⟩ => ⟨v, e, hb, OwnSl.low ho hN⟩
theorem str_eql {w : World} {x y : Operand} (l : List UInt8) : (eqGuard .eql 9 x y (strV l) (strV l)).run Tryz.prog w = .ok () w ∧ (binOp .eql 9 (strV l) (strV l)).run Tryz.prog w = .ok (.bool true) w := ⟨by simp [eqGuard, go_sem], by simp [go_sem]⟩
theorem err_eql {w : World} {x y : Operand} : (eqGuard .eql 25 x y (.int .i64 0) (.int .i64 0)).run Tryz.prog w = .ok () w ∧ (binOp .eql 25 (.int .i64 0) (.int .i64 0)).run Tryz.prog w = .ok (.bool true) w := ⟨by simp [eqGuard, go_sem], by simp [go_sem]⟩
set_option maxRecDepth 100000 in
set_option maxHeartbeats 4000000 in
theorem lawBatches (a i k q : Int) (w : World) : Calls Tryz.prog 4 #[.int .i64 a, .int .i64 i, .int .i64 k, .int .i64 q] w (Ret w (IsB true)) := by
  have KT := Lib.hid known_true
  cases hbad : batchBad a i k q with
  | true =>
    have C := Lib.hid (cBatchBad hbad)
    have hB := hbad
    unfold batchBad at hB
    simp only [Bool.or_eq_true, decide_eq_true_eq] at hB
    have H := Lib.hid hB
    clear hB hbad
    go_enter Tryz.func4, Tryz.ntmps4
    go_wp2_with fail
    refine (C.out w).mono ?_
    rintro _ w1 ⟨_, rfl, hb1, rfl⟩
    have B1 := Lib.hid hb1
    clear hb1
    go_wp2_with fail
    all_goals first
      | (exfalso; have := H.out; omega)
      | (refine (KT.out _).mono ?_
         rintro _ w2 ⟨_, rfl, hb2, rfl⟩
         have B2 := Lib.hid (B1.out.le hb2)
         clear hb2
         go_wp2
         go_ret
         exact retB rfl B2.out)
  | false =>
    have hB := hbad
    unfold batchBad at hB
    simp only [Bool.or_eq_false_iff, decide_eq_false_iff_not] at hB
    obtain ⟨a, rfl⟩ := Int.eq_ofNat_of_zero_le (show 0 ≤ a by omega)
    obtain ⟨i, rfl⟩ := Int.eq_ofNat_of_zero_le (show 0 ≤ i by omega)
    obtain ⟨k, rfl⟩ := Int.eq_ofNat_of_zero_le (show 0 ≤ k by omega)
    obtain ⟨q, rfl⟩ := Int.eq_ofNat_of_zero_le (show 0 ≤ q by omega)
    have C := Lib.hid (fun w => cBatchOf (a := a) (i := i) (k := k) (q := q) (by omega) (by omega) (by omega) (by omega) (by omega) (by omega) w)
    have R := Lib.hid (fun w => rBatchOf (a := a) (i := i) (k := k) (q := q) (by omega) (by omega) (by omega) (by omega) (by omega) (by omega) w)
    generalize batchOf a i k q = L at *
    have h0 : ¬ (a : Int) < 0 := by omega
    have h1 : ¬ (3 : Int) < (a : Int) := by omega
    have h2 : ¬ (i : Int) < 0 := by omega
    have h3 : ¬ (3 : Int) < (i : Int) := by omega
    have h4 : ¬ (k : Int) < 1 := by omega
    have h5 : ¬ (4294967295 : Int) < (k : Int) := by omega
    have h6 : ¬ (q : Int) < 1 := by omega
    have h7 : ¬ (2147483647 : Int) < (q : Int) := by omega
    clear hB hbad
    go_enter Tryz.func4, Tryz.ntmps4
    go_wp2_with fail
    refine (C.out w).mono ?_
    rintro _ w1 ⟨_, rfl, hb1, v1, rfl, ho1⟩
    obtain ⟨A1, c1, rfl, s1⟩ := OwnSl.sl ho1
    have B1 := Lib.hid hb1; have S1 := Lib.hid s1
    clear hb1 ho1 s1
    go_wp2_with fail
    refine wp_region_M mixed (by kernel_rfl) ?_
    refine MDerR.step (Ob.move Wanted.free Has.oldIs) ?_
    refine MDerR.step (Ob.convB2 Wanted.free (Has.new 0 0) (fun w1 hb1 => conv_bytes (S1.out.mono hb1))) ?_
    refine MDerR.step (Ob.move Wanted.free Has.oldIs) ?_
    refine MDerR.step (Ob.move Wanted.free Has.oldIs) ?_
    refine MDerR.step (Ob.move Wanted.free Has.oldIs) ?_
    refine MDerR.step (Ob.move Wanted.free Has.oldIs) ?_
    refine MDerR.step (Ob.call4V Wanted.free enters11 (Has.new 2 3) (Has.new 3 2) (Has.new 4 1) (Has.new 5 0) (fun w1 hb1 => low_own (N := w.heap.size) (R.out w1) (by have := B1.out.size; have := hb1.size; omega))) ?_
    refine MDerR.step (Ob.convOwn Wanted.free (Has.new 6 0) trivial) ?_
    refine MDerR.step (Ob.binV Wanted.free (Has.new 1 6) (Has.new 7 0) (fun w1 => str_eql _)) ?_
    refine MDerR.step (Ob.move Wanted.free (Has.new 8 0)) ?_
    refine MDerR.step (Ob.move (Wanted.on 9 0) Has.oldIs) ?_
    refine MDerR.step (Ob.binV (Wanted.on 9 1) (Has.new 10 0) (Has.cst _) (fun w1 => err_eql)) ?_
    refine MDerR.step (Ob.pickT Wanted.free (Has.new 9 2) (Has.new 11 0)) ?_
    refine MDerR.step (Ob.move Wanted.free (Has.new 12 0)) ?_
    refine MDerR.step (Ob.call0 (Wanted.on 13 0) enters6  (fun w1 hb1 => KT.out w1)) ?_
    refine MDerR.step (Ob.pickT Wanted.free (Has.new 13 1) (Has.new 14 0)) ?_
    refine MDerR.step (Ob.assign Wanted.free (Has.new 15 0)) ?_
    simp only [MDerR, dstsOf, List.map, EndM, List.reverse_cons, List.reverse_nil, List.nil_append, List.cons_append]
    intro wE hE
    iterate 6 (rintro _ rfl)
    rintro _ _h6
    iterate 10 (rintro _ rfl)
    simp only [Act.put, List.setIfInBounds_toArray, List.set_cons_zero, List.set_cons_succ]
    go_wp2
    go_ret
    exact retB rfl (B1.out.le hE)
end Go.Proofs.YtphhhnjeojdnkaaGreatDoor

/-
  From a law's walk to its row: what was there stays.
-/
namespace Go.Proofs.YtphhhnjeojdnkaaGreatDoor
open Go.ChangeShapes Go.WideShapes Go.ChangeAt Go.RowKit Go.Deep Go.Joins

section
variable {H : Type} {enc : TypeId × Value → H} {P : Program}
/-- Arguments that were read whole are read alike in a world in which all that was there is as it was. -/
theorem all_stay (hl : laidOutB P = true) {W W' : World} {sp' : Nat → Bool} : ∀ {ts : List TypeId} {vs : List Value} {ds : List (DataW H)} {ps : List MemPlace}, (∀ t ∈ ts, P.readableRec t = true ∧ t < P.types.size) →
    DataW.TrodAll enc P W 0 (fun _ => true) true ts vs ds ps → (∀ p ∈ ps, W.sameAt W' p) → (∀ p ∈ ps, sp' p.block = true) → DataW.TrodAll enc P W' 0 sp' true ts vs ds ps
  | [], _, _, _, _, h, _, _ => by
    obtain ⟨rfl, rfl, rfl⟩ := trodAll_nil h
    rfl
  | t :: ts, _, _, _, hr, h, hs, hp => by
    obtain ⟨v, vs, d, ds, a, b, rfl, rfl, rfl, h1, h2⟩ := trodAll_cons h
    have ht := hr t List.mem_cons_self
    exact ⟨a, b, Go.WideElems.Trod_stays hl ht.1 ht.2 h1 (fun p h => hs p (List.mem_append_left _ h)) (fun p h => hp p (List.mem_append_left _ h)),
      all_stay hl (fun t h => hr t (List.mem_cons_of_mem _ h)) h2 (fun p h => hs p (List.mem_append_right _ h)) (fun p h => hp p (List.mem_append_right _ h)), rfl⟩
/-- The row's last step for a law: it returned true, and nothing that was there has turned. -/
theorem law_post {f : Func} {s : ChangeSpec} {apart fresh handsOn again : Bool} {W W' : World} {args : Array Value} {ds : List (DataW H)} {before : List MemPlace} {tb : TypeId} (hl : laidOutB P = true)
    (hr0 : f.params.toList.all (fun t => P.readableRec t && decide (t < P.types.size)) = true) (hT : f.resultTypes = #[tb]) (hbt : P.underlying tb = some .bool) (hsv : s.vars = []) (hfn : s.fn H ds = { results := [.lit (.bool true)], args := ds })
    (hW : DataW.Whole enc P f.params.toList s.vars apart W args.toList ds [] before) (hb : Below W.heap.size W W') : s.post enc P f apart fresh handsOn again W args (.bool true) W' := by
  have hr : ∀ t ∈ f.params.toList, P.readableRec t = true ∧ t < P.types.size := fun t ht => by
    have := List.all_eq_true.1 hr0 t ht
    rw [Bool.and_eq_true] at this
    exact ⟨this.1, of_decide_eq_true this.2⟩
  obtain ⟨p, q, hA, hV, hps, hz, hn⟩ := id hW
  have hq : q = [] := by rw [hsv] at hV; exact hV
  subst hq
  rw [List.append_nil] at hps
  subst hps
  have hlt : ∀ x ∈ before, x.block < W.heap.size := fun x hx => hW.lt x hx
  have hsame : ∀ x ∈ before, W.sameAt W' x := fun x hx => hb.same (hlt x hx)
  have hres : ∀ (b : Nat) (sp : Nat → Bool) (hd : Bool), DataW.TrodAll enc P W' b sp hd f.resultTypes.toList ((Value.bool true).resultList f.resultTypes.size) [.lit (.bool true)] [] := by
    intro b sp hd
    rw [hT]
    exact trodAll_mk1 (shut_bool hbt _)
  refine ⟨ds, [], before, [], before, [], hW, ?_, ?_, ?_, World.keptBut_mono (fun x hx => ⟨hx, .inr (.inl hx)⟩) (hb.frame (· ∈ before)), fun _ => ⟨?_, ?_⟩⟩
  · rw [List.append_nil, hfn]; exact hres _ _ _
  · rw [List.append_nil, hfn]; exact all_stay hl hr hA hsame fun x hx => by simpa using hlt x hx
  · rw [List.append_nil, hfn, hsv]; rfl
  · exact ok_one hT rfl (okWide_bool_mk hbt _)
  · refine ⟨_, [], before, ⟨before, [], trodAll_append (p := []) (all_stay hl hr hA hsame fun _ _ => rfl) (hres _ _ _), by rw [hsv]; rfl, by simp, fun b off hp => ?_, hn⟩, fun x hx _ => hx⟩
    rw [hb.frozen (hlt _ hp)]
    exact hz b off hp
end

theorem own_none : ownKnob Tryz.prog.godebug = none := by kernel_rfl
theorem laid_out : laidOutB Tryz.prog = true := by kernel_rfl
end Go.Proofs.YtphhhnjeojdnkaaGreatDoor
