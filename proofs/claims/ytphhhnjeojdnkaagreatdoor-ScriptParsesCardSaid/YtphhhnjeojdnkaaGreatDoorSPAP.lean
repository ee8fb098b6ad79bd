/-
  As XMST with one writing operation, whose value need not outlast another one (there is none).
-/
import Derived.Test.YtphhhnjeojdnkaaGreatDoorSPAO
import Derived.Test.YtphhhnjeojdnkaaGreatDoorSPAN
import Derived.Deep.Upon
import Derived.Test.YtphhhnjeojdnkaaGreatDoorSPAL
import Derived.Test.YtphhhnjeojdnkaaGreatDoorSPAA
import Derived.Test.YtphhhnjeojdnkaaGreatDoorRows
import Derived.ProofKit
import Derived.WideKeyArgs
import Derived.Deep.SlicePairs
import Derived.Lib.SmallJoins
import Derived.KernelRfl
set_option linter.unusedSectionVars false
set_option linter.unusedVariables false
set_option linter.unusedSimpArgs false
set_option maxRecDepth 100000
set_option maxHeartbeats 8000000
namespace Go.Proofs.YtphhhnjeojdnkaaGreatDoor
open Go.RowKit
structure StE (R : Steps) (e i : Nat) (F : VT) : Prop where
  other : i ≠ e -> Stays R F
  self : i = e -> Grows F
section
variable {P : Program} {ops : List Oper} {w0 : World} {a0 : Act} {Q : Exit -> Act -> World -> Prop} {R : Steps} {Φ : Nat -> World -> Prop} {e : Nat}
def MDerE (P : Program) (ops : List Oper) (R : Steps) (Φ : Nat -> World -> Prop) (e : Nat) (w0 : World) (a0 : Act) (Q : Exit -> Act -> World -> Prop) : List Oper -> List VT -> Prop
  | o :: os, RF => ∃ F : VT, StE R e RF.length F ∧ ObX P ops R Φ [e] w0 a0 RF.reverse RF.length o F ∧ MDerE P ops R Φ e w0 a0 Q os (F :: RF)
  | [], RF => ∀ w, R.S w0 w -> R.I w -> Φ 1 w -> EndM Q (dstsOf ops) RF.reverse a0 w
theorem MDerE.step {o : Oper} {os : List Oper} {RF : List VT} {F : VT} [hF : Stays R F] (hE : (RF.length != e) = true) (h : ∀ w, R.S w0 w -> R.I w -> Ob P ops RF.reverse w a0 RF.length o F) (k : MDerE P ops R Φ e w0 a0 Q os (F :: RF)) : MDerE P ops R Φ e w0 a0 Q (o :: os) RF :=
  have hn : RF.length ≠ e := by simpa using hE
  ⟨F, ⟨fun _ => hF, fun h => absurd h hn⟩, ⟨fun _ => h, fun k hk => by
    have h0 : ([e] : List Nat).idxOf? RF.length = none := by simp [List.idxOf?_eq_none_iff]; exact fun h => hn h.symm
    rw [h0] at hk; cases hk⟩, k⟩
theorem MDerE.write {o : Oper} {os : List Oper} {RF : List VT} {F : VT} [hF : Grows F] (hE : (RF.length == e) = true) (h : ∀ w, R.S w0 w -> R.I w -> Φ 0 w -> ObS P ops R (Φ 1) RF.reverse w a0 RF.length o F) (k : MDerE P ops R Φ e w0 a0 Q os (F :: RF)) : MDerE P ops R Φ e w0 a0 Q (o :: os) RF := by
  have hn : RF.length = e := by simpa using hE
  refine ⟨F, ⟨fun h => absurd hn h, fun _ => hF⟩, ⟨fun hx => ?_, fun j hj => ?_⟩, k⟩
  · rw [List.idxOf?_eq_none_iff] at hx; exact absurd (by simp [hn]) hx
  · have : j = 0 := by
      rw [hn] at hj; simp [List.idxOf?, List.findIdx?_cons] at hj; omega
    subst this; exact h
theorem MDerE.all : ∀ {os : List Oper} {RF : List VT} (_ : MDerE P ops R Φ e w0 a0 Q os RF) (pre : List Oper) (_ : pre.length = RF.length) (_ : ops = pre ++ os) (_ : ∀ (i : Nat) (o : Oper) (F : VT), pre[i]? = some o -> RF.reverse[i]? = some F -> StE R e i F ∧ ObX P ops R Φ [e] w0 a0 RF.reverse i o F),
    ∃ Gs : List VT, Gs.length = ops.length ∧ (∀ (i : Nat) (o : Oper) (F : VT), ops[i]? = some o -> Gs[i]? = some F -> StE R e i F ∧ ObX P ops R Φ [e] w0 a0 Gs i o F) ∧ ∀ w, R.S w0 w -> R.I w -> Φ 1 w -> EndM Q (dstsOf ops) Gs a0 w
  | [], RF, h, pre, hl, ho, hp => by
    refine ⟨RF.reverse, by rw [ho]; simp [hl], fun i o F hi hF => hp i o F (by rw [ho] at hi; simpa using hi) hF, h⟩
  | o :: os, RF, ⟨F, hF, hob, k⟩, pre, hl, ho, hp => by
    refine MDerE.all k (pre ++ [o]) (by simp [hl]) (by simp [ho]) (fun i q G hi hG => ?_)
    rw [List.reverse_cons] at hG ⊢
    rcases Nat.lt_or_ge i pre.length with hlt | hge
    · rw [List.getElem?_append_left hlt] at hi
      rw [List.getElem?_append_left (by simp; omega)] at hG
      obtain ⟨g1, g2⟩ := hp i q G hi hG
      exact ⟨g1, g2.weak⟩
    · have hi' : i = pre.length := by
        have := (List.getElem?_eq_some_iff.1 hi).1
        simp at this; omega
      subst hi'
      rw [List.getElem?_append_right (by simp; omega)] at hG
      simp [hl] at hG
      simp at hi
      subst hi; subst hG
      exact ⟨by rw [hl]; exact hF, by rw [hl]; exact hob.weak⟩
theorem InvS.putE {Gs : List VT} {listed : Array Bool} {a : Act} {w w' : World} (hok : okM a0.tmps.size 0 ops [] = true) (hg : ∀ (i : Nat) (F : VT), Gs[i]? = some F -> StE R e i F) (h : InvS ops R Φ [e] Gs w0 a0 listed a w) (hb : R.S w w')
    {i : Nat} {o : Oper} {v : Value} (hbe : i ≠ e -> Below w.heap.size w w') (hi : ops[i]? = some o) (hat : ∃ k, Upto [e] (listed.setIfInBounds i true) k ∧ Φ k w') (hed : ∀ j, hasEdge o j = true -> listed[j]? = some true) (hv : ∀ G, Gs[i]? = some G -> G w' v) : InvS ops R Φ [e] Gs w0 a0 (listed.setIfInBounds i true) (a.put o.dst v) w' := by
  obtain ⟨s1, s2⟩ := okM_spec hok
  obtain ⟨⟨d, hd, hdn, _⟩, _⟩ := s1 i o hi
  have hil : i < ops.length := (List.getElem?_eq_some_iff.1 hi).1
  have hls : i < listed.size := Nat.lt_of_lt_of_le hil h.lsize
  rw [hd]
  refine ⟨R.trans h.le hb, R.inv h.inv hb, hat, h.defers, by simp [Act.put, h.size], by simpa using h.lsize, fun t ht => ?_, fun j oj dj G hj ho hdj hG => ?_, fun j oj dj hj ho hdj => ?_, fun j oj dj hj ho hdj => ?_⟩
  · rw [getD_put, if_neg, h.old t ht]
    rintro ⟨rfl, _⟩
    exact ht (List.mem_map.2 ⟨o, List.mem_of_getElem? hi, hd⟩)
  · by_cases hji : j = i
    · subst hji
      rw [hi] at ho; cases ho
      rw [hd] at hdj; cases hdj
      rw [getD_put, if_pos ⟨rfl, by rw [h.size]; exact hdn⟩]
      exact hv G hG
    · rw [Array.getElem?_setIfInBounds_ne (fun e => hji e.symm)] at hj
      rw [getD_put, if_neg]
      · by_cases hje : j = e
        · exact ((hg j G hG).self hje).up (hbe (fun h => hji (hje.trans h.symm))) (h.done j oj dj G hj ho hdj hG)
        · exact ((hg j G hG).other hje).up h.inv hb (h.done j oj dj G hj ho hdj hG)
      · rintro ⟨rfl, _⟩
        exact hji (s2 j i oj o ho hi (hdj.trans hd.symm))
  · have tr : ∀ k : Nat, listed[k]? = some true -> (listed.setIfInBounds i true)[k]? = some true := fun k hk => by
      by_cases hki : i = k
      · subst hki; simp [hls]
      · rw [Array.getElem?_setIfInBounds_ne hki]; exact hk
    by_cases hji : j = i
    · subst hji
      rw [hi] at ho; cases ho
      exact tr _ (hed _ hdj)
    · rw [Array.getElem?_setIfInBounds_ne (fun e => hji e.symm)] at hj
      exact tr _ (h.closed j oj dj hj ho hdj)
  · by_cases hji : j = i
    · subst hji
      simp [hls] at hj
    · rw [Array.getElem?_setIfInBounds_ne (fun e => hji e.symm)] at hj
      rw [getD_put, if_neg]
      · exact h.todo j oj dj hj ho hdj
      · rintro ⟨rfl, _⟩
        exact hji (s2 j i oj o ho hi (hdj.trans hd.symm))
theorem region_SE_any {n : Nat} {Gs : List VT} (hn : n < ops.length) (hok : okM a0.tmps.size 0 (ops.take n) [] = true) (hot : okT n ops = true) (hE : okE (ops.take n) [e] = true) (hΦ : ∀ k w w', R.I w -> Below w.heap.size w w' -> Φ k w -> Φ k w') (hlen : Gs.length = (ops.take n).length)
    (hobs : ∀ (i : Nat) (o : Oper) (F : VT), (ops.take n)[i]? = some o -> Gs[i]? = some F -> StE R e i F ∧ ObX P (ops.take n) R Φ [e] w0 a0 Gs i o F)
    (hend : ∀ w, R.S w0 w -> R.I w -> Φ ([e] : List Nat).length w -> EndM (fun _ a w => wpList P ops.toArray Q (ops.drop n) a w) (dstsOf (ops.take n)) Gs a0 w) :
    ∀ (fuel : Nat) (listed : Array Bool) (a : Act) (w : World), InvS (ops.take n) R Φ [e] Gs w0 a0 listed a w -> listed.size = ops.length -> (∀ j, n <= j -> j < ops.length -> listed[j]? = some false) -> unlisted listed = fuel -> wpAny P .any ops.toArray Q fuel listed a w := by
  obtain ⟨s1, s2⟩ := okM_spec hok
  have htl : (ops.take n).length = n := by rw [List.length_take]; omega
  have bodyAt : ∀ j o, j < n -> (ops[j]? = some o ↔ (ops.take n)[j]? = some o) := fun j o hj => by rw [List.getElem?_take, if_pos hj]
  intro fuel
  induction fuel with
  | zero =>
    intro listed a w h hs hf hu
    exfalso
    have h1 := hf n (Nat.le_refl _) hn
    have : 0 < unlisted listed := by
      unfold unlisted
      rw [List.countP_pos_iff]
      refine ⟨false, ?_, rfl⟩
      rw [<- Array.getElem?_toList] at h1
      exact List.mem_of_getElem? h1
    omega
  | succ fuel ih =>
    intro listed a w h hs hf hu
    -- whether the body has all come up
    by_cases hall : ∀ j, j < n -> listed[j]? = some true
    · -- the tail
      have hEnd : Φ ([e] : List Nat).length w := by
        obtain ⟨k, hu, hk⟩ := h.at_
        have : k = ([e] : List Nat).length := by
          rcases Nat.lt_or_ge k ([e] : List Nat).length with h1 | h1
          · have := (hu.2 k ([e] : List Nat)[k] (List.getElem?_eq_getElem h1)).1 (hall _ (by have := okE_in hE (List.getElem_mem h1); omega))
            omega
          · have := hu.1; omega
        rw [<- this]; exact hk
      have hQ : wpList P ops.toArray Q (ops.drop n) a w := by
        refine endM_of (Q := fun _ a w => wpList P ops.toArray Q (ops.drop n) a w) (ops.take n) Gs a0 (fun j o d F h1 h2 h3 => h.done j o d F (hall j (by have := (List.getElem?_eq_some_iff.1 h1).1; omega)) h1 h2 h3) hlen.symm (fun o ho => ?_) h.defers.symm h.size.symm (fun t ht => (h.old t ht).symm) (hend w h.le h.inv hEnd)
        obtain ⟨j, hj⟩ := List.getElem?_of_mem ho
        obtain ⟨⟨d, hd, _⟩, _⟩ := s1 j o hj
        rw [hd]; simp
      have hcount : unlisted listed = (ops.drop n).length := by
        unfold unlisted
        have e : listed.toList = List.replicate n true ++ List.replicate (ops.length - n) false := by
          refine List.ext_getElem? fun j => ?_
          rw [List.getElem?_append, List.length_replicate, List.getElem?_replicate, List.getElem?_replicate, Array.getElem?_toList]
          by_cases hj : j < n
          · rw [if_pos hj, if_pos hj]; exact hall j hj
          · rw [if_neg hj]
            by_cases hj2 : j < ops.length
            · rw [if_pos (by omega)]; exact hf j (by omega) hj2
            · rw [if_neg (by omega)]; exact Array.getElem?_eq_none (by omega)
        rw [e]; simp [List.countP_append, List.countP_replicate]
      rw [<- hu, hcount]
      exact tail_any hot (ops.drop n) n listed a w (Nat.le_refl _) rfl hs (fun j hj _ => hall j hj) hf hQ
    · -- the body
      have hex : ∃ j, j < n ∧ listed[j]? = some false := by
        refine Classical.byContradiction fun hne => hall fun j hj => ?_
        have hjs : j < listed.size := by omega
        cases hb : listed[j] with
        | true => rw [Array.getElem?_eq_getElem hjs, hb]
        | false => exact absurd ⟨j, hj, by rw [Array.getElem?_eq_getElem hjs, hb]⟩ hne
      have hnr : Region.ready .any ops.toArray listed ≠ [] := by
        obtain ⟨j0, hj0, hjf⟩ := hex
        have key : ∀ j, j < n -> listed[j]? = some false -> Region.ready .any ops.toArray listed ≠ [] := by
          intro j
          induction j using Nat.strongRecOn with
          | _ j ihj =>
            intro hj hjf hr
            have hjo : ops[j]? = some ops[j] := List.getElem?_eq_getElem (by omega)
            have : j ∈ Region.ready .any ops.toArray listed := mem_ready.2 ⟨by simp [Array.getD_eq_getD_getElem?, hjf], ops[j], by simp, fun e he _ => by
              have hlt := (okT_spec hot hjo).1 e he
              have hes : e.on < listed.size := by omega
              cases hb : listed[e.on] with
              | true => simp [Array.getD_eq_getD_getElem?, hes, hb]
              | false => exact absurd hr (ihj e.on hlt (by omega) (by rw [Array.getElem?_eq_getElem hes, hb]))⟩
            rw [hr] at this; cases this
        exact key j0 hj0 hjf
      refine ⟨fun h0 => absurd h0 hnr, fun i hi => ?_⟩
      obtain ⟨h0, o, ho, hed⟩ := mem_ready.1 hi
      have ho' : ops[i]? = some o := by simpa using ho
      have hil : i < ops.length := (List.getElem?_eq_some_iff.1 ho').1
      have edgeF : ∀ (o : Oper), ops[i]? = some o -> ∀ j, hasEdge o j = true -> listed[j]? = some true := fun q hq j he => by
        have hqo : q = o := by rw [hq] at ho'; simpa using ho'
        subst hqo
        unfold hasEdge at he
        rw [List.any_eq_true] at he
        obtain ⟨e, hm, he⟩ := he
        simp only [Bool.and_eq_true, beq_iff_eq] at he
        have h1 := hed e (by simpa using hm) he.2
        have h2 := (okT_spec hot hq).1 e (by simpa using hm)
        rw [he.1] at h1 h2
        have hj2 : j < listed.size := by omega
        rw [Array.getElem?_eq_getElem hj2]
        simpa [Array.getD_eq_getD_getElem?, hj2] using h1
      have hin : i < n := by
        rcases Nat.lt_or_ge i n with h1 | h1
        · exact h1
        · exfalso
          rcases Nat.eq_or_lt_of_le h1 with h2 | h2
          · -- the first of the tail: then all of the body has come up
            subst h2
            have chain : ∀ d j, n - j = d -> j < n -> listed[j]? = some true := by
              intro d
              induction d using Nat.strongRecOn with
              | _ d ihd =>
                intro j hd hj
                have hjo : ops[j]? = some ops[j] := List.getElem?_eq_getElem (by omega)
                obtain ⟨k, q, hk1, hk2, hk3, hk4⟩ := (okT_spec hot hjo).2.2.1 hj
                rcases Nat.eq_or_lt_of_le hk2 with h3 | h3
                · subst h3; exact edgeF q hk3 j hk4
                · exact h.closed k q j (ihd (n - k) (by omega) k rfl h3) ((bodyAt k q h3).1 hk3) hk4
            exact hall fun j hj => chain (n - j) j rfl hj
          · have he := (okT_spec hot ho').2.2.2 h2
            have := edgeF o ho' (i - 1) he
            have h5 := hf (i - 1) (by omega) (by omega)
            rw [this] at h5; cases h5
      have hob' : (ops.take n)[i]? = some o := (bodyAt i o hin).1 ho'
      have hjl : i < listed.size := by omega
      have hfi : listed[i]? = some false := by
        rw [Array.getElem?_eq_getElem hjl]
        simpa [Array.getD_eq_getD_getElem?, hjl] using h0
      have hGi : i < Gs.length := by omega
      obtain ⟨hgr, hob⟩ := hobs i o Gs[i] hob' (List.getElem?_eq_getElem hGi)
      have hg : ∀ (j : Nat) (F : VT), Gs[j]? = some F -> StE R e j F := fun j F hj => by
        have hjo : j < (ops.take n).length := by rw [<- hlen]; exact (List.getElem?_eq_some_iff.1 hj).1
        exact (hobs j (ops.take n)[j] F (List.getElem?_eq_getElem hjo) hj).1
      have edge := edgeF o ho'
      have cx : Cx (ops.take n) Gs w a0 i o a w := ⟨Below.refl _ _, h.defers, h.size, h.old, fun j oj d G he h1 h2 h3 => h.done j oj d G (edge j he) h1 h2 h3, fun j oj d h1 he h2 => by
        refine h.todo j oj d ?_ h1 h2
        have hj3 : j < (ops.take n).length := (List.getElem?_eq_some_iff.1 h1).1
        have hj2 : j < listed.size := by omega
        cases hb : listed[j] with
        | false => rw [Array.getElem?_eq_getElem hj2, hb]
        | true =>
          exfalso
          have := h.closed j oj i (by rw [Array.getElem?_eq_getElem hj2, hb]) h1 he
          rw [hfi] at this; cases this⟩
      obtain ⟨k, hup, hk⟩ := h.at_
      have step : ∀ {w' : World} {v : Value}, R.S w w' -> (i ≠ e -> Below w.heap.size w w') -> (∃ k, Upto [e] (listed.setIfInBounds i true) k ∧ Φ k w') -> Gs[i] w' v -> wpAny P .any ops.toArray Q fuel (listed.setIfInBounds i true) (a.put o.dst v) w' := fun hb hbe hat hv =>
        ih _ _ _ (h.putE hok hg hb hbe hob' hat edge fun G hG => by rw [List.getElem?_eq_getElem hGi] at hG; cases hG; exact hv) (by simp [hs]) (fun j hj hjl2 => by rw [Array.getElem?_setIfInBounds_ne (by omega)]; exact hf j hj hjl2) (by have := unlisted_set hfi; omega)
      unfold wpOp
      simp only [ho]
      cases hx : ([e] : List Nat).idxOf? i with
      | none =>
        have hob2 := hob.1 hx w h.le h.inv a w cx
        rw [wanted_take hin (okT_spec hot ho').2.1] at hob2
        split
        · rename_i hw
          rw [if_pos hw] at hob2
          refine .inl (Oper.wp_noQ (Oper.wp_mono (fun a' w' h' => ?_) hob2))
          obtain ⟨v, rfl, hb, hv⟩ := h'
          exact step (R.below h.inv hb) (fun _ => hb) ⟨k, hup.free hx, hΦ k _ _ h.inv hb hk⟩ hv
        · rename_i hw
          rw [if_neg hw] at hob2
          exact step (R.refl h.inv) (fun _ => Below.refl _ _) ⟨k, hup.free hx, hk⟩ hob2
      | some j =>
        have hjk := upto_at hE hup hfi hob' hx h.closed edge
        subst hjk
        have hEj : ([e] : List Nat)[j]? = some i := by
          have := List.of_findIdx?_eq_some (p := (· == i)) (xs := [e]) (i := j) (by simpa [List.idxOf?] using hx)
          cases h : ([e] : List Nat)[j]? with
          | none => rw [h] at this; simp at this
          | some x => rw [h] at this; simp at this; rw [this]
        have hie : i = e := by
          have := List.mem_of_getElem? hEj
          simpa using this
        have hob2 := hob.2 j hx w h.le h.inv hk a cx
        rw [wanted_take hin (okT_spec hot ho').2.1] at hob2
        split
        · rename_i hw
          rw [if_pos hw] at hob2
          refine .inl (Oper.wp_noQ (Oper.wp_mono (fun a' w' h' => ?_) hob2))
          obtain ⟨v, rfl, hb, hp, hv⟩ := h'
          exact step hb (fun hne => absurd hie hne) ⟨j + 1, hup.next hE hjl hEj, hp⟩ hv
        · rename_i hw
          rw [if_neg hw] at hob2
          exact step (R.refl h.inv) (fun _ => Below.refl _ _) ⟨j + 1, hup.next hE hjl hEj, hob2.1⟩ hob2.2
theorem wp_region_ME {id : Nat} (n : Nat) (e : Nat) (Φ : Nat -> World -> Prop) (hm : P.follows .mixedOrders = true) (hok : okM a0.tmps.size 0 (ops.take n) [] = true) (hot : (decide (n < ops.length) && okT n ops) = true) (hE : okE (ops.take n) [e] = true) (hΦ : ∀ k w w', R.I w -> Below w.heap.size w w' -> Φ k w -> Φ k w') (hI : R.I w0) (h0 : Φ 0 w0)
    (h : MDerE P (ops.take n) R Φ e w0 a0 (fun _ a w => wpList P ops.toArray Q (ops.drop n) a w) (ops.take n) []) : (Code.region id ops.toArray true).wp P Q a0 w0 := by
  rw [Bool.and_eq_true, decide_eq_true_iff] at hot
  obtain ⟨Gs, h1, h2, h3⟩ := MDerE.all h [] rfl (by simp) (fun i o F hi => by simp at hi)
  refine wp_region_any hm ?_
  have hd : Below w0.heap.size w0 { w0 with drawn := w0.drawn + 1 } := (Below.refl _ w0).drew
  have hu : unlisted (Array.replicate ops.length false) = ops.length := by simp [unlisted, List.countP_replicate]
  have := region_SE_any (Q := Q) hot.1 hok hot.2 hE hΦ h1 h2 h3 ops.length (Array.replicate ops.length false) a0 { w0 with drawn := w0.drawn + 1 }
    ⟨R.below hI hd, R.inv hI (R.below hI hd), ⟨0, ⟨Nat.zero_le _, fun j e hj => by
      have hel := okE_in hE (List.mem_of_getElem? hj)
      rw [List.length_take] at hel
      have : e < ops.length := by omega
      simp [this]⟩, hΦ 0 _ _ hI hd h0⟩, rfl, rfl, by simp [List.length_take]; omega, fun _ _ => rfl, fun j oj d G hj => by simp [Array.getElem?_replicate] at hj, fun j oj i hj => by simp [Array.getElem?_replicate] at hj, fun j oj d _ _ _ => rfl⟩ (by simp) (fun j _ hj => by simp [hj]) hu
  simpa using this
end
end Go.Proofs.YtphhhnjeojdnkaaGreatDoor

/-
  Appends onto a row of one's own in a region whose order is open.
-/
namespace Go.Proofs.YtphhhnjeojdnkaaGreatDoor
open Go.RowKit
section
variable {α : Type} {e : Enc α} {ty : TypeId} {w w' : World} {A : Option Addr} {n c : Nat} {l : List α} {r : Option Nat}
theorem Sl.grownR (h : Sl e w A n c l) (hg : w.grownBy w' r) (hne : ∀ a, A = some a -> some a.block ≠ r) : Sl e w' A n c l :=
  ⟨h.len, h.cap, h.max, h.nil, fun i x hi => by
    obtain ⟨b, o, rfl, hlt, hc⟩ := h.cell i x hi
    exact ⟨b, o, rfl, Nat.lt_of_lt_of_le hlt hg.size, fun j u hj => hg.cell (hc j u hj) (show some b ≠ r from hne ⟨b, o, none⟩ rfl)⟩⟩
def IsFree (e : Enc α) (r : Option Nat) (l : List α) : VT := fun w v => ∃ A n c, v = .slice A n c ∧ Sl e w A n c l ∧ ∀ a, A = some a -> a.block < w.heap.size ∧ some a.block ≠ r
end
def rowR (r : Option Nat) : Steps where
  I w := ∀ q, r = some q -> q < w.heap.size
  S w w' := w.grownBy w' r
  refl := fun _ => ⟨rfl, rfl, rfl, Nat.le_refl _, fun _ _ _ => rfl⟩
  trans := fun h k => ⟨k.os.trans h.os, k.tape.trans h.tape, k.output.trans h.output, Nat.le_trans h.size k.size, fun i hi hr => (k.block i (Nat.lt_of_lt_of_le hi h.size) hr).trans (h.block i hi hr)⟩
  inv := fun hI hS q hq => Nat.lt_of_lt_of_le (hI q hq) hS.size
  below := fun _ hb => ⟨hb.os, hb.tape, hb.output, hb.size, fun i hi _ => hb.block i hi⟩
instance {α : Type} (e : Enc α) (r : Option Nat) (l : List α) : Stays (rowR r) (IsFree e r l) := ⟨fun _ hS ⟨A, n, c, h1, h2, h3⟩ => ⟨A, n, c, h1, h2.grownR hS fun a ha => (h3 a ha).2, fun a ha => ⟨Nat.lt_of_lt_of_le (h3 a ha).1 hS.size, (h3 a ha).2⟩⟩⟩
theorem free_own {α : Type} {e : Enc α} {ty : TypeId} {w w' : World} {v : Value} {l : List α} {r : Option Nat} (h : OwnSl e ty w' w.heap.size v l) (hr : ∀ q, r = some q -> q < w.heap.size) : IsFree e r l w' v := by
  obtain ⟨A, c, rfl, hs⟩ := OwnSl.sl h
  refine ⟨A, _, c, rfl, hs, fun a ha => ?_⟩
  subst ha
  have := OwnSl.own h a.block rfl
  exact ⟨this.2, fun hq => by have := hr a.block hq.symm; omega⟩
theorem ret_free {f : FuncId} {args : Array Value} {ty : TypeId} {w : World} {α : Type} {e : Enc α} {l : List α} {r : Option Nat} (h : Calls Tryz.prog f args w (Ret w (IsOwn e ty w.heap.size l))) (hr : ∀ q, r = some q -> q < w.heap.size) : Calls Tryz.prog f args w (Ret w (IsFree e r l)) :=
  h.mono fun _ _ ⟨v, h1, h2, h3⟩ => ⟨v, h1, h2, free_own h3 hr⟩
section
variable {P : Program} {ops : List Oper} {Fs : List VT} {w0 : World} {a0 : Act} {i : Nat} {d : Option Tmp} {rt : TypeId} {pos : String} {after : Array Edge} {g : Option (Nat × Bool)}
theorem ObS.appS {α : Type} {e : Enc α} {ty t : TypeId} {bytes B : Nat} {x y : Operand} {v : Value} {l k : List α} (hw : Wanted ops Fs w0 a0 i ⟨d, .call ⟨.builtin .append, #[x, y], #[t, t]⟩, rt, pos, after, g⟩) (hx : Has ops Fs w0 a0 i ⟨d, .call ⟨.builtin .append, #[x, y], #[t, t]⟩, rt, pos, after, g⟩ x (Is v))
    (hy : Has ops Fs w0 a0 i ⟨d, .call ⟨.builtin .append, #[x, y], #[t, t]⟩, rt, pos, after, g⟩ y (IsFree e v.ownBlock k)) (inf : Inf P ty e bytes) (ht : P.underlying t = some (.slice ty)) (ho : OwnSl e ty w0 B v l) (hs : l.length + k.length <= 1000000000) (hB : B <= w0.heap.size) :
    ObS P ops (rowR v.ownBlock) (fun _ => True) Fs w0 a0 i ⟨d, .call ⟨.builtin .append, #[x, y], #[t, t]⟩, rt, pos, after, g⟩ (IsOwn e ty B (l ++ k)) := fun a cx => by
  rw [if_pos (hw a w0 cx)]
  obtain ⟨A, n, c, e1, hk, _⟩ := hy a w0 cx
  have e2 : a.eval x = v := hx a w0 cx
  obtain ⟨v', w', hr, h2, h3, h4⟩ := run_appS (rt := rt) inf ht ho hk hs hB
  unfold Oper.wp
  have : (execOp a.eval ⟨d, .call ⟨.builtin .append, #[x, y], #[t, t]⟩, rt, pos, after, g⟩).run P w0 = .ok (.value v') w' := by
    generalize a.eval = ρ at e1 e2
    simp [execOp, resolve, invoke, builtin, e1, e2, hr, Result.andThen]
  rw [this]
  exact ⟨v', rfl, h3, trivial, h2⟩
end
end Go.Proofs.YtphhhnjeojdnkaaGreatDoor

/-
  ref14.dots.
-/
namespace Go.Proofs.YtphhhnjeojdnkaaGreatDoor
open Go.RowKit
def phiO (B : Nat) (v : Value) (L : List UInt8) : Nat -> World -> Prop
  | 0, w => OwnB w B v L
  | _ + 1, _ => True
theorem phiO_mono {r : Option Nat} {B : Nat} {v : Value} {L : List UInt8} : ∀ k w w', (rowR r).I w -> Below w.heap.size w w' -> phiO B v L k w -> phiO B v L k w'
  | 0, _, _, _, hb, h => OwnSl.mono h hb
  | _ + 1, _, _, _, _, _ => trivial
theorem enters56 : Enters Tryz.prog 56 := enters_of Tryz.func56 (by kernel_rfl) rfl
theorem conv_u64n {w : World} {x : Nat} (h : x < 18446744073709551616) : (convert 3 98 (.int .i64 (x : Int))).run Tryz.prog w = .ok (.int .u64 (x : Int)) w := by
  have := wrap_u64 h
  simp [go_sem, this]
section
variable {P : Program} {ops : List Oper} {Fs : List VT} {w0 : World} {a0 : Act} {i : Nat} {d : Option Tmp} {ty : TypeId} {pos : String} {after : Array Edge} {g : Option (Nat × Bool)}
theorem Ob.convV {x : Operand} {u r : Value} {s t : TypeId} (hw : Wanted ops Fs w0 a0 i ⟨d, .convert s t x, ty, pos, after, g⟩) (hx : Has ops Fs w0 a0 i ⟨d, .convert s t x, ty, pos, after, g⟩ x (Is u))
    (h : ∀ w, (Go.convert s t u).run P w = .ok r w) : Ob P ops Fs w0 a0 i ⟨d, .convert s t x, ty, pos, after, g⟩ (Is r) :=
  Ob.stay hw fun a w cx => ⟨r, by
    have h1 : a.eval x = u := hx a w cx
    generalize a.eval = ρ at h1
    simp [execOp, h1, h w], rfl⟩
end
def RDotsRel (w : World) (l : List Dot) (n : Nat) (v i : Value) (wr : World) : Prop :=
  ∃ (k : Nat) (u : Value), i = .int .i64 k ∧ u = v ∧ k <= n ∧ Below w.heap.size w wr ∧ OwnB wr w.heap.size u (numB n ++ (l.take k).flatMap dotB)
theorem rdots (A : Option Addr) (n c : Nat) (l : List Dot) (w : World) (hd : Dots w A n c l) (hl : ∀ d ∈ l, validD d = true) (hn : n <= 1000) :
    Calls Tryz.prog 116 #[.slice A n c] w (Ret w (IsOwnB w.heap.size (dotsB l))) := by
  have C := Lib.hid (rnumber_ n (by omega) w)
  have HD := Lib.hid hd; have HL := Lib.hid hl; have HN := Lib.hid hd.len
  clear hd hl
  go_enter Tryz.func116, Tryz.ntmps116
  go_wp2_with fail
  refine C.out.mono ?_
  clear C
  rintro _ w1 ⟨v1, rfl, hb1, ho1⟩
  have B1 := Lib.hid hb1; have O1 := Lib.hid ho1
  clear hb1 ho1
  go_wp2
  go_loopw [3, 4] (fun v i wr => RDotsRel w l n v i wr) (fun _ i _ => n - (intOf i).toNat)
  case atStart => exact ⟨0, _, rfl, rfl, by omega, B1.out, by simp only [List.take_zero, List.flatMap_nil, List.append_nil]; exact O1.out⟩
  case round =>
    obtain ⟨k, v, rfl, rfl, hk, hb2, ho2⟩ := hrel
    by_cases hlt : k < n
    · obtain ⟨b, o, x, y, rfl, hbs, d1, d2, c1, c2⟩ := HD.out.at_ hlt
      have D1 := Lib.hid d1
      obtain ⟨h1, h2, h3, h4⟩ := validD_iff.1 (HL.out (x, y) (List.mem_of_getElem? d1))
      obtain ⟨x', rfl⟩ := Int.eq_ofNat_of_zero_le (show 0 <= x by omega)
      obtain ⟨y', rfl⟩ := Int.eq_ofNat_of_zero_le (show 0 <= y by omega)
      have hx' : x' <= 65535 := by simp at h2; omega
      have hy' : y' <= 4294967295 := by simp at h4; omega
      have U := Lib.hid hx'; have Y := Lib.hid hy'
      have C1 := Lib.hid (cellKeep hb2 c1); have C2 := Lib.hid (cellKeep hb2 c2)
      have HI := Lib.hid (show (rowR v.ownBlock).I wr from fun q hq => (OwnSl.own ho2 q hq).2)
      have HNE := Lib.hid (show some b ≠ v.ownBlock from fun hq => by have := (OwnSl.own ho2 b hq.symm).1; omega)
      obtain ⟨L, hL⟩ : ∃ L, L = numB n ++ (l.take k).flatMap dotB := ⟨_, rfl⟩
      rw [<- hL] at ho2
      have LL := Lib.hid (show L.length <= 100000 by
        rw [hL, List.length_append]
        have t1 := flat_len (l := l.take k) (fun d hd => HL.out d (List.mem_of_mem_take hd))
        have t2 := numB_ten (n := n) (by omega)
        have t4 : (l.take k).length <= n := by rw [List.length_take]; omega
        omega)
      have B2 := Lib.hid hb2; have O2 := Lib.hid ho2; have EL := Lib.hid hL; have KN := Lib.hid hlt
      clear h1 h2 h3 h4 d1 d2 c1 c2 hb2 ho2 hL hx' hy' hbs
      have hlt := KN.out
      go_wp2_with fail
      refine wp_region_ME (R := (rowR v.ownBlock)) 16 8 ((phiO w.heap.size v L)) mixed (by kernel_rfl) (by kernel_rfl) (by kernel_rfl) ?_ ?_ ?_ ?_
      · exact phiO_mono
      · exact HI.out
      · exact O2.out
      refine MDerE.step (by kernel_rfl) (fun wS hS hI => Ob.move Wanted.free Has.oldIs) ?_
      refine MDerE.step (by kernel_rfl) (fun wS hS hI => Ob.move Wanted.free Has.oldIs) ?_
      refine MDerE.step (by kernel_rfl) (fun wS hS hI => Ob.move Wanted.free Has.oldIs) ?_
      refine MDerE.step (by kernel_rfl) (fun wS hS hI => Ob.indexV Wanted.free (Has.new 1 1) (Has.new 2 0) (fun w1 => index_dots KN.out)) ?_
      refine MDerE.step (by kernel_rfl) (fun wS hS hI => Ob.fieldV Wanted.free (Has.new 3 0) (fun w1 => field_dot0)) ?_
      refine MDerE.step (by kernel_rfl) (fun wS hS hI => Ob.loadV Wanted.free (Has.new 4 0) (fun w1 hb1 => load_int hb1 (hS.cell C1.out HNE.out))) ?_
      refine MDerE.step (by kernel_rfl) (fun wS hS hI => Ob.convV Wanted.free (Has.new 5 0) (fun w1 => conv_u64n (by have := U.out; omega))) ?_
      refine MDerE.step (by kernel_rfl) (fun wS hS hI => Ob.call1V Wanted.free enters56 (Has.new 6 0) (fun w1 hb1 => ret_free (r := v.ownBlock) (rnumber_ x' (by have := U.out; omega) w1) (fun q hq => Nat.lt_of_lt_of_le (hI q hq) hb1.size))) ?_
      refine MDerE.write (by kernel_rfl) (fun wS hS hI hP => ObS.appS Wanted.free (Has.new 0 7) (Has.new 7 0) infB Tryz.underlying22 hP (by have := LL.out; have := numB_ten (n := x') (by have := U.out; omega); omega) (by have := B2.out.size; have := hS.size; omega)) ?_
      refine MDerE.step (by kernel_rfl) (fun wS hS hI => Ob.move Wanted.free Has.oldIs) ?_
      refine MDerE.step (by kernel_rfl) (fun wS hS hI => Ob.move Wanted.free Has.oldIs) ?_
      refine MDerE.step (by kernel_rfl) (fun wS hS hI => Ob.indexV Wanted.free (Has.new 9 1) (Has.new 10 0) (fun w1 => index_dots KN.out)) ?_
      refine MDerE.step (by kernel_rfl) (fun wS hS hI => Ob.fieldV Wanted.free (Has.new 11 0) (fun w1 => field_dot1)) ?_
      refine MDerE.step (by kernel_rfl) (fun wS hS hI => Ob.loadV Wanted.free (Has.new 12 0) (fun w1 hb1 => load_int hb1 (hS.cell C2.out HNE.out))) ?_
      refine MDerE.step (by kernel_rfl) (fun wS hS hI => Ob.convV Wanted.free (Has.new 13 0) (fun w1 => conv_u64n (by have := Y.out; omega))) ?_
      refine MDerE.step (by kernel_rfl) (fun wS hS hI => Ob.call1V Wanted.free enters56 (Has.new 14 0) (fun w1 hb1 => ret_free (r := v.ownBlock) (rnumber_ y' (by have := Y.out; omega) w1) (fun q hq => Nat.lt_of_lt_of_le (hI q hq) hb1.size))) ?_
      intro wE hE hIE hPE
      change EndM _ [some 15, some 16, some 17, some 18, some 19, some 20, some 21, some 22, some 23, some 24, some 25, some 26, some 27, some 28, some 29, some 30] _ _ _
      simp only [EndM, List.reverse_cons, List.reverse_nil, List.nil_append, List.cons_append]
      iterate 7 (rintro _ rfl)
      rintro _ _h7
      rintro _ h8
      iterate 6 (rintro _ rfl)
      rintro _ ⟨A15, n15, c15, rfl, s15, _⟩
      simp only [Act.put, List.setIfInBounds_toArray, List.set_cons_zero, List.set_cons_succ]
      rename_i v u7 u8 hr15
      have hsz := hE.size
      have hBr := B2.out.size
      have BE : Below w.heap.size w wE := B2.out.grown hE hBr (fun q hq => (OwnSl.own O2.out q hq).1)
      refine wpList_appS (B := w.heap.size) (v := u8) (l := L ++ numB x') infB rfl rfl Tryz.underlying22 rfl rfl h8 s15 (by rw [List.length_append]; have := LL.out; have := numB_ten (n := x') (by have := U.out; omega); have := numB_ten (n := y') (by have := Y.out; omega); omega) BE.size ?_
      intro v9 w9 ho9 hg9 _
      have B9 := Lib.hid (BE.grown hg9 BE.size (fun q hq => (OwnSl.own h8 q hq).1))
      have O9 := Lib.hid ho9
      clear hE hIE hPE _h7 h8 s15 hr15 hsz hBr BE ho9 hg9
      simp only [Act.put, List.setIfInBounds_toArray, List.set_cons_zero, List.set_cons_succ]
      refine wpList_assign (v := v9) rfl rfl rfl ?_
      refine wpList_nil ?_
      simp only [Act.put, List.setIfInBounds_toArray, List.set_cons_zero, List.set_cons_succ]
      go_wp2
      go_roundw
      case rel =>
        refine ⟨k + 1, v9, by simp, rfl, KN.out, B9.out, ?_⟩
        have := O9.out
        have e : l.take (k + 1) = l.take k ++ [((x' : Int), (y' : Int))] := by rw [List.take_add_one, D1.out]; rfl
        rw [e, List.flatMap_append, <- List.append_assoc, <- EL.out]
        simpa [dotB, List.append_assoc] using this
      case measure => simp [intOf]; omega
    · have hk2 : k = n := by omega
      subst hk2
      have B2 := Lib.hid hb2; have O2 := Lib.hid (show OwnB _ w.heap.size v (dotsB l) by
        rw [List.take_of_length_le (by have := HN.out; omega)] at ho2
        unfold dotsB; rw [<- HN.out]; exact ho2)
      clear hb2 ho2
      go_wp2
      go_ret
      exact ⟨_, rfl, B2.out, O2.out⟩
end Go.Proofs.YtphhhnjeojdnkaaGreatDoor

/-
  ref14.Context.
-/
namespace Go.Proofs.YtphhhnjeojdnkaaGreatDoor
open Go.RowKit
theorem enters116 : Enters Tryz.prog 116 := enters_of Tryz.func116 (by kernel_rfl) rfl
theorem ret_low {f : FuncId} {args : Array Value} {ty : TypeId} {w : World} {α : Type} {e : Enc α} {l : List α} {B : Nat} (h : Calls Tryz.prog f args w (Ret w (IsOwn e ty w.heap.size l))) (hB : B <= w.heap.size) : Calls Tryz.prog f args w (Ret w (IsOwn e ty B l)) :=
  h.mono fun _ _ ⟨v, h1, h2, h3⟩ => ⟨v, h1, h2, OwnSl.low h3 hB⟩
section
variable {w0 w : World} {N o : Nat} {A : Option Addr} {n c : Nat}
theorem field_x0 : (Instr.fieldAt 60 (.pointer (some ⟨N, o, none⟩)) 0).run Tryz.prog w = .ok (.pointer (some ⟨N, o, none⟩)) w := by simp [go_sem]
theorem field_x1 : (Instr.fieldAt 60 (.pointer (some ⟨N, o, none⟩)) 1).run Tryz.prog w = .ok (.pointer (some ⟨N, o + 1, none⟩)) w := by simp [go_sem]
theorem load_sl58 (hb : Below w0.heap.size w0 w) (h0 : w0.cell? ⟨N, o, none⟩ = some (.slice A n c)) : (Instr.loadAt 58 (.pointer (some ⟨N, o, none⟩))).run Tryz.prog w = .ok (.slice A n c) w := by
  have c1 := cellKeep hb h0
  simp [go_sem, c1]
theorem load_sl57 (hb : Below w0.heap.size w0 w) (h0 : w0.cell? ⟨N, o, none⟩ = some (.slice A n c)) : (Instr.loadAt 57 (.pointer (some ⟨N, o, none⟩))).run Tryz.prog w = .ok (.slice A n c) w := by
  have c1 := cellKeep hb h0
  simp [go_sem, c1]
end
theorem rcontext {A B : Option Addr} {n m ca cb : Nat} {c : Ctx} {w : World} (h : Con w A n ca B m cb c) (v1 : ∀ d ∈ c.1, validD d = true) (v2 : ∀ d ∈ c.2, validD d = true) (hn : n <= 1000) (hm : m <= 1000) :
    Calls Tryz.prog 86 #[.agg #[.slice A n ca, .slice B m cb]] w (Ret w (IsOwnB w.heap.size (ctxB c))) := by
  obtain ⟨N, hN⟩ : ∃ N, N = w.heap.size := ⟨_, rfl⟩
  have hx : Below w.heap.size w (w.alloc (.cells #[.slice A n ca, .slice B m cb] 60)) := by go_grown
  have Y0 := Lib.hid (show (w.alloc (.cells #[.slice A n ca, .slice B m cb] 60)).cell? ⟨N, 0, none⟩ = some (.slice A n ca) by rw [hN]; simp [go_sem])
  have Y1 := Lib.hid (show (w.alloc (.cells #[.slice A n ca, .slice B m cb] 60)).cell? ⟨N, 0 + 1, none⟩ = some (.slice B m cb) by rw [hN]; simp [go_sem])
  have H := Lib.hid (h.mono hx); have BX := Lib.hid hx; have V1 := Lib.hid v1; have V2 := Lib.hid v2; have HN := Lib.hid hn; have HM := Lib.hid hm
  have EN : Hid (w.heap.size = N) := Lib.hid hN.symm
  clear h hx v1 v2 hn hm hN
  go_enter Tryz.func86, Tryz.ntmps86
  go_wp2_with fail
  rw [EN.out]
  have hB := Lib.hid (show N <= (w.alloc (.cells #[.slice A n ca, .slice B m cb] 60)).heap.size by have := BX.out.size; have := EN.out; omega)
  have BX2 : Hid (Below N w (w.alloc (.cells #[.slice A n ca, .slice B m cb] 60))) := Lib.hid (by rw [<- EN.out]; exact BX.out)
  generalize w.alloc (.cells #[.slice A n ca, .slice B m cb] 60) = W at *
  refine wp_region_MT 6 mixed (by kernel_rfl) (by kernel_rfl) ?_
  refine MDerT.step (Ob.fieldV Wanted.free Has.oldIs (fun w1 => field_x0)) ?_
  refine MDerT.step (Ob.loadV Wanted.free (Has.new 0 0) (fun w1 hb1 => load_sl58 hb1 Y0.out)) ?_
  refine MDerT.step (Ob.call1V Wanted.free enters116 (Has.new 1 0) (fun w1 hb1 => ret_low (B := N) (rdots A n ca c.1 w1 (H.out.v.mono hb1) V1.out HN.out) (Nat.le_trans hB.out hb1.size))) ?_
  refine MDerT.step (Ob.fieldV Wanted.free Has.oldIs (fun w1 => field_x1)) ?_
  refine MDerT.step (Ob.loadV Wanted.free (Has.new 3 0) (fun w1 hb1 => load_sl57 hb1 Y1.out)) ?_
  refine MDerT.step (Ob.call1V Wanted.free enters116 (Has.new 4 0) (fun w1 hb1 => ret_low (B := N) (rdots B m cb c.2 w1 (H.out.k.mono hb1) V2.out HM.out) (Nat.le_trans hB.out hb1.size))) ?_
  simp only [MDerT, dstsOf, List.map, EndM, List.reverse_cons, List.reverse_nil, List.nil_append, List.cons_append, List.take_succ_cons, List.take_zero, List.drop_succ_cons, List.drop_zero]
  intro wE hE
  iterate 2 (rintro _ rfl)
  rintro _ h2
  iterate 2 (rintro _ rfl)
  rintro _ h5
  simp only [Act.put, List.setIfInBounds_toArray, List.set_cons_zero, List.set_cons_succ]
  rename_i u2 u5
  obtain ⟨A5, c5, rfl, s5⟩ := OwnSl.sl h5
  have BE : Below N w wE := BX2.out.trans (hE.mono hB.out)
  have t1 := dotsB_len V1.out (by have := H.out.v.len; have := HN.out; omega)
  have t2 := dotsB_len V2.out (by have := H.out.k.len; have := HM.out; omega)
  have hNE : N <= wE.heap.size := Nat.le_trans hB.out hE.size
  refine wpList_appS (B := N) (v := u2) (l := dotsB c.1) infB rfl rfl Tryz.underlying22 rfl rfl h2 s5 (by have := H.out.v.len; have := H.out.k.len; have := HN.out; have := HM.out; omega) hNE ?_
  intro v9 w9 ho9 hg9 _
  have B9 := Lib.hid (show Below w.heap.size w w9 by rw [EN.out]; exact BE.grown hg9 hNE (fun q hq => (OwnSl.own h2 q hq).1))
  have O9 := Lib.hid (show OwnB w9 w.heap.size v9 (ctxB c) by rw [EN.out]; exact ho9)
  clear hE h2 h5 s5 BE t1 t2 hNE ho9 hg9
  simp only [Act.put, List.setIfInBounds_toArray, List.set_cons_zero, List.set_cons_succ]
  refine wpList_assign (v := v9) rfl rfl rfl ?_
  refine wpList_nil ?_
  simp only [Act.put, List.setIfInBounds_toArray, List.set_cons_zero, List.set_cons_succ]
  go_wp2
  go_ret
  exact ⟨_, rfl, B9.out, O9.out⟩
end Go.Proofs.YtphhhnjeojdnkaaGreatDoor

/-
  ref14.Bytes at a cart of one item with one mark.
-/
namespace Go.Proofs.YtphhhnjeojdnkaaGreatDoor
open Go.RowKit
theorem enters86 : Enters Tryz.prog 86 := enters_of Tryz.func86 (by kernel_rfl) rfl
theorem enters57 : Enters Tryz.prog 57 := enters_of Tryz.func57 (by kernel_rfl) rfl
theorem len_items {w : World} {A : Option Addr} {n c : Nat} {ty : TypeId} : (Builtin.len_ #[61] ty #[.slice A n c]).run Tryz.prog w = .ok (.int .i64 (n : Int)) w := by simp [go_sem]
theorem conv_one {w : World} : (convert 3 98 (.int .i64 ((1 : Nat) : Int))).run Tryz.prog w = .ok (.int .u64 ((1 : Nat) : Int)) w := conv_u64n (by omega)
theorem numB_pos (n : Nat) : 1 <= (numB n).length := by
  cases h : numB n with
  | nil => exfalso; unfold numB at h; split at h <;> simp at h
  | cons => simp
theorem ownb_ne {w : World} {B J : Nat} {v : Value} {l s : List UInt8} {ty : TypeId} (h : OwnSl encB ty w B v l) (hl : 1 <= l.length) (hc : w.cell? ⟨J, 0, none⟩ = some (strV s)) : some J ≠ v.ownBlock := by
  rcases h.2 with ⟨rfl, h0⟩ | ⟨g, cap, cur, rfl, hg, hh, hn, hm, hs, ht⟩
  · omega
  · intro e
    have e2 : J = g := Option.some.inj e
    subst e2
    obtain ⟨x, t, rfl⟩ := List.exists_cons_of_length_pos (l := l) (by omega)
    have := World.ownsRow.cells (v := .slice (some ⟨J, 0, none⟩) (x :: t).length cap) h rfl 0 (.int .u8 x.toNat) rfl
    have h2 : w.cell? ⟨J, 0, none⟩ = some (.int .u8 x.toNat) := this
    rw [hc] at h2
    cases h2
theorem ownb_ne64 {w : World} {B J : Nat} {v : Value} {l : List UInt8} {z : Int} {ty : TypeId} (h : OwnSl encB ty w B v l) (hl : 1 <= l.length) (hc : w.cell? ⟨J, 0, none⟩ = some (.int .u64 z)) : some J ≠ v.ownBlock := by
  rcases h.2 with ⟨rfl, h0⟩ | ⟨g, cap, cur, rfl, hg, hh, hn, hm, hs, ht⟩
  · omega
  · intro e
    have e2 : J = g := Option.some.inj e
    subst e2
    obtain ⟨x, t, rfl⟩ := List.exists_cons_of_length_pos (l := l) (by omega)
    have := World.ownsRow.cells (v := .slice (some ⟨J, 0, none⟩) (x :: t).length cap) h rfl 0 (.int .u8 x.toNat) rfl
    have h2 : w.cell? ⟨J, 0, none⟩ = some (.int .u8 x.toNat) := this
    rw [hc] at h2
    cases h2
theorem strB_len {l : List UInt8} (h : l.length <= 100000) : (strB l).length <= 10 + l.length := by
  unfold strB; rw [List.length_append]; have := numB_ten (n := l.length) (by omega); omega
section
variable {w0 w : World} {N o : Nat}
theorem field_i0 : (Instr.fieldAt 115 (.pointer (some ⟨N, 0, none⟩)) 0).run Tryz.prog w = .ok (.pointer (some ⟨N, 0, none⟩)) w := by simp [go_sem]
theorem field_i1 : (Instr.fieldAt 115 (.pointer (some ⟨N, 0, none⟩)) 1).run Tryz.prog w = .ok (.pointer (some ⟨N, 1, none⟩)) w := by simp [go_sem]
theorem load_strN {l : List UInt8} (hb : Below w0.heap.size w0 w) (h0 : w0.cell? ⟨N, o, none⟩ = some (strV l)) : (Instr.loadAt 9 (.pointer (some ⟨N, o, none⟩))).run Tryz.prog w = .ok (strV l) w := by
  have c1 := cellKeep hb h0
  simp [go_sem, c1]
theorem load_marks {A : Option Addr} {n c : Nat} (hb : Below w0.heap.size w0 w) (h0 : w0.cell? ⟨N, o, none⟩ = some (.slice A n c)) : (Instr.loadAt 113 (.pointer (some ⟨N, o, none⟩))).run Tryz.prog w = .ok (.slice A n c) w := by
  have c1 := cellKeep hb h0
  simp [go_sem, c1]
theorem len_marks {A : Option Addr} {n c : Nat} {ty : TypeId} : (Builtin.len_ #[113] ty #[.slice A n c]).run Tryz.prog w = .ok (.int .i64 (n : Int)) w := by simp [go_sem]
end
theorem rbytes {n m ca cb bi bm : Nat} {A B : Option Addr} {c : Ctx} {nm : List UInt8} {x k q t : Nat} {w : World} (h : CartOK w A n ca B m cb c bi bm nm x k q t) (hn : n <= 1000) (hm : m <= 1000) :
    Calls Tryz.prog 58 #[.agg (cartA A n ca B m cb bi)] w (Ret w (IsOwnB w.heap.size (wholeB c nm ⟨x, k, q, t⟩))) := by
  obtain ⟨N, hN⟩ : ∃ N, N = w.heap.size := ⟨_, rfl⟩
  have hx : Below w.heap.size w (w.alloc (.cells (cartA A n ca B m cb bi) 63)) := by go_grown
  have Y0 := Lib.hid (show (w.alloc (.cells (cartA A n ca B m cb bi) 63)).cell? ⟨N, 0, none⟩ = some (.slice A n ca) by rw [hN]; simp [go_sem])
  have Y1 := Lib.hid (show (w.alloc (.cells (cartA A n ca B m cb bi) 63)).cell? ⟨N, 1, none⟩ = some (.slice B m cb) by rw [hN]; simp [go_sem])
  have Y2 := Lib.hid (show (w.alloc (.cells (cartA A n ca B m cb bi) 63)).cell? ⟨N, 2, none⟩ = some (.slice (some ⟨bi, 0, none⟩) 1 1) by rw [hN]; simp [go_sem])
  have H := Lib.hid (h.mono hx); have BX := Lib.hid hx; have HN := Lib.hid hn; have HM := Lib.hid hm
  have EN : Hid (w.heap.size = N) := Lib.hid hN.symm
  have HBI := Lib.hid (show bi < N + 1 by have := h.at_.item.lt; omega); have HBM := Lib.hid (show bm < N + 1 by have := h.at_.item.mark.lt; omega)
  clear h hx hn hm hN
  go_enter Tryz.func58, Tryz.ntmps58
  go_wp2_with fail
  rw [EN.out]
  have hB := Lib.hid (show N <= (w.alloc (.cells (cartA A n ca B m cb bi) 63)).heap.size by have := BX.out.size; have := EN.out; omega)
  have BX2 : Hid (Below N w (w.alloc (.cells (cartA A n ca B m cb bi) 63))) := Lib.hid (by rw [<- EN.out]; exact BX.out)
  have hNlt := Lib.hid (show N < (w.alloc (.cells (cartA A n ca B m cb bi) 63)).heap.size from World.block_lt_of_cell? _ _ Y0.out)
  generalize w.alloc (.cells (cartA A n ca B m cb bi) 63) = W at *
  refine wp_region_MT 8 mixed (by kernel_rfl) (by kernel_rfl) ?_
  refine MDerT.step (Ob.fieldV Wanted.free Has.oldIs (fun w1 => field_c0)) ?_
  refine MDerT.step (Ob.loadV Wanted.free (Has.new 0 0) (fun w1 hb1 => load_cctx hb1 Y0.out Y1.out)) ?_
  refine MDerT.step (Ob.call1V Wanted.free enters86 (Has.new 1 0) (fun w1 hb1 => ret_low (B := N + 1) (rcontext (H.out.mono hb1).at_.con H.out.v1 H.out.v2 HN.out HM.out) (Nat.le_trans hNlt.out hb1.size))) ?_
  refine MDerT.step (Ob.fieldV Wanted.free Has.oldIs (fun w1 => field_c1)) ?_
  refine MDerT.step (Ob.loadV Wanted.free (Has.new 3 0) (fun w1 hb1 => load_citems (v := undef) hb1 Y2.out)) ?_
  refine MDerT.step (Ob.lenV Wanted.free (Has.new 4 0) (fun w1 => len_items)) ?_
  refine MDerT.step (Ob.convV Wanted.free (Has.new 5 0) (fun w1 => conv_one)) ?_
  refine MDerT.step (Ob.call1V Wanted.free enters56 (Has.new 6 0) (fun w1 hb1 => ret_low (B := N + 1) (rnumber_ 1 (by omega) w1) (Nat.le_trans hNlt.out hb1.size))) ?_
  simp only [MDerT, dstsOf, List.map, EndM, List.reverse_cons, List.reverse_nil, List.nil_append, List.cons_append, List.take_succ_cons, List.take_zero, List.drop_succ_cons, List.drop_zero]
  intro wE hE
  iterate 2 (rintro _ rfl)
  rintro _ h2
  iterate 4 (rintro _ rfl)
  rintro _ h7
  simp only [Act.put, List.setIfInBounds_toArray, List.set_cons_zero, List.set_cons_succ]
  rename_i u2 u7
  obtain ⟨A7, c7, rfl, s7⟩ := OwnSl.sl h7
  have BE : Below (N + 1) W wE := hE.mono hNlt.out
  have hNE : N + 1 <= wE.heap.size := Nat.le_trans hNlt.out hE.size
  have t0 := num1_len
  have t1 := dotsB_len H.out.v1 (by have := H.out.at_.con.v.len; have := HN.out; omega)
  have t2 := dotsB_len H.out.v2 (by have := H.out.at_.con.k.len; have := HM.out; omega)
  have CL := Lib.hid (show (ctxB c ++ numB 1).length <= 100000 by have := H.out.at_.con.v.len; have := H.out.at_.con.k.len; have := HN.out; have := HM.out; unfold ctxB; simp only [List.length_append]; omega)
  refine wpList_appS (B := N + 1) (v := u2) (l := ctxB c) infB rfl rfl Tryz.underlying22 rfl rfl h2 s7 (by have := CL.out; rw [List.length_append] at this; omega) hNE ?_
  intro v2 w2 ho2 hg2 _
  have B2 := Lib.hid (BE.grown hg2 hNE (fun q hq => (OwnSl.own h2 q hq).1))
  have O2 := Lib.hid ho2
  clear hE h2 h7 s7 BE t1 t2 t0 hNE ho2 hg2
  simp only [Act.put, List.setIfInBounds_toArray, List.set_cons_zero, List.set_cons_succ]
  refine wpList_assign (v := v2) rfl rfl rfl ?_
  refine wpList_nil ?_
  simp only [Act.put, List.setIfInBounds_toArray, List.set_cons_zero, List.set_cons_succ]
  have BL : Hid (∀ {a : Addr} {v : Value} {w' : World}, W.cell? a = some v -> a.block < N + 1 -> Below (N + 1) W w' -> w'.cell? a = some v) := Lib.hid (fun h1 h2 hb => (hb.cell h2).trans h1)
  have z0 := BL.out Y2.out (Nat.lt_succ_self N) B2.out
  have z1 := BL.out H.out.at_.item.c0 HBI.out B2.out
  have z2 := BL.out H.out.at_.item.c1 HBI.out B2.out
  have hNs : N < w2.heap.size := World.block_lt_of_cell? _ _ z0
  have hIs : bi < w2.heap.size := World.block_lt_of_cell? _ _ z1
  go_wp2
  refine wp_loop_rounds 2 ?_
  rw [rounds_succ]
  obtain ⟨J, hJ⟩ : ∃ J, J = w2.heap.size := ⟨_, rfl⟩
  have hb3 : Below w2.heap.size w2 (w2.alloc (.cells #[strV nm, .slice (some ⟨bm, 0, none⟩) 1 1] 115)) := by go_grown
  have X0 := Lib.hid (show (w2.alloc (.cells #[strV nm, .slice (some ⟨bm, 0, none⟩) 1 1] 115)).cell? ⟨J, 0, none⟩ = some (strV nm) by rw [hJ]; simp [go_sem])
  have X1 := Lib.hid (show (w2.alloc (.cells #[strV nm, .slice (some ⟨bm, 0, none⟩) 1 1] 115)).cell? ⟨J, 1, none⟩ = some (.slice (some ⟨bm, 0, none⟩) 1 1) by rw [hJ]; simp [go_sem])
  have O3 := Lib.hid (OwnSl.mono O2.out hb3)
  have B3 := Lib.hid (B2.out.trans (hb3.mono (show N + 1 <= w2.heap.size by omega)))
  have JNE := Lib.hid (show some J ≠ v2.ownBlock from fun hq => by have := (OwnSl.own O2.out J hq.symm).2; omega)
  have EJ : Hid (w2.heap.size = J) := Lib.hid hJ.symm
  clear hb3 hJ
  go_wp2_with fail
  rw [EJ.out]
  clear z0 z1 z2 hNs hIs
  obtain ⟨L, hL⟩ : ∃ L, L = ctxB c ++ numB 1 := ⟨_, rfl⟩
  have EL : Hid (ctxB c ++ numB 1 = L) := Lib.hid hL.symm
  clear hL
  rw [EL.out] at O3 CL
  generalize w2.alloc (.cells #[strV nm, .slice (some ⟨bm, 0, none⟩) 1 1] 115) = w3 at *
  have NL := Lib.hid (show nm.length <= 100000 by have := H.out.small; omega)
  refine wp_region_ME (R := (rowR v2.ownBlock)) 10 4 ((phiO (N + 1) v2 L)) mixed (by kernel_rfl) (by kernel_rfl) (by kernel_rfl) ?_ ?_ ?_ ?_
  · exact phiO_mono
  · exact (fun q hq => (OwnSl.own O3.out q hq).2)
  · exact O3.out
  refine MDerE.step (by kernel_rfl) (fun wS hS hI => Ob.move Wanted.free Has.oldIs) ?_
  refine MDerE.step (by kernel_rfl) (fun wS hS hI => Ob.fieldV Wanted.free Has.oldIs (fun w1 => field_i0)) ?_
  refine MDerE.step (by kernel_rfl) (fun wS hS hI => Ob.loadV Wanted.free (Has.new 1 0) (fun w1 hb1 => load_strN hb1 (hS.cell X0.out JNE.out))) ?_
  refine MDerE.step (by kernel_rfl) (fun wS hS hI => Ob.call1V Wanted.free enters57 (Has.new 2 0) (fun w1 hb1 => ret_free (r := v2.ownBlock) (rstring nm NL.out w1) (fun q hq => Nat.lt_of_lt_of_le (hI q hq) hb1.size))) ?_
  refine MDerE.write (by kernel_rfl) (fun wS hS hI hP => ObS.appS Wanted.free (Has.new 0 3) (Has.new 3 0) infB Tryz.underlying22 hP (by have := CL.out; have := strB_len NL.out; have := NL.out; omega) (by have := B3.out.size; have := hS.size; have := hNlt.out; omega)) ?_
  refine MDerE.step (by kernel_rfl) (fun wS hS hI => Ob.fieldV Wanted.free Has.oldIs (fun w1 => field_i1)) ?_
  refine MDerE.step (by kernel_rfl) (fun wS hS hI => Ob.loadV Wanted.free (Has.new 5 0) (fun w1 hb1 => load_marks hb1 (hS.cell X1.out JNE.out))) ?_
  refine MDerE.step (by kernel_rfl) (fun wS hS hI => Ob.lenV Wanted.free (Has.new 6 0) (fun w1 => len_marks)) ?_
  refine MDerE.step (by kernel_rfl) (fun wS hS hI => Ob.convV Wanted.free (Has.new 7 0) (fun w1 => conv_one)) ?_
  refine MDerE.step (by kernel_rfl) (fun wS hS hI => Ob.call1V Wanted.free enters56 (Has.new 8 0) (fun w1 hb1 => ret_free (r := v2.ownBlock) (rnumber_ 1 (by omega) w1) (fun q hq => Nat.lt_of_lt_of_le (hI q hq) hb1.size))) ?_
  intro wE hE hIE hPE
  change EndM _ [some 31, some 32, some 33, some 34, some 35, some 36, some 37, some 38, some 39, some 40] _ _ _
  simp only [EndM, List.reverse_cons, List.reverse_nil, List.nil_append, List.cons_append]
  iterate 3 (rintro _ rfl)
  rintro _ _h3
  rintro _ h4
  iterate 4 (rintro _ rfl)
  rintro _ ⟨A9, n9, c9, rfl, s9, _⟩
  simp only [Act.put, List.setIfInBounds_toArray, List.set_cons_zero, List.set_cons_succ]
  rename_i v2 u3 u4 hr9
  have hN3 : N + 1 <= w3.heap.size := by have := B3.out.size; have := hNlt.out; omega
  have BE : Below (N + 1) W wE := B3.out.grown hE hN3 (fun q hq => (OwnSl.own O3.out q hq).1)
  have hNE : N + 1 <= wE.heap.size := Nat.le_trans hN3 hE.size
  have JE := ownb_ne h4 (by rw [<- EL.out]; have := numB_pos 1; simp only [List.length_append]; omega) (hE.cell X0.out JNE.out)
  refine wpList_appS (B := N + 1) (v := u4) (l := L ++ strB nm) infB rfl rfl Tryz.underlying22 rfl rfl h4 s9 (by have := CL.out; have := strB_len NL.out; have := NL.out; have := num1_len; simp only [List.length_append]; omega) hNE ?_
  intro v5 w5 ho5 hg5 _
  have X5 := Lib.hid (hg5.cell (hE.cell X1.out JNE.out) JE); have X6 := Lib.hid (hg5.cell (hE.cell X0.out JNE.out) JE)
  have B5 := Lib.hid (BE.grown hg5 hNE (fun q hq => (OwnSl.own h4 q hq).1))
  have O5 := Lib.hid ho5
  clear hE hIE hPE _h3 h4 s9 hr9 BE hNE hN3 JE ho5 hg5
  simp only [Act.put, List.setIfInBounds_toArray, List.set_cons_zero, List.set_cons_succ]
  refine wpList_assign (v := v5) rfl rfl rfl ?_
  refine wpList_nil ?_
  simp only [Act.put, List.setIfInBounds_toArray, List.set_cons_zero, List.set_cons_succ]
  have z0 := X5.out
  have z1 := BL.out H.out.at_.item.mark.c0 HBM.out B5.out
  have z2 := BL.out H.out.at_.item.mark.c1 HBM.out B5.out
  have z3 := BL.out H.out.at_.item.mark.c2 HBM.out B5.out
  have z4 := BL.out H.out.at_.item.mark.c3 HBM.out B5.out
  have hJs : J < w5.heap.size := World.block_lt_of_cell? _ _ z0
  have hMs : bm < w5.heap.size := World.block_lt_of_cell? _ _ z1
  have hx := H.out.hx; have hk := H.out.hk; have hq := H.out.hq; have ht := H.out.ht
  go_wp2
  refine wp_loop_rounds 2 ?_
  rw [rounds_succ]
  obtain ⟨G, hG⟩ : ∃ G, G = w5.heap.size + 1 := ⟨_, rfl⟩
  have hb6 : Below w5.heap.size w5 ((w5.alloc (.cells #[.int .i64 x, .int .i64 k, .int .i64 q, .int .u64 t] 112)).alloc (.cells #[.int .u64 x, .int .u64 k, .int .u64 q, .int .u64 t] 98)) := by go_grown
  have hN5 : N + 1 <= w5.heap.size := by have := B5.out.size; have := hNlt.out; omega
  have G0 := Lib.hid (show ((w5.alloc (.cells #[.int .i64 x, .int .i64 k, .int .i64 q, .int .u64 t] 112)).alloc (.cells #[.int .u64 x, .int .u64 k, .int .u64 q, .int .u64 t] 98)).cell? ⟨G, 0, none⟩ = some (.int .u64 x) by rw [hG]; simp [go_sem])
  have G1 := Lib.hid (show ((w5.alloc (.cells #[.int .i64 x, .int .i64 k, .int .i64 q, .int .u64 t] 112)).alloc (.cells #[.int .u64 x, .int .u64 k, .int .u64 q, .int .u64 t] 98)).cell? ⟨G, 1, none⟩ = some (.int .u64 k) by rw [hG]; simp [go_sem])
  have G2 := Lib.hid (show ((w5.alloc (.cells #[.int .i64 x, .int .i64 k, .int .i64 q, .int .u64 t] 112)).alloc (.cells #[.int .u64 x, .int .u64 k, .int .u64 q, .int .u64 t] 98)).cell? ⟨G, 2, none⟩ = some (.int .u64 q) by rw [hG]; simp [go_sem])
  have G3 := Lib.hid (show ((w5.alloc (.cells #[.int .i64 x, .int .i64 k, .int .i64 q, .int .u64 t] 112)).alloc (.cells #[.int .u64 x, .int .u64 k, .int .u64 q, .int .u64 t] 98)).cell? ⟨G, 3, none⟩ = some (.int .u64 t) by rw [hG]; simp [go_sem])
  have O6 := Lib.hid (OwnSl.mono O5.out hb6); have G4 := Lib.hid (cellKeep hb6 X6.out); have G5 := Lib.hid (cellKeep hb6 X5.out)
  have B6 := Lib.hid (B5.out.trans (hb6.mono hN5))
  have EG : Hid (w5.heap.size + 1 = G) := Lib.hid hG.symm
  clear hG hb6 hN5
  go_wp2_with fail
  rw [EG.out]
  clear z0 z1 z2 z3 z4 hJs hMs
  generalize ((w5.alloc (.cells #[.int .i64 x, .int .i64 k, .int .i64 q, .int .u64 t] 112)).alloc (.cells #[.int .u64 x, .int .u64 k, .int .u64 q, .int .u64 t] 98)) = w6 at *
  refine wp_loop_rounds 5 ?_
  have hNG := Lib.hid (show N + 1 <= w6.heap.size by have := B6.out.size; have := hNlt.out; omega)
  have L6 := Lib.hid (show (L ++ strB nm ++ numB 1).length <= 210100 ∧ 1 <= (L ++ strB nm ++ numB 1).length by have := CL.out; have := strB_len NL.out; have := NL.out; have := num1_len; have := numB_pos 1; simp only [List.length_append]; omega)
  have t0 := Lib.hid (numB_ten (n := x) (by omega)); have t1 := Lib.hid (numB_ten (n := k) (by omega)); have t2 := Lib.hid (numB_ten (n := q) (by omega)); have t3 := Lib.hid (numB_ten (n := t) (by omega))
  rw [rounds_succ]
  have g0 := G0.out
  have hGs : G < w6.heap.size := World.block_lt_of_cell? _ _ g0
  go_wp2_with fail
  refine (rnumber_ x (by omega) w6).mono ?_
  clear g0 hGs
  rintro _ a0 ⟨_, rfl, hba, hoa⟩
  obtain ⟨E0, f0, rfl, hsa⟩ := OwnSl.sl hoa
  have P0 := Lib.hid (OwnSl.mono O6.out hba); have Q0 := Lib.hid (B6.out.trans (hba.mono (show N + 1 <= w6.heap.size by have := B6.out.size; have := hNlt.out; omega))); have S0 := Lib.hid hsa
  have K00 := Lib.hid (cellKeep hba G0.out)
  have K01 := Lib.hid (cellKeep hba G1.out)
  have K02 := Lib.hid (cellKeep hba G2.out)
  have K03 := Lib.hid (cellKeep hba G3.out)
  have K04 := Lib.hid (cellKeep hba G4.out); have K05 := Lib.hid (cellKeep hba G5.out)
  have D0 := Lib.hid (ownb_ne64 P0.out (by have := L6.out; have := t0.out; have := t1.out; have := t2.out; have := t3.out; simp only [List.length_append] at *; omega) K00.out)
  have F0 := Lib.hid (ownb_ne P0.out (by have := L6.out; have := t0.out; have := t1.out; have := t2.out; have := t3.out; simp only [List.length_append] at *; omega) K04.out)
  clear hba hoa hsa
  go_wp2_with (at_builtin; refine wpList_appS (B := N + 1) (v := v5) (l := (L ++ strB nm ++ numB 1)) infB rfl rfl Tryz.underlying22 rfl rfl P0.out S0.out (by have := L6.out; have := t0.out; have := t1.out; have := t2.out; have := t3.out; simp only [List.length_append] at *; omega) (by have := Q0.out.size; have := hNlt.out; omega) ?_; intro y0 b0 hob hgb _; have R0 := Lib.hid hob; have M0 := Lib.hid hgb; clear hob hgb; simp only [Act.put, List.setIfInBounds_toArray, List.set_cons_zero, List.set_cons_succ])
  have T0 := Lib.hid (Q0.out.grown M0.out (show N + 1 <= a0.heap.size by have := Q0.out.size; have := hNlt.out; omega) (fun q hq => (OwnSl.own P0.out q hq).1))
  have Z00 := Lib.hid (M0.out.cell K00.out D0.out)
  have Z01 := Lib.hid (M0.out.cell K01.out D0.out)
  have Z02 := Lib.hid (M0.out.cell K02.out D0.out)
  have Z03 := Lib.hid (M0.out.cell K03.out D0.out)
  have Z04 := Lib.hid (M0.out.cell K04.out F0.out); have Z05 := Lib.hid (M0.out.cell K05.out F0.out)
  rw [rounds_succ]
  have g1 := Z01.out
  have hGs : G < b0.heap.size := World.block_lt_of_cell? _ _ g1
  go_wp2_with fail
  refine (rnumber_ k (by omega) b0).mono ?_
  clear g1 hGs
  rintro _ a1 ⟨_, rfl, hba, hoa⟩
  obtain ⟨E1, f1, rfl, hsa⟩ := OwnSl.sl hoa
  have P1 := Lib.hid (OwnSl.mono R0.out hba); have Q1 := Lib.hid (T0.out.trans (hba.mono (show N + 1 <= b0.heap.size by have := T0.out.size; have := hNlt.out; omega))); have S1 := Lib.hid hsa
  have K10 := Lib.hid (cellKeep hba Z00.out)
  have K11 := Lib.hid (cellKeep hba Z01.out)
  have K12 := Lib.hid (cellKeep hba Z02.out)
  have K13 := Lib.hid (cellKeep hba Z03.out)
  have K14 := Lib.hid (cellKeep hba Z04.out); have K15 := Lib.hid (cellKeep hba Z05.out)
  have D1 := Lib.hid (ownb_ne64 P1.out (by have := L6.out; have := t0.out; have := t1.out; have := t2.out; have := t3.out; simp only [List.length_append] at *; omega) K10.out)
  have F1 := Lib.hid (ownb_ne P1.out (by have := L6.out; have := t0.out; have := t1.out; have := t2.out; have := t3.out; simp only [List.length_append] at *; omega) K14.out)
  clear hba hoa hsa
  go_wp2_with (at_builtin; refine wpList_appS (B := N + 1) (v := y0) (l := ((L ++ strB nm ++ numB 1) ++ numB x)) infB rfl rfl Tryz.underlying22 rfl rfl P1.out S1.out (by have := L6.out; have := t0.out; have := t1.out; have := t2.out; have := t3.out; simp only [List.length_append] at *; omega) (by have := Q1.out.size; have := hNlt.out; omega) ?_; intro y1 b1 hob hgb _; have R1 := Lib.hid hob; have M1 := Lib.hid hgb; clear hob hgb; simp only [Act.put, List.setIfInBounds_toArray, List.set_cons_zero, List.set_cons_succ])
  have T1 := Lib.hid (Q1.out.grown M1.out (show N + 1 <= a1.heap.size by have := Q1.out.size; have := hNlt.out; omega) (fun q hq => (OwnSl.own P1.out q hq).1))
  have Z10 := Lib.hid (M1.out.cell K10.out D1.out)
  have Z11 := Lib.hid (M1.out.cell K11.out D1.out)
  have Z12 := Lib.hid (M1.out.cell K12.out D1.out)
  have Z13 := Lib.hid (M1.out.cell K13.out D1.out)
  have Z14 := Lib.hid (M1.out.cell K14.out F1.out); have Z15 := Lib.hid (M1.out.cell K15.out F1.out)
  rw [rounds_succ]
  have g2 := Z12.out
  have hGs : G < b1.heap.size := World.block_lt_of_cell? _ _ g2
  go_wp2_with fail
  refine (rnumber_ q (by omega) b1).mono ?_
  clear g2 hGs
  rintro _ a2 ⟨_, rfl, hba, hoa⟩
  obtain ⟨E2, f2, rfl, hsa⟩ := OwnSl.sl hoa
  have P2 := Lib.hid (OwnSl.mono R1.out hba); have Q2 := Lib.hid (T1.out.trans (hba.mono (show N + 1 <= b1.heap.size by have := T1.out.size; have := hNlt.out; omega))); have S2 := Lib.hid hsa
  have K20 := Lib.hid (cellKeep hba Z10.out)
  have K21 := Lib.hid (cellKeep hba Z11.out)
  have K22 := Lib.hid (cellKeep hba Z12.out)
  have K23 := Lib.hid (cellKeep hba Z13.out)
  have K24 := Lib.hid (cellKeep hba Z14.out); have K25 := Lib.hid (cellKeep hba Z15.out)
  have D2 := Lib.hid (ownb_ne64 P2.out (by have := L6.out; have := t0.out; have := t1.out; have := t2.out; have := t3.out; simp only [List.length_append] at *; omega) K20.out)
  have F2 := Lib.hid (ownb_ne P2.out (by have := L6.out; have := t0.out; have := t1.out; have := t2.out; have := t3.out; simp only [List.length_append] at *; omega) K24.out)
  clear hba hoa hsa
  go_wp2_with (at_builtin; refine wpList_appS (B := N + 1) (v := y1) (l := (((L ++ strB nm ++ numB 1) ++ numB x) ++ numB k)) infB rfl rfl Tryz.underlying22 rfl rfl P2.out S2.out (by have := L6.out; have := t0.out; have := t1.out; have := t2.out; have := t3.out; simp only [List.length_append] at *; omega) (by have := Q2.out.size; have := hNlt.out; omega) ?_; intro y2 b2 hob hgb _; have R2 := Lib.hid hob; have M2 := Lib.hid hgb; clear hob hgb; simp only [Act.put, List.setIfInBounds_toArray, List.set_cons_zero, List.set_cons_succ])
  have T2 := Lib.hid (Q2.out.grown M2.out (show N + 1 <= a2.heap.size by have := Q2.out.size; have := hNlt.out; omega) (fun q hq => (OwnSl.own P2.out q hq).1))
  have Z20 := Lib.hid (M2.out.cell K20.out D2.out)
  have Z21 := Lib.hid (M2.out.cell K21.out D2.out)
  have Z22 := Lib.hid (M2.out.cell K22.out D2.out)
  have Z23 := Lib.hid (M2.out.cell K23.out D2.out)
  have Z24 := Lib.hid (M2.out.cell K24.out F2.out); have Z25 := Lib.hid (M2.out.cell K25.out F2.out)
  rw [rounds_succ]
  have g3 := Z23.out
  have hGs : G < b2.heap.size := World.block_lt_of_cell? _ _ g3
  go_wp2_with fail
  refine (rnumber_ t (by omega) b2).mono ?_
  clear g3 hGs
  rintro _ a3 ⟨_, rfl, hba, hoa⟩
  obtain ⟨E3, f3, rfl, hsa⟩ := OwnSl.sl hoa
  have P3 := Lib.hid (OwnSl.mono R2.out hba); have Q3 := Lib.hid (T2.out.trans (hba.mono (show N + 1 <= b2.heap.size by have := T2.out.size; have := hNlt.out; omega))); have S3 := Lib.hid hsa
  have K30 := Lib.hid (cellKeep hba Z20.out)
  have K31 := Lib.hid (cellKeep hba Z21.out)
  have K32 := Lib.hid (cellKeep hba Z22.out)
  have K33 := Lib.hid (cellKeep hba Z23.out)
  have K34 := Lib.hid (cellKeep hba Z24.out); have K35 := Lib.hid (cellKeep hba Z25.out)
  have D3 := Lib.hid (ownb_ne64 P3.out (by have := L6.out; have := t0.out; have := t1.out; have := t2.out; have := t3.out; simp only [List.length_append] at *; omega) K30.out)
  have F3 := Lib.hid (ownb_ne P3.out (by have := L6.out; have := t0.out; have := t1.out; have := t2.out; have := t3.out; simp only [List.length_append] at *; omega) K34.out)
  clear hba hoa hsa
  go_wp2_with (at_builtin; refine wpList_appS (B := N + 1) (v := y2) (l := ((((L ++ strB nm ++ numB 1) ++ numB x) ++ numB k) ++ numB q)) infB rfl rfl Tryz.underlying22 rfl rfl P3.out S3.out (by have := L6.out; have := t0.out; have := t1.out; have := t2.out; have := t3.out; simp only [List.length_append] at *; omega) (by have := Q3.out.size; have := hNlt.out; omega) ?_; intro y3 b3 hob hgb _; have R3 := Lib.hid hob; have M3 := Lib.hid hgb; clear hob hgb; simp only [Act.put, List.setIfInBounds_toArray, List.set_cons_zero, List.set_cons_succ])
  have T3 := Lib.hid (Q3.out.grown M3.out (show N + 1 <= a3.heap.size by have := Q3.out.size; have := hNlt.out; omega) (fun q hq => (OwnSl.own P3.out q hq).1))
  have Z30 := Lib.hid (M3.out.cell K30.out D3.out)
  have Z31 := Lib.hid (M3.out.cell K31.out D3.out)
  have Z32 := Lib.hid (M3.out.cell K32.out D3.out)
  have Z33 := Lib.hid (M3.out.cell K33.out D3.out)
  have Z34 := Lib.hid (M3.out.cell K34.out F3.out); have Z35 := Lib.hid (M3.out.cell K35.out F3.out)
  have x1 := Z35.out
  have x2 := BL.out Y2.out (Nat.lt_succ_self N) T3.out
  have hJs : J < b3.heap.size := World.block_lt_of_cell? _ _ x1
  have hNs : N < b3.heap.size := World.block_lt_of_cell? _ _ x2
  rw [rounds_succ]
  go_wp2
  rw [rounds_succ]
  go_wp2
  rw [rounds_succ]
  go_wp2
  go_ret
  have := R3.out
  rw [<- EL.out] at this
  exact ⟨_, rfl, by rw [EN.out]; exact (BX2.out.trans (T3.out.mono (Nat.le_succ N))), by rw [EN.out]; refine OwnSl.low ?_ (Nat.le_succ N); simpa [wholeB, markB, List.append_assoc] using this⟩
end Go.Proofs.YtphhhnjeojdnkaaGreatDoor

/-
  ref16.Body at one entry.
-/
namespace Go.Proofs.YtphhhnjeojdnkaaGreatDoor
open Go.RowKit
theorem enters58 : Enters Tryz.prog 58 := enters_of Tryz.func58 (by kernel_rfl) rfl
theorem index_e0 {w : World} {be : Nat} : (Instr.indexAt 72 (.slice (some ⟨be, 0, none⟩) 1 1) (.int .i64 0)).run Tryz.prog w = .ok (.pointer (some ⟨be, 0, none⟩)) w := by simp [go_sem]
theorem rbody {n m ca cb bi bm be : Nat} {ky : List UInt8} {A B : Option Addr} {c : Ctx} {nm : List UInt8} {x k q t : Nat} {w : World} (h : CartOK w A n ca B m cb c bi bm nm x k q t) (e : E1 w be ky A n ca B m cb bi) (hn : n <= 1000) (hm : m <= 1000) (hl : ky.length <= 64) :
    Calls Tryz.prog 27 #[.slice (some ⟨be, 0, none⟩) 1 1] w (Ret w (IsOwnB w.heap.size (entryB ky c nm ⟨x, k, q, t⟩))) := by
  have H := Lib.hid h; have E := Lib.hid e; have HN := Lib.hid hn; have HM := Lib.hid hm; have KL := Lib.hid hl
  have HBE := Lib.hid (show be < w.heap.size from World.block_lt_of_cell? _ _ e.c0)
  clear h e hn hm hl
  go_enter Tryz.func27, Tryz.ntmps27
  go_wp2_with fail
  refine (rnumber_ 1 (by omega) w).mono ?_
  rintro _ w1 ⟨v1, rfl, hb1, ho1⟩
  have B1 := Lib.hid hb1; have O1 := Lib.hid ho1
  have BNE := Lib.hid (show some be ≠ v1.ownBlock from fun hq => by have := (OwnSl.own ho1 be hq.symm).1; have := HBE.out; omega)
  have E1_ := Lib.hid (E.out.mono hb1)
  have NL := Lib.hid (show ky.length <= 100000 by have := KL.out; omega)
  clear hb1 ho1
  go_wp2
  refine wp_loop_rounds 2 ?_
  rw [rounds_succ]
  go_wp2_with fail
  refine wp_region_ME (R := (rowR v1.ownBlock)) 14 7 ((phiO w.heap.size v1 (numB 1))) mixed (by kernel_rfl) (by kernel_rfl) (by kernel_rfl) ?_ ?_ ?_ ?_
  · exact phiO_mono
  · exact (fun q hq => (OwnSl.own O1.out q hq).2)
  · exact O1.out
  refine MDerE.step (by kernel_rfl) (fun wS hS hI => Ob.move Wanted.free Has.oldIs) ?_
  refine MDerE.step (by kernel_rfl) (fun wS hS hI => Ob.move Wanted.free Has.oldIs) ?_
  refine MDerE.step (by kernel_rfl) (fun wS hS hI => Ob.move Wanted.free Has.oldIs) ?_
  refine MDerE.step (by kernel_rfl) (fun wS hS hI => Ob.indexV Wanted.free (Has.new 1 1) (Has.new 2 0) (fun w1 => index_e0)) ?_
  refine MDerE.step (by kernel_rfl) (fun wS hS hI => Ob.fieldV Wanted.free (Has.new 3 0) (fun w1 => field_e0)) ?_
  refine MDerE.step (by kernel_rfl) (fun wS hS hI => Ob.loadV Wanted.free (Has.new 4 0) (fun w1 hb1 => load_strN hb1 (hS.cell E1_.out.c0 BNE.out))) ?_
  refine MDerE.step (by kernel_rfl) (fun wS hS hI => Ob.call1V Wanted.free enters57 (Has.new 5 0) (fun w1 hb1 => ret_free (r := v1.ownBlock) (rstring ky NL.out w1) (fun q hq => Nat.lt_of_lt_of_le (hI q hq) hb1.size))) ?_
  refine MDerE.write (by kernel_rfl) (fun wS hS hI hP => ObS.appS Wanted.free (Has.new 0 6) (Has.new 6 0) infB Tryz.underlying22 hP (by have := strB_len NL.out; have := NL.out; have := num1_len; omega) (by have := B1.out.size; have := hS.size; omega)) ?_
  refine MDerE.step (by kernel_rfl) (fun wS hS hI => Ob.move Wanted.free Has.oldIs) ?_
  refine MDerE.step (by kernel_rfl) (fun wS hS hI => Ob.move Wanted.free Has.oldIs) ?_
  refine MDerE.step (by kernel_rfl) (fun wS hS hI => Ob.indexV Wanted.free (Has.new 8 1) (Has.new 9 0) (fun w1 => index_e0)) ?_
  refine MDerE.step (by kernel_rfl) (fun wS hS hI => Ob.fieldV Wanted.free (Has.new 10 0) (fun w1 => field_e1)) ?_
  refine MDerE.step (by kernel_rfl) (fun wS hS hI => Ob.loadV Wanted.free (Has.new 11 0) (fun w1 hb1 => load_ecart (E1.mono ⟨hS.cell E1_.out.c0 BNE.out, hS.cell E1_.out.c1 BNE.out, hS.cell E1_.out.c2 BNE.out, hS.cell E1_.out.c3 BNE.out⟩ hb1))) ?_
  refine MDerE.step (by kernel_rfl) (fun wS hS hI => Ob.call1V Wanted.free enters58 (Has.new 12 0) (fun w1 hb1 => ret_free (r := v1.ownBlock) (rbytes ((H.out.mono (B1.out.grown hS B1.out.size (fun q hq => (OwnSl.own O1.out q hq).1))).mono hb1) HN.out HM.out) (fun q hq => Nat.lt_of_lt_of_le (hI q hq) hb1.size))) ?_
  intro wE hE hIE hPE
  change EndM _ [some 15, some 16, some 17, some 18, some 19, some 20, some 21, some 22, some 23, some 24, some 25, some 26, some 27, some 28] _ _ _
  simp only [EndM, List.reverse_cons, List.reverse_nil, List.nil_append, List.cons_append]
  iterate 6 (rintro _ rfl)
  rintro _ _h3
  rintro _ h4
  iterate 5 (rintro _ rfl)
  rintro _ ⟨A9, n9, c9, rfl, s9, _⟩
  simp only [Act.put, List.setIfInBounds_toArray, List.set_cons_zero, List.set_cons_succ]
  rename_i u3 u4 hr9
  have BE : Below w.heap.size w wE := B1.out.grown hE B1.out.size (fun q hq => (OwnSl.own O1.out q hq).1)
  have WL := wholeB_len H.out
  refine wpList_appS (B := w.heap.size) (v := u4) (l := numB 1 ++ strB ky) infB rfl rfl Tryz.underlying22 rfl rfl h4 s9 (by have := strB_len NL.out; have := NL.out; have := num1_len; rw [List.length_append]; omega) BE.size ?_
  intro v5 w5 ho5 hg5 _
  have B5 := Lib.hid (BE.grown hg5 BE.size (fun q hq => (OwnSl.own h4 q hq).1))
  have O5 := Lib.hid (show OwnB w5 w.heap.size v5 (entryB ky c nm ⟨x, k, q, t⟩) from ho5)
  clear hE hIE hPE _h3 h4 s9 hr9 BE WL ho5 hg5
  simp only [Act.put, List.setIfInBounds_toArray, List.set_cons_zero, List.set_cons_succ]
  refine wpList_assign (v := v5) rfl rfl rfl ?_
  refine wpList_nil ?_
  simp only [Act.put, List.setIfInBounds_toArray, List.set_cons_zero, List.set_cons_succ]
  go_wp2
  rw [rounds_succ]
  go_wp2
  go_ret
  exact ⟨_, rfl, B5.out, O5.out⟩
end Go.Proofs.YtphhhnjeojdnkaaGreatDoor

/-
  ref12.Fresh on an empty cart, ref09.Find in no items.
-/
namespace Go.Proofs.YtphhhnjeojdnkaaGreatDoor
open Go.RowKit
theorem rFresh {r k : Int} (hv : validD (r, k) = true) (w : World) : Calls Tryz.prog 49 #[.agg #[.slice none 0 0, .slice none 0 0, .slice none 0 0], .agg #[.int .i64 r, .int .i64 k]] w (Ret w (IsB true)) := by
  have C1 := Lib.hid no_rv
  have C2 := Lib.hid (fun w => by have := rvalid r k w; rw [hv] at this; exact this)
  have C3 := Lib.hid (fun w => by have := rchas r k none none 0 0 0 0 ([], []) w (noCon w); rw [hasNone hv] at this; exact this)
  have hx : Below w.heap.size w ((w.alloc cartBox).alloc (.cells #[.int .i64 r, .int .i64 k] 67)) := by go_grown
  have z0 : ((w.alloc cartBox).alloc (.cells #[.int .i64 r, .int .i64 k] 67)).cell? ⟨w.heap.size, 0, none⟩ = some (.slice none 0 0) := by simp [go_sem]
  have z1 : ((w.alloc cartBox).alloc (.cells #[.int .i64 r, .int .i64 k] 67)).cell? ⟨w.heap.size, 1, none⟩ = some (.slice none 0 0) := by simp [go_sem]
  have u0 : ((w.alloc cartBox).alloc (.cells #[.int .i64 r, .int .i64 k] 67)).cell? ⟨w.heap.size + 1, 0, none⟩ = some (.int .i64 r) := by simp [go_sem]
  have u1 : ((w.alloc cartBox).alloc (.cells #[.int .i64 r, .int .i64 k] 67)).cell? ⟨w.heap.size + 1, 1, none⟩ = some (.int .i64 k) := by simp [go_sem]
  have HX := Lib.hid hx; have Z0 := Lib.hid z0; have Z1 := Lib.hid z1; have U0 := Lib.hid u0; have U1 := Lib.hid u1
  clear hx z0 z1 u0 u1 hv
  go_enter Tryz.func49, Tryz.ntmps49
  go_wp2_with fail
  refine (C1.out _).mono ?_
  rintro _ w1 ⟨_, rfl, hb1, rfl⟩
  have HB1 := Lib.hid (HX.out.le hb1)
  have q0 := cellKeep hb1 Z0.out; have q1 := cellKeep hb1 Z1.out; have v0 := cellKeep hb1 U0.out; have v1 := cellKeep hb1 U1.out
  clear hb1
  go_wp2_with fail
  refine (C2.out _).mono ?_
  rintro _ w2 ⟨_, rfl, hb2, rfl⟩
  have HB2 := Lib.hid (HB1.out.le hb2)
  have p0 := cellKeep hb2 q0; have p1 := cellKeep hb2 q1; have x0 := cellKeep hb2 v0; have x1 := cellKeep hb2 v1
  clear hb2 q0 q1 v0 v1
  go_wp2_with fail
  refine (C3.out _).mono ?_
  rintro _ w3 ⟨_, rfl, hb3, rfl⟩
  have HB3 := Lib.hid (HB2.out.le hb3)
  clear hb3 p0 p1 x0 x1
  go_wp2
  go_ret
  exact retB rfl HB3.out
theorem rFind0 (nm : List UInt8) (w : World) : Calls Tryz.prog 52 #[.slice none 0 0, strV nm] w (Ret w (IsI (-1))) := by
  go_enter Tryz.func52, Tryz.ntmps52
  go_wp2
  refine wp_loop_rounds 1 ?_
  rw [rounds_succ]
  go_wp2
  go_ret
  exact ⟨_, rfl, Below.refl _ _, rfl⟩
end Go.Proofs.YtphhhnjeojdnkaaGreatDoor

/-
  ref12.Gone of one dot.
-/
namespace Go.Proofs.YtphhhnjeojdnkaaGreatDoor
open Go.RowKit
def IsGone (c : Ctx) (w : World) (v : Value) : Prop := ∃ A n ca B m cb, v = .agg #[.slice A n ca, .slice B m cb, .slice none 0 0] ∧ Con w A n ca B m cb c
instance (c : Ctx) : Grows (IsGone c) := ⟨fun hb ⟨A, n, ca, B, m, cb, e, h⟩ => ⟨A, n, ca, B, m, cb, e, h.mono hb⟩⟩
theorem NoInt.cart (w : World) : NoInt (w.alloc cartBox) w.heap.size := by
  intro o x e
  have : o = 0 ∨ o = 1 ∨ o = 2 ∨ 3 <= o := by omega
  rcases this with rfl | rfl | rfl | h
  · simp [go_sem] at e
  · simp [go_sem] at e
  · simp [go_sem] at e
  · have h2 := e
    simp [go_sem] at h2
    first
      | omega
      | (rcases o with _ | _ | _ | o <;> simp at h2 <;> omega)
theorem rGone {C : Option Addr} {k ck : Nat} {d : Dot} {w : World} (h : Dots w C k ck [d]) (hv : validD d = true) : Calls Tryz.prog 54 #[.slice C k ck] w (Ret w (IsGone (addC ([], []) [d]))) := by
  have hx : Below w.heap.size w (w.alloc cartBox) := (Below.refl _ _).alloc (Nat.le_refl _) _
  have hk : k = 1 := h.len
  have hl : validL [d] = true := by simp [validL, hv]
  have hu : unionD [] [d] = [d] := by simp [unionD, withD, memD, cutD]
  have hvc : validC (([] : List Dot), unionD [] [d]) = true := by
    rw [hu]; simp [validC, validV, isSet, hl]; exact ⟨rfl, rfl⟩
  have C1 := Lib.hid (radd none none C 0 0 0 0 k ck ([], []) [d] (w.alloc cartBox) (noCon _) (h.mono hx) (by unfold Small; omega) hvc (pass_comp hvc))
  have z : ∀ o, o < 3 -> (w.alloc cartBox).cell? ⟨w.heap.size, o, none⟩ = some (.slice none 0 0) := fun o ho => by
    have : o = 0 ∨ o = 1 ∨ o = 2 := by omega
    rcases this with rfl | rfl | rfl <;> simp [go_sem]
  have f0 : ∀ o, (w.alloc cartBox).frozen? ⟨w.heap.size, o, none⟩ = false := fun o => by simp [go_sem]
  have NI := Lib.hid (NoInt.cart w)
  have HX := Lib.hid hx; have Z := Lib.hid z; have F0 := Lib.hid f0
  clear hx h hv z f0 hk hl hu hvc
  go_enter Tryz.func54, Tryz.ntmps54
  go_wp2_with fail
  refine C1.out.mono ?_
  rintro _ w1 ⟨_, rfl, hb1, A1, n1, c1, B1, m1, d1, rfl, hc⟩
  have x0 := cellKeep hb1 (Z.out 0 (by omega))
  have x1 := cellKeep hb1 (Z.out 1 (by omega))
  have x2 := cellKeep hb1 (Z.out 2 (by omega))
  have hz : w.heap.size < w1.heap.size := World.block_lt_of_cell? w1 _ x0
  have yf : ∀ o, w1.frozen? ⟨w.heap.size, o, none⟩ = false := fun o => (hb1.frozen (p := ⟨w.heap.size, o, none⟩) (by simp)).trans (F0.out o)
  have yf0 := yf 0; have yf1 := yf 1; have yf2 := yf 2
  have ni := NI.out.mono hb1 (by simp)
  have n1_ := Lib.hid (hc.v.noInt ni); have n2_ := Lib.hid (hc.k.noInt ni)
  have HB := Lib.hid (HX.out.le hb1); have HC := Lib.hid hc
  clear hb1 hc yf ni C1
  go_wp2
  obtain ⟨N, hN⟩ : ∃ N, N = w.heap.size := ⟨_, rfl⟩
  rw [<- hN] at x0 x1 x2 hz n1_ n2_ ⊢
  have q1 := ((HC.out.v.setO (o := 0) n1_.out (.slice A1 n1 c1)).setO (o := 1) n1_.out (.slice B1 m1 d1)).setO (o := 2) n1_.out (.slice none 0 0)
  have q2 := ((HC.out.k.setO (o := 0) n2_.out (.slice A1 n1 c1)).setO (o := 1) n2_.out (.slice B1 m1 d1)).setO (o := 2) n2_.out (.slice none 0 0)
  have hb := ((HB.out.setCell (p := ⟨N, 0, none⟩) (Nat.le_of_eq hN.symm) (.slice A1 n1 c1)).setCell (p := ⟨N, 1, none⟩) (Nat.le_of_eq hN.symm) (.slice B1 m1 d1)).setCell (p := ⟨N, 2, none⟩) (Nat.le_of_eq hN.symm) (.slice none 0 0)
  have s0 : (((w1.setCell ⟨N, 0, none⟩ (.slice A1 n1 c1)).setCell ⟨N, 1, none⟩ (.slice B1 m1 d1)).setCell ⟨N, 2, none⟩ (.slice none 0 0)).cell? ⟨N, 0, none⟩ = some (.slice A1 n1 c1) := cell_far (by simp) (cell_far (by simp) (cell_set x0))
  have s1 : (((w1.setCell ⟨N, 0, none⟩ (.slice A1 n1 c1)).setCell ⟨N, 1, none⟩ (.slice B1 m1 d1)).setCell ⟨N, 2, none⟩ (.slice none 0 0)).cell? ⟨N, 1, none⟩ = some (.slice B1 m1 d1) := cell_far (by simp) (cell_set (cell_far (by simp) x1))
  have s2 : (((w1.setCell ⟨N, 0, none⟩ (.slice A1 n1 c1)).setCell ⟨N, 1, none⟩ (.slice B1 m1 d1)).setCell ⟨N, 2, none⟩ (.slice none 0 0)).cell? ⟨N, 2, none⟩ = some (.slice none 0 0) := cell_set (cell_far (by simp) (cell_far (by simp) x2))
  refine bodyPost_ret (v := .agg #[.slice A1 n1 c1, .slice B1 m1 d1, .slice none 0 0]) (by simp [results, Tryz.results54, go_sem, s0, s1, s2]) rfl ?_
  exact ⟨_, rfl, hb, A1, n1, c1, B1, m1, d1, rfl, q1, q2⟩
end Go.Proofs.YtphhhnjeojdnkaaGreatDoor

/-
  Rules for ref12.Put: an append of nothing, a new cart's box.
-/
namespace Go.Proofs.YtphhhnjeojdnkaaGreatDoor
open Go.RowKit
def IsNewCart (B : Nat) (w : World) (v : Value) : Prop := ∃ p, v = .pointer (some ⟨p, 0, none⟩) ∧ B <= p ∧ p < w.heap.size ∧ w.cell? ⟨p, 0, none⟩ = some (.slice none 0 0) ∧ w.cell? ⟨p, 1, none⟩ = some (.slice none 0 0) ∧ w.cell? ⟨p, 2, none⟩ = some (.slice none 0 0) ∧ (∀ o, w.frozen? ⟨p, o, none⟩ = false) ∧ NoInt w p
instance (B : Nat) : Grows (IsNewCart B) := ⟨fun hb ⟨p, h1, h2, h3, h4, h5, h6, h7, h8⟩ => ⟨p, h1, h2, Nat.lt_of_lt_of_le h3 hb.size, cellKeep hb h4, cellKeep hb h5, cellKeep hb h6, fun o => (hb.frozen (p := ⟨p, o, none⟩) h3).trans (h7 o), h8.mono hb h3⟩⟩
section
variable {P : Program} {ops : List Oper} {Fs : List VT} {w0 : World} {a0 : Act} {i : Nat} {d : Option Tmp} {ty : TypeId} {pos : String} {after : Array Edge} {g : Option (Nat × Bool)}
theorem Ob.allocCart (hw : Wanted ops Fs w0 a0 i ⟨d, .alloc 63, ty, pos, after, g⟩) (_ : True) : Ob Tryz.prog ops Fs w0 a0 i ⟨d, .alloc 63, ty, pos, after, g⟩ (IsNewCart w0.heap.size) :=
  Ob.any hw fun a w cx => by
    refine ⟨.pointer (some ⟨w.heap.size, 0, none⟩), w.alloc cartBox, ?_, by go_grown, w.heap.size, rfl, cx.le.size, by simp, by simp [go_sem], by simp [go_sem], by simp [go_sem], fun o => by simp [go_sem], NoInt.cart w⟩
    simp [execOp, go_sem]
theorem srcNoneD (w : World) (A : Option Addr) (c : Nat) : Src Tryz.prog 2 57 (.slice A 0 c) 0 [] w :=
  ⟨.inl ⟨_, Tryz.underlying57⟩, fun w' => by simp [Builtin.lenOf], by cases A <;> simp [Builtin.firstCells, loadCells, loadCellsFrom], by cases A <;> simp [Builtin.firstCells, loadCells, loadCellsFrom], rfl, fun u hu => by cases hu⟩
theorem Ob.appNoneD {x y : Operand} {l : List Dot} (hw : Wanted ops Fs w0 a0 i ⟨d, .call ⟨.builtin .append, #[x, y], #[57, 57]⟩, ty, pos, after, g⟩)
    (hx : Has ops Fs w0 a0 i ⟨d, .call ⟨.builtin .append, #[x, y], #[57, 57]⟩, ty, pos, after, g⟩ x (IsDots l)) (hy : Has ops Fs w0 a0 i ⟨d, .call ⟨.builtin .append, #[x, y], #[57, 57]⟩, ty, pos, after, g⟩ y (Is (.slice none 0 0))) (_ : True) :
    Ob Tryz.prog ops Fs w0 a0 i ⟨d, .call ⟨.builtin .append, #[x, y], #[57, 57]⟩, ty, pos, after, g⟩ (IsDots l) :=
  Ob.stay hw fun a w cx => by
    obtain ⟨A, n, c, h1, hd⟩ := hx a w cx
    have h2 : a.eval y = .slice none 0 0 := hy a w cx
    obtain ⟨inf, hi, _, hs, _⟩ := info_parts (P := Tryz.prog) (show (Tryz.prog.info? 67).map (fun i => (i.zero, i.size, i.bytes)) = some (some (.agg #[.int .i64 0, .int .i64 0]), 2, 16) by kernel_rfl)
    have h3 := run_append_nothing w 57 57 ty 67 inf Tryz.underlying57 hi A n c hd.cap (.slice none 0 0) (by rw [hs]; exact srcNoneD w none 0)
    refine ⟨.slice A n c, ?_, A, n, c, rfl, hd⟩
    generalize a.eval = ρ at h1 h2
    simp [execOp, resolve, invoke, builtin, h1, h2, h3]
end
end Go.Proofs.YtphhhnjeojdnkaaGreatDoor

/-
  ref12.Put on an empty cart.
-/
namespace Go.Proofs.YtphhhnjeojdnkaaGreatDoor
open Go.RowKit
def RItemOK (nm : List UInt8) : Prop := ∀ w, Calls Tryz.prog 50 #[strV nm] w (Ret w (IsB true))
def RNoDots (nm : List UInt8) : Prop := ∀ w, Calls Tryz.prog 55 #[noCart, strV nm] w (Ret w (Is nilV))
abbrev putW (w : World) (r k : Int) : World := ((w.alloc cartBox).alloc (dotBox r k)).alloc cartBox
structure PutAt (N : Nat) (r k : Int) (w : World) : Prop where
  b0 : w.cell? ⟨N, 0, none⟩ = some nilV
  b1 : w.cell? ⟨N, 1, none⟩ = some nilV
  b2 : w.cell? ⟨N, 2, none⟩ = some nilV
  c0 : w.cell? ⟨N + 1, 0, none⟩ = some (.int .i64 r)
  c1 : w.cell? ⟨N + 1, 1, none⟩ = some (.int .i64 k)
  d0 : w.cell? ⟨N + 1 + 1, 0, none⟩ = some nilV
  d1 : w.cell? ⟨N + 1 + 1, 1, none⟩ = some nilV
  d2 : w.cell? ⟨N + 1 + 1, 2, none⟩ = some nilV
  fr : ∀ o, w.frozen? ⟨N + 1 + 1, o, none⟩ = false
  ni : NoInt w (N + 1 + 1)
theorem PutAt.mono {N : Nat} {r k : Int} {w w' : World} (h : PutAt N r k w) (hb : Below w.heap.size w w') : PutAt N r k w' :=
  ⟨cellKeep hb h.b0, cellKeep hb h.b1, cellKeep hb h.b2, cellKeep hb h.c0, cellKeep hb h.c1, cellKeep hb h.d0, cellKeep hb h.d1, cellKeep hb h.d2, fun o => (hb.frozen (p := ⟨N + 1 + 1, o, none⟩) (show N + 1 + 1 < w.heap.size from World.block_lt_of_cell? _ _ h.d0)).trans (h.fr o), h.ni.mono hb (World.block_lt_of_cell? _ _ h.d0)⟩
theorem noInt3 (w : World) (r k : Int) : NoInt (putW w r k) (w.heap.size + 1 + 1) := by
  have h := NoInt.cart ((w.alloc cartBox).alloc (dotBox r k))
  have hz : ((w.alloc cartBox).alloc (dotBox r k)).heap.size = w.heap.size + 1 + 1 := by simp
  rw [hz] at h
  exact h
theorem putAt (w : World) (r k : Int) : PutAt w.heap.size r k (putW w r k) :=
  ⟨by simp [go_sem], by simp [go_sem], by simp [go_sem], by simp [go_sem], by simp [go_sem], by simp [go_sem], by simp [go_sem], by simp [go_sem], fun o => by simp [go_sem], noInt3 w r k⟩
theorem load_cart0 {w0 w : World} {N : Nat} (hb : Below w0.heap.size w0 w) (h0 : w0.cell? ⟨N, 0, none⟩ = some nilV) (h1 : w0.cell? ⟨N, 1, none⟩ = some nilV) (h2 : w0.cell? ⟨N, 2, none⟩ = some nilV) : (Instr.loadAt 63 (.pointer (some ⟨N, 0, none⟩))).run Tryz.prog w = .ok noCart w := by
  have c1 := cellKeep hb h0
  have c2 := cellKeep hb h1
  have c3 := cellKeep hb h2
  simp [go_sem, c1, c2, c3]
theorem enters55 : Enters Tryz.prog 55 := enters_of Tryz.func55 (by kernel_rfl) rfl
theorem enters54 : Enters Tryz.prog 54 := enters_of Tryz.func54 (by kernel_rfl) rfl
theorem goneI {d : Dot} {w : World} {u : Value} (hu : IsDots [d] w u) (hv : validD d = true) : Calls Tryz.prog 54 #[u] w (Ret w (IsGone (addC ([], []) [d]))) := by
  obtain ⟨A, n, c, rfl, hd⟩ := hu
  exact rGone hd hv
theorem rPut {r k q : Int} {nm : List UInt8} (hv : validD (r, k) = true) (hq : qtyS q = true) (hn : RItemOK nm) (hd : RNoDots nm) (w : World) :
    Calls Tryz.prog 25 #[.agg #[nilV, nilV, nilV], .agg #[.int .i64 r, .int .i64 k], strV nm, .int .i64 q, .bool false] w (Ret w (IsPair (fun w v => ∃ A n ca B m cb bi bm, v = .agg (cartA A n ca B m cb bi) ∧ C1 w A n ca B m cb (addC ([], []) [(r, k)]) bi bm nm ⟨r, k, q, 1⟩) 0)) := by
  have HV := Lib.hid hv; have HQ := Lib.hid (fun w => by have := rqty q w; rw [hq] at this; exact this); have NM := Lib.hid hn; have ND := Lib.hid hd
  have CT := Lib.hid no_rt; have CF := Lib.hid (fun w => rFresh hv w); have FI := Lib.hid (rFind0 nm)
  have M := Lib.hid (putAt w r k)
  have HX := Lib.hid (show Below w.heap.size w (putW w r k) by go_grown)
  clear hv hq hn hd
  go_enter Tryz.func25, Tryz.ntmps25
  go_wp2_with fail
  refine (CF.out _).mono ?_
  rintro _ w1 ⟨_, rfl, hb1, rfl⟩
  have M1 := Lib.hid (M.out.mono hb1); have HB1 := Lib.hid (HX.out.le hb1)
  clear hb1
  obtain ⟨N, hN⟩ : ∃ N, N = w.heap.size := ⟨_, rfl⟩
  rw [<- hN] at M1 ⊢
  have EN := Lib.hid hN
  clear hN
  go_wp2_with fail
  refine (NM.out _).mono ?_
  rintro _ w2 ⟨_, rfl, hb2, rfl⟩
  have M2 := Lib.hid (M1.out.mono hb2); have HB2 := Lib.hid (HB1.out.le hb2)
  clear hb2
  go_wp2_with fail
  refine (HQ.out _).mono ?_
  rintro _ w3 ⟨_, rfl, hb3, rfl⟩
  have M3 := Lib.hid (M2.out.mono hb3); have HB3 := Lib.hid (HB2.out.le hb3)
  clear hb3
  have b1 := M3.out.b1; have b2 := M3.out.b2
  go_wp2_with fail
  refine (FI.out _).mono ?_
  rintro _ w4 ⟨_, rfl, hb4, rfl⟩
  have M4 := Lib.hid (M3.out.mono hb4); have HB4 := Lib.hid (HB3.out.le hb4)
  clear hb4 b1 b2
  have b0 := M4.out.b0; have b1 := M4.out.b1; have b2 := M4.out.b2
  go_wp2_with fail
  refine (CT.out _).mono ?_
  rintro _ w5 ⟨_, rfl, hb5, rfl⟩
  have M5 := Lib.hid (M4.out.mono hb5); have HB5 := Lib.hid (HB4.out.le hb5)
  clear hb5 b0 b1 b2
  have C0 := Lib.hid M5.out.c0; have C1_ := Lib.hid M5.out.c1; have D0 := Lib.hid M5.out.b0; have D1 := Lib.hid M5.out.b1; have D2 := Lib.hid M5.out.b2
  go_wp2_with fail
  refine wp_region_MT 8 mixed (by kernel_rfl) (by kernel_rfl) ?_
  refine MDerT.step (Ob.loadV Wanted.free Has.oldIs (fun w1 hb1 => load_dot hb1 C0.out C1_.out)) ?_
  refine MDerT.step (Ob.mkDots157 Wanted.free (Has.new 0 0)) ?_
  refine MDerT.step (Ob.loadV Wanted.free Has.oldIs (fun w1 hb1 => load_cart0 hb1 D0.out D1.out D2.out)) ?_
  refine MDerT.step (Ob.move Wanted.free Has.oldIs) ?_
  refine MDerT.step (Ob.call2V Wanted.free enters55 (Has.new 2 1) (Has.new 3 0) (fun w1 hb1 => ND.out w1)) ?_
  refine MDerT.step (Ob.appNoneD Wanted.free (Has.new 1 3) (Has.new 4 0) trivial) ?_
  refine MDerT.step (Ob.call1 Wanted.free enters54 (Has.new 5 0) (fun w1 u hb1 hu => goneI hu HV.out)) ?_
  refine MDerT.step (Ob.allocCart Wanted.free  trivial) ?_
  simp only [MDerT, dstsOf, List.map, EndM, List.reverse_cons, List.reverse_nil, List.nil_append, List.cons_append, List.take_succ_cons, List.take_zero, List.drop_succ_cons, List.drop_zero]
  intro wE hE
  iterate 1 (rintro _ rfl)
  rintro _ _h1
  iterate 3 (rintro _ rfl)
  rintro _ _h5
  rintro _ ⟨A6, n6, c6, B6, m6, d6, rfl, h6⟩
  rintro _ ⟨p, rfl, hp⟩
  simp only [Act.put, List.setIfInBounds_toArray, List.set_cons_zero, List.set_cons_succ]
  obtain ⟨hp1, hp2, p0, p1, p2, pf, pn⟩ := hp
  have pf0 := pf 0; have pf1 := pf 1; have pf2 := pf 2
  have ME := Lib.hid (M5.out.mono hE); have HE := Lib.hid (HB5.out.le hE)
  have S5 := Lib.hid (show N + 1 + 1 < w5.heap.size from World.block_lt_of_cell? _ _ M5.out.d0)
  have H6 := Lib.hid h6; have PN := Lib.hid pn; have HP1 := Lib.hid hp1
  clear hE h6 pn hp1 pf _h1 _h5
  have e0 : N ≠ p := by have := S5.out; have := HP1.out; omega
  have e1 : N + 1 ≠ p := by have := S5.out; have := HP1.out; omega
  have e2 : N + 1 + 1 ≠ p := by have := S5.out; have := HP1.out; omega
  have x0 := ME.out.c0; have x1 := ME.out.c1
  have y0 := ME.out.d0; have y1 := ME.out.d1; have y2 := ME.out.d2
  have yf0 := ME.out.fr 0; have yf1 := ME.out.fr 1; have yf2 := ME.out.fr 2
  have hs : N + 1 + 1 < wE.heap.size := World.block_lt_of_cell? _ _ ME.out.d0
  have hs1 : N + 1 < wE.heap.size := by omega
  refine wpList_store rfl rfl rfl rfl rfl (w' := ((wE.setCell ⟨p, 0, none⟩ (.slice A6 n6 c6)).setCell ⟨p, 1, none⟩ (.slice B6 m6 d6)).setCell ⟨p, 2, none⟩ (.slice none 0 0)) (by simp [go_sem, p0, p1, p2, pf0, pf1, pf2]) ?_
  have NI := Lib.hid ME.out.ni
  have n1_ := Lib.hid (H6.out.v.noInt PN.out); have n2_ := Lib.hid (H6.out.k.noInt PN.out)
  have n3_ := Lib.hid (H6.out.v.noInt NI.out); have n4_ := Lib.hid (H6.out.k.noInt NI.out)
  have q1 := ((H6.out.v.setO (o := 0) n1_.out (.slice A6 n6 c6)).setO (o := 1) n1_.out (.slice B6 m6 d6)).setO (o := 2) n1_.out (.slice none 0 0)
  have q2 := ((H6.out.k.setO (o := 0) n2_.out (.slice A6 n6 c6)).setO (o := 1) n2_.out (.slice B6 m6 d6)).setO (o := 2) n2_.out (.slice none 0 0)
  have hpw : w.heap.size <= p := by have := S5.out; have := HP1.out; have := EN.out; omega
  have hb := ((HE.out.setCell (p := ⟨p, 0, none⟩) hpw (.slice A6 n6 c6)).setCell (p := ⟨p, 1, none⟩) hpw (.slice B6 m6 d6)).setCell (p := ⟨p, 2, none⟩) hpw (.slice none 0 0)
  have s0 : (((wE.setCell ⟨p, 0, none⟩ (.slice A6 n6 c6)).setCell ⟨p, 1, none⟩ (.slice B6 m6 d6)).setCell ⟨p, 2, none⟩ (.slice none 0 0)).cell? ⟨p, 0, none⟩ = some (.slice A6 n6 c6) := cell_far (by simp) (cell_far (by simp) (cell_set p0))
  have s1 : (((wE.setCell ⟨p, 0, none⟩ (.slice A6 n6 c6)).setCell ⟨p, 1, none⟩ (.slice B6 m6 d6)).setCell ⟨p, 2, none⟩ (.slice none 0 0)).cell? ⟨p, 1, none⟩ = some (.slice B6 m6 d6) := cell_far (by simp) (cell_set (cell_far (by simp) p1))
  have s2 : (((wE.setCell ⟨p, 0, none⟩ (.slice A6 n6 c6)).setCell ⟨p, 1, none⟩ (.slice B6 m6 d6)).setCell ⟨p, 2, none⟩ (.slice none 0 0)).cell? ⟨p, 2, none⟩ = some (.slice none 0 0) := cell_set (cell_far (by simp) (cell_far (by simp) p2))
  have g2 : (((wE.setCell ⟨p, 0, none⟩ (.slice A6 n6 c6)).setCell ⟨p, 1, none⟩ (.slice B6 m6 d6)).setCell ⟨p, 2, none⟩ (.slice none 0 0)).frozen? ⟨p, 2, none⟩ = false := by simp [pf2]
  have far : ∀ {b o : Nat} {u : Value}, b ≠ p -> wE.cell? ⟨b, o, none⟩ = some u -> (((wE.setCell ⟨p, 0, none⟩ (.slice A6 n6 c6)).setCell ⟨p, 1, none⟩ (.slice B6 m6 d6)).setCell ⟨p, 2, none⟩ (.slice none 0 0)).cell? ⟨b, o, none⟩ = some u := fun hb h => cell_far (fun e => hb (congrArg Addr.block e).symm) (cell_far (fun e => hb (congrArg Addr.block e).symm) (cell_far (fun e => hb (congrArg Addr.block e).symm) h))
  have z0 := far e1 x0; have z1 := far e1 x1; have t0 := far e2 y0; have t1 := far e2 y1; have t2 := far e2 y2
  have tf0 : (((wE.setCell ⟨p, 0, none⟩ (.slice A6 n6 c6)).setCell ⟨p, 1, none⟩ (.slice B6 m6 d6)).setCell ⟨p, 2, none⟩ (.slice none 0 0)).frozen? ⟨N + 1 + 1, 0, none⟩ = false := by simp [yf0]
  have tf1 : (((wE.setCell ⟨p, 0, none⟩ (.slice A6 n6 c6)).setCell ⟨p, 1, none⟩ (.slice B6 m6 d6)).setCell ⟨p, 2, none⟩ (.slice none 0 0)).frozen? ⟨N + 1 + 1, 1, none⟩ = false := by simp [yf1]
  have tf2 : (((wE.setCell ⟨p, 0, none⟩ (.slice A6 n6 c6)).setCell ⟨p, 1, none⟩ (.slice B6 m6 d6)).setCell ⟨p, 2, none⟩ (.slice none 0 0)).frozen? ⟨N + 1 + 1, 2, none⟩ = false := by simp [yf2]
  have ez : (((wE.setCell ⟨p, 0, none⟩ (.slice A6 n6 c6)).setCell ⟨p, 1, none⟩ (.slice B6 m6 d6)).setCell ⟨p, 2, none⟩ (.slice none 0 0)).heap.size = wE.heap.size := by simp
  clear far p0 p1 p2 pf0 pf1 pf2 x0 x1 y0 y1 y2 yf0 yf1 yf2 ME HE H6 PN NI
  generalize ((wE.setCell ⟨p, 0, none⟩ (.slice A6 n6 c6)).setCell ⟨p, 1, none⟩ (.slice B6 m6 d6)).setCell ⟨p, 2, none⟩ (.slice none 0 0) = w7 at *
  rw [<- ez] at hp2 hs hs1
  have Q1 := Lib.hid q1; have Q2 := Lib.hid q2; have HB := Lib.hid hb; have EZ := Lib.hid ez
  clear q1 q2 hb ez
  have hp3 : p < w7.heap.size + 1 := by omega
  have hs2 : N + 1 + 1 < w7.heap.size + 1 := by omega
  have hs3 : N + 1 < w7.heap.size + 1 := by omega
  have e2' : p ≠ N + 1 + 1 := fun e => e2 e.symm
  refine wpList_nil ?_
  go_wp2
  obtain ⟨I, hI⟩ : ∃ I, I = Value.slice (some ⟨w7.heap.size + 1, 0, none⟩) 1 1 := ⟨_, rfl⟩
  rw [<- hI]
  obtain ⟨M, hM⟩ : ∃ M, M = N + 1 + 1 := ⟨_, rfl⟩
  rw [<- hM] at t0 t1 t2 e2' ⊢
  rw [<- hM] at n3_ n4_
  have hMw : w.heap.size <= M := by have := EN.out; omega
  have q1 := (((Q1.out.setO (o := 2) n1_.out I).setO (o := 0) n3_.out (.slice A6 n6 c6)).setO (o := 1) n3_.out (.slice B6 m6 d6)).setO (o := 2) n3_.out I
  have q2 := (((Q2.out.setO (o := 2) n2_.out I).setO (o := 0) n4_.out (.slice A6 n6 c6)).setO (o := 1) n4_.out (.slice B6 m6 d6)).setO (o := 2) n4_.out I
  have hb := (((HB.out.setCell (p := ⟨p, 2, none⟩) hpw I).setCell (p := ⟨M, 0, none⟩) hMw (.slice A6 n6 c6)).setCell (p := ⟨M, 1, none⟩) hMw (.slice B6 m6 d6)).setCell (p := ⟨M, 2, none⟩) hMw I
  have hpM : ∀ o, (⟨p, 2, none⟩ : Addr) ≠ ⟨M, o, none⟩ := fun o e => e2' (congrArg Addr.block e)
  have u0 : ((((w7.setCell ⟨p, 2, none⟩ I).setCell ⟨M, 0, none⟩ (.slice A6 n6 c6)).setCell ⟨M, 1, none⟩ (.slice B6 m6 d6)).setCell ⟨M, 2, none⟩ I).cell? ⟨M, 0, none⟩ = some (.slice A6 n6 c6) := cell_far (by simp) (cell_far (by simp) (cell_set (cell_far (hpM 0) t0)))
  have u1 : ((((w7.setCell ⟨p, 2, none⟩ I).setCell ⟨M, 0, none⟩ (.slice A6 n6 c6)).setCell ⟨M, 1, none⟩ (.slice B6 m6 d6)).setCell ⟨M, 2, none⟩ I).cell? ⟨M, 1, none⟩ = some (.slice B6 m6 d6) := cell_far (by simp) (cell_set (cell_far (by simp) (cell_far (hpM 1) t1)))
  have u2 : ((((w7.setCell ⟨p, 2, none⟩ I).setCell ⟨M, 0, none⟩ (.slice A6 n6 c6)).setCell ⟨M, 1, none⟩ (.slice B6 m6 d6)).setCell ⟨M, 2, none⟩ I).cell? ⟨M, 2, none⟩ = some I := cell_set (cell_far (by simp) (cell_far (by simp) (cell_far (hpM 2) t2)))
  have ex : ((((w7.setCell ⟨p, 2, none⟩ I).setCell ⟨M, 0, none⟩ (.slice A6 n6 c6)).setCell ⟨M, 1, none⟩ (.slice B6 m6 d6)).setCell ⟨M, 2, none⟩ I).heap.size = w7.heap.size := by simp
  have IH := Lib.hid hI
  clear hI hs hs1 hs2 hs3 hp2 hp3 s0 s1 s2 g2 z0 z1 t0 t1 t2 tf0 tf1 tf2 Q1 Q2 n1_ n2_ n3_ n4_ HB hpM e0 e1 e2 e2'
  generalize (((w7.setCell ⟨p, 2, none⟩ I).setCell ⟨M, 0, none⟩ (.slice A6 n6 c6)).setCell ⟨M, 1, none⟩ (.slice B6 m6 d6)).setCell ⟨M, 2, none⟩ I = wx at *
  have ha : Below wx.heap.size wx ((wx.alloc (.cells #[.int .i64 r, .int .i64 k, .int .i64 q, .int .u64 1] 112)).alloc (.cells #[strV nm, .slice (some ⟨w7.heap.size, 0, none⟩) 1 1] 115)) := by go_grown
  have v0 := cellKeep ha u0
  have v1 := cellKeep ha u1
  have v2 := cellKeep ha u2
  have item : I1 ((wx.alloc (.cells #[.int .i64 r, .int .i64 k, .int .i64 q, .int .u64 1] 112)).alloc (.cells #[strV nm, .slice (some ⟨w7.heap.size, 0, none⟩) 1 1] 115)) (w7.heap.size + 1) w7.heap.size nm ⟨r, k, q, 1⟩ := by
    rw [<- ex]
    exact ⟨by simp, by simp [go_sem], by simp [go_sem], ⟨by simp <;> omega, by simp [go_sem], by simp [go_sem], by simp [go_sem], by simp [go_sem]⟩⟩
  refine bodyPost_ret (v := .tuple #[.agg #[.slice A6 n6 c6, .slice B6 m6 d6, I], .int .i64 0]) (by simp [results, Tryz.results25, go_sem, v0, v1, v2]) rfl ?_
  exact ⟨_, rfl, hb.le ha, _, rfl, A6, n6, c6, B6, m6, d6, _, _, by rw [IH.out], ⟨q1.mono ha, q2.mono ha⟩, item⟩
end Go.Proofs.YtphhhnjeojdnkaaGreatDoor

/-
  ref30.Batch: codes that are allowed.
-/
namespace Go.Proofs.YtphhhnjeojdnkaaGreatDoor
open Go.RowKit
theorem enters28 : Enters Tryz.prog 28 := enters_of Tryz.func28 (by kernel_rfl) rfl
theorem enters27 : Enters Tryz.prog 27 := enters_of Tryz.func27 (by kernel_rfl) rfl
theorem rbodyL {n m ca cb bi bm N : Nat} {ky : List UInt8} {A B : Option Addr} {c : Ctx} {nm : List UInt8} {x k q t : Nat} {w : World} {u : Value} (h : CartOK w A n ca B m cb c bi bm nm x k q t) (hu : IsEntL ky A n ca B m cb bi w u) (hn : n <= 1000) (hm : m <= 1000) (hl : ky.length <= 64) (hN : N <= w.heap.size) :
    Calls Tryz.prog 27 #[u] w (Ret w (IsOwnB N (entryB ky c nm ⟨x, k, q, t⟩))) := by
  obtain ⟨be, rfl, e⟩ := hu
  exact (rbody h e hn hm hl).mono fun _ _ ⟨v, e, hb, ho⟩ => ⟨v, e, hb, OwnSl.low ho hN⟩
theorem entryB_len {c : Ctx} {w : World} {A B : Option Addr} {n m ca cb bi bm : Nat} {nm ky : List UInt8} {x k q t : Nat} (h : CartOK w A n ca B m cb c bi bm nm x k q t) (hn : n <= 1000) (hm : m <= 1000) (hl : ky.length <= 64) : (entryB ky c nm ⟨x, k, q, t⟩).length <= 1000000 := by
  have WL := wholeB_len h
  have h1 := strB_len (l := ky) (by omega)
  have h2 := num1_len
  unfold entryB
  simp only [List.length_append]
  omega
theorem rBatch {a i k q : Nat} (ha : a <= 3) (hi : i <= 3) (hk : 1 <= k) (hk2 : k <= 4294967295) (hq : 1 <= q) (hq2 : q <= 2147483647) {ky nm : List UInt8} (hkl : ky = letter 97 a) (hnl : nm = letter 119 i) (hN : NameOK nm) (hI : RItemOK nm) (hD : RNoDots nm) (hl1 : ky.length <= 64) (hl2 : nm.length <= 100) (w : World) :
    Calls Tryz.prog 11 #[.int .i64 (a : Int), .int .i64 (i : Int), .int .i64 (k : Int), .int .i64 (q : Int)] w (Ret w (IsOwnB w.heap.size (batchB ky (addC ([], []) [(((50000 + 4 * a + i : Nat) : Int), (k : Int))]) nm ⟨((50000 + 4 * a + i : Nat) : Int), k, q, 1⟩))) := by
  have O1 := Lib.hid (fun w => ritem i w); have O2 := Lib.hid (fun w => rkey a w)
  rw [<- hnl] at O1
  rw [<- hkl] at O2
  obtain ⟨r, hr⟩ : ∃ r, r = 50000 + 4 * a + i := ⟨_, rfl⟩
  have hv : validD ((r : Int), (k : Int)) = true := validD_iff.2 ⟨by simp; omega, by simp; omega, by simp; omega, by simp; omega⟩
  have hqs : qtyS (q : Int) = true := by simp [qtyS]; omega
  rw [<- hr]
  have hri : (r : Int) = 50000 + 4 * (a : Int) + (i : Int) := by omega
  have CA := Lib.hid (rPut hv hqs hI hD)
  have BC := Lib.hid (add_ok hv hqs hN)
  have AO := Lib.hid (add_one hv)
  have HV := Lib.hid hv; have L2 := Lib.hid hl2; have QS := Lib.hid hqs
  have L1 := Lib.hid hl1; have HR := Lib.hid hri
  have KB := Lib.hid hk2
  clear hkl hnl hI hN hD hl1 hl2 hr hv hqs hri
  go_enter Tryz.func11, Tryz.ntmps11
  go_wp2_with fail
  refine (O1.out w).mono ?_
  rintro _ w1 ⟨_, rfl, hb1, rfl⟩
  have B1 := Lib.hid hb1
  clear hb1
  go_wp2_with fail
  rw [<- HR.out]
  refine (CA.out w1).mono ?_
  rintro _ w2 ⟨_, rfl, hb2, _, rfl, A, n, ca, B, m, cb, bi, bm, rfl, hc⟩
  have hlens : n <= 10 ∧ m <= 10 := by
    have h1 := hc.con.v.len; have h2 := hc.con.k.len
    rcases AO.out with e | e <;> rw [e] at h1 h2 <;> simp at h1 h2 <;> omega
  have hok : CartOK w2 A n ca B m cb (addC ([], []) [((r : Int), (k : Int))]) bi bm nm r k q 1 := by
    refine ⟨hc, BC.out, ?_, ?_, ?_, ?_, ?_, ?_, by omega⟩
    · rcases AO.out with e | e <;> rw [e] <;> simp [HV.out]
    · rcases AO.out with e | e <;> rw [e] <;> simp [HV.out]
    · have := L2.out; omega
    · have := validD_iff.1 HV.out; simp at this; omega
    · have := KB.out; omega
    · have := QS.out; simp [qtyS] at this; omega
  have B2 := Lib.hid (B1.out.le hb2); have CK := Lib.hid hok; have LN := Lib.hid hlens
  clear hb2 hc hok hlens
  go_wp2_with fail
  obtain ⟨Z, hZ⟩ : ∃ Z, Z = w2.heap.size := ⟨_, rfl⟩
  have hb3 : Below w2.heap.size w2 (w2.alloc (.cells (cartA A n ca B m cb bi) 63)) := by go_grown
  have y0 : (w2.alloc (.cells (cartA A n ca B m cb bi) 63)).cell? ⟨Z, 0, none⟩ = some (.slice A n ca) := by rw [hZ]; simp [go_sem]
  have y1 : (w2.alloc (.cells (cartA A n ca B m cb bi) 63)).cell? ⟨Z, 1, none⟩ = some (.slice B m cb) := by rw [hZ]; simp [go_sem]
  have y2 : (w2.alloc (.cells (cartA A n ca B m cb bi) 63)).cell? ⟨Z, 2, none⟩ = some (.slice (some ⟨bi, 0, none⟩) 1 1) := by rw [hZ]; simp [go_sem]
  have B3 := Lib.hid (B2.out.le hb3); have CK3 := Lib.hid (CK.out.mono hb3)
  rw [<- hZ]
  clear hZ hb3
  generalize w2.alloc (.cells (cartA A n ca B m cb bi) 63) = w3 at *
  have Y0 := Lib.hid y0; have Y1 := Lib.hid y1; have Y2 := Lib.hid y2
  clear y0 y1 y2
  have EL := Lib.hid (show (entryB ky (addC ([], []) [((r : Int), (k : Int))]) nm ⟨r, k, q, 1⟩).length <= 1000000 from entryB_len (ky := ky) CK.out (by have := LN.out; omega) (by have := LN.out; omega) L1.out)
  obtain ⟨BB, hBB⟩ : ∃ BB, BB = entryB ky (addC ([], []) [((r : Int), (k : Int))]) nm ⟨r, k, q, 1⟩ := ⟨_, rfl⟩
  have EC := Lib.hid (fun (w1 : World) (u : Value) (hb1 : Below w3.heap.size w3 w1) (hu : IsEntL ky A n ca B m cb bi w1 u) => show Calls Tryz.prog 27 #[u] w1 (Ret w1 (IsOwnB w.heap.size BB)) by
    rw [hBB]
    exact rbodyL (CK3.out.mono hb1) hu (by have := LN.out; omega) (by have := LN.out; omega) L1.out (by have := B3.out.size; have := hb1.size; omega))
  rw [<- hBB] at EL
  have EBB : Hid (batchB ky (addC ([], []) [((r : Int), (k : Int))]) nm ⟨r, k, q, 1⟩ = BB ++ sumB (crcS BB)) := Lib.hid (by rw [hBB]; rfl)
  clear hBB
  rw [EBB.out]
  refine wp_region_M mixed (by kernel_rfl) ?_
  refine MDerR.step (Ob.move Wanted.free Has.oldIs) ?_
  refine MDerR.step (Ob.call1V Wanted.free enters28 (Has.new 0 0) (fun w1 hb1 => O2.out w1)) ?_
  refine MDerR.step (Ob.loadV Wanted.free Has.oldIs (fun w1 hb1 => load_cart hb1 Y0.out Y1.out Y2.out)) ?_
  refine MDerR.step (Ob.mkEnt Wanted.free (Has.new 1 1) (Has.new 2 0) trivial) ?_
  refine MDerR.step (Ob.mkEntL Wanted.free (Has.new 3 0) trivial) ?_
  refine MDerR.step (Ob.call1 Wanted.free enters27 (Has.new 4 0) (fun w1 u hb1 hu => EC.out w1 u hb1 hu)) ?_
  refine MDerR.step (Ob.assign Wanted.free (Has.new 5 0)) ?_
  simp only [MDerR, dstsOf, List.map, EndM, List.reverse_cons, List.reverse_nil, List.nil_append, List.cons_append]
  intro wE hE
  iterate 4 (rintro _ rfl)
  rintro _ _h4
  rintro _ h5
  rintro _ h6
  simp only [Act.put, List.setIfInBounds_toArray, List.set_cons_zero, List.set_cons_succ]
  rename_i v6
  obtain ⟨A6, c6, rfl, s6⟩ := OwnSl.sl h6
  have HB := Lib.hid (B3.out.le hE); have S6 := Lib.hid s6
  have NL := Lib.hid (show BB.length <= 9223372036854775807 by have := EL.out; omega)
  clear hE _h4 h5 h6 s6
  go_wp2_with fail
  refine (rsum _ _ _ _ _ S6.out).mono ?_
  rintro _ w7 ⟨_, rfl, hb7, rfl⟩
  have S7 := Lib.hid (S6.out.mono hb7); have HB7 := Lib.hid (HB.out.le hb7)
  clear hb7
  go_wp2_with fail
  refine (rend _ _ _ _ _ _ S7.out EL.out).mono ?_
  rintro _ w8 ⟨v8, rfl, hb8, ho8⟩
  have HB8 := Lib.hid (HB7.out.le hb8)
  have HO := Lib.hid (OwnSl.low ho8 HB7.out.size)
  clear hb8 ho8
  go_wp2
  go_ret
  exact ⟨_, rfl, HB8.out, by rw [EBB.out]; exact HO.out⟩
end Go.Proofs.YtphhhnjeojdnkaaGreatDoor

/-
  script.Batch and ref30.Batch by their codes.
-/
namespace Go.Proofs.YtphhhnjeojdnkaaGreatDoor
open Go.RowKit
theorem item_cases {Q : List UInt8 -> Prop} (i : Nat) (h0 : Q [119]) (h1 : Q [120]) (h2 : Q [121]) (h3 : Q [122]) : Q (letter 119 i) := by
  unfold letter
  have h4 : i % 4 = 0 ∨ i % 4 = 1 ∨ i % 4 = 2 ∨ i % 4 = 3 := by omega
  rcases h4 with h | h | h | h <;> rw [h]
  · exact h0
  · exact h1
  · exact h2
  · exact h3
theorem key_cases {Q : List UInt8 -> Prop} (i : Nat) (h0 : Q [97]) (h1 : Q [98]) (h2 : Q [99]) (h3 : Q [100]) : Q (letter 97 i) := by
  unfold letter
  have h4 : i % 4 = 0 ∨ i % 4 = 1 ∨ i % 4 = 2 ∨ i % 4 = 3 := by omega
  rcases h4 with h | h | h | h <;> rw [h]
  · exact h0
  · exact h1
  · exact h2
  · exact h3
theorem nameL (i : Nat) : NameOK (letter 119 i) := item_cases (Q := NameOK) i item119 item120 item121 item122
theorem rnameL (i : Nat) : RItemOK (letter 119 i) := item_cases (Q := RItemOK) i ritem119 ritem120 ritem121 ritem122
theorem nodotsL (i : Nat) : NoDots (letter 119 i) := item_cases (Q := NoDots) i no_cd119 no_cd120 no_cd121 no_cd122
theorem rnodotsL (i : Nat) : RNoDots (letter 119 i) := item_cases (Q := RNoDots) i no_rd119 no_rd120 no_rd121 no_rd122
theorem keyL (i : Nat) : KeyOK (letter 97 i) := key_cases (Q := KeyOK) i key97 key98 key99 key100
theorem letter_len (b n : Nat) : (letter b n).length = 1 := rfl
theorem cBatchOf {a i k q : Nat} (ha : a <= 3) (hi : i <= 3) (hk : 1 <= k) (hk2 : k <= 4294967295) (hq : 1 <= q) (hq2 : q <= 2147483647) (w : World) :
    Calls Tryz.prog 10 #[.int .i64 (a : Int), .int .i64 (i : Int), .int .i64 (k : Int), .int .i64 (q : Int)] w (Ret w (IsPair (IsOwnB w.heap.size (batchOf a i k q)) 0)) :=
  cBatch ha hi hk hk2 hq hq2 rfl rfl (keyL a) (nameL i) (nodotsL i) (by rw [letter_len]; omega) (by rw [letter_len]; omega) w
theorem rBatchOf {a i k q : Nat} (ha : a <= 3) (hi : i <= 3) (hk : 1 <= k) (hk2 : k <= 4294967295) (hq : 1 <= q) (hq2 : q <= 2147483647) (w : World) :
    Calls Tryz.prog 11 #[.int .i64 (a : Int), .int .i64 (i : Int), .int .i64 (k : Int), .int .i64 (q : Int)] w (Ret w (IsOwnB w.heap.size (batchOf a i k q))) :=
  rBatch ha hi hk hk2 hq hq2 rfl rfl (nameL i) (rnameL i) (rnodotsL i) (by rw [letter_len]; omega) (by rw [letter_len]; omega) w
end Go.Proofs.YtphhhnjeojdnkaaGreatDoor

/-
  script.start, script.deliver.
-/
namespace Go.Proofs.YtphhhnjeojdnkaaGreatDoor
open Go.RowKit
abbrev opVE (s : OpE) : Value := .agg (opCellsE s)
theorem cstart (c : CallS) (A : Option Addr) (n m : Nat) (w : World) : Calls Tryz.prog 35 #[callV c A n m] w (Ret w (Is (opVE ⟨⟨1, 0, c⟩, A, n, m⟩))) := by
  obtain ⟨o, k1, k2, k3, q, l⟩ := c
  unfold callV opVE opCellsE
  simp only
  go_enter Tryz.func35, Tryz.ntmps35
  go_wp2
  refine bodyPost_ret (v := .agg #[.int .i64 1, .int .i64 0, .int .i64 o, strV k1, strV k2, strV k3, .int .i64 q, .slice A n m]) (by simp [results, Tryz.results35, go_sem]) rfl ?_
  exact ⟨_, rfl, by go_grown, rfl⟩
def deliverS (h : Nat) (l : List UInt8) : CallS × Nat :=
  if h = 15 then (⟨8, [], [], [], 0, [UInt8.ofNat (byteAt l 0), UInt8.ofNat (byteAt l 1)]⟩, 2)
  else (⟨8, [], [], [], 0, batchOf (byteAt l 0 % 4) (byteAt l 0 / 4 % 4) (byteAt l 1 + 1) (byteAt l 2 + 1)⟩, 3)
structure RdPost (B N : Nat) (l : List UInt8) (k : Nat) (A : Option Addr) (n m : Nat) (d : List UInt8) (w w' : World) : Prop where
  wr : Wrote N none w w'
  rb : RB B N (l.drop k) w'
  sl : Sl encB w' A n m d
  off : ∀ a, A = some a -> w.heap.size <= a.block ∧ a.block < w'.heap.size
abbrev nextV (N : Nat) : Value := .func (.func 34) #[.pointer (some ⟨N, 0, none⟩)] #[]
theorem cdeliver (B N h : Nat) (hh : h < 16) (l : List UInt8) (w : World) (hr : RB B N l w) (hB : B <= w.heap.size) : Calls Tryz.prog 36 #[.int .i64 (h : Int), nextV N] w
    (fun e w' => ∃ A n m, e = .returned (callV (deliverS h l).1 A n m) ∧ RdPost B N l (deliverS h l).2 A n m (deliverS h l).1.data w w') := by
  have HX := Lib.hid (show Below w.heap.size w (w.alloc (.cells #[.int .i64 0, .string ⟨#[]⟩, .string ⟨#[]⟩, .string ⟨#[]⟩, .int .i64 0, .slice none 0 0] 39)) by go_grown)
  have BX := Lib.hid (Bx.new w #[.int .i64 0, .string ⟨#[]⟩, .string ⟨#[]⟩, .string ⟨#[]⟩, .int .i64 0, .slice none 0 0] 39)
  have R0 := Lib.hid (hr.keep (below_low HX.out hB) hB)
  have HB := Lib.hid hB; have HN := Lib.hid hr.lt
  clear hr hB
  by_cases h15 : h = 15
  · subst h15
    clear hh
    go_enter Tryz.func36, Tryz.ntmps36
    go_wp2_with fail
    refine (rnextB B N l _ R0.out).mono ?_
    rintro _ w1 ⟨rfl, hw1, hr1⟩
    have W1 := Lib.hid ((Wrote.ofBelow HX.out : Wrote N none w _).trans hw1 (.inl rfl))
    have R1 := Lib.hid hr1
    have X1 := Lib.hid (BX.out.wrote hw1 (by have := HB.out; have := HN.out; omega) (by simp))
    clear hw1 hr1
    go_wp2_with fail
    refine (rnextB B N _ _ R1.out).mono ?_
    rintro _ w2 ⟨rfl, hw2, hr2⟩
    have W2 := Lib.hid (W1.out.trans hw2 (.inl rfl))
    have R2 := Lib.hid hr2
    have X2 := Lib.hid (X1.out.wrote hw2 (by have := HB.out; have := HN.out; omega) (by simp))
    clear hw2 hr2
    rw [byteAt_tail]
    have hp := byteAt_lt l 0; have hq := byteAt_lt l 1
    obtain ⟨p, ep⟩ : ∃ p, p = byteAt l 0 := ⟨_, rfl⟩
    obtain ⟨q, eq⟩ : ∃ q, q = byteAt l (0 + 1) := ⟨_, rfl⟩
    obtain ⟨J, hJ⟩ : ∃ J, J = w.heap.size := ⟨_, rfl⟩
    rw [<- ep] at hp ⊢
    rw [show (1 : Nat) = 0 + 1 from rfl, <- eq] at hq
    rw [<- eq]
    rw [<- hJ] at X2 ⊢
    have EP := Lib.hid ep; have EQ := Lib.hid eq; have EJ := Lib.hid hJ
    clear ep eq hJ
    have jl := X2.out.lt
    have j1 : J < w2.heap.size + 1 := by omega
    have j2 : J < w2.heap.size + 1 + 1 := by omega
    go_wp2_with ((with_reducible refine halt_store J ?_ ?_); (next => rfl))
    unfold Halt
    refine wpList_storeBx (J := J) rfl rfl rfl rfl rfl (X2.out.mono (by go_grown)) (show (Tryz.prog.info? 39).map (·.size) = some 6 by kernel_rfl) rfl (by simp [Value.oneCell']) ?_
    intro w5 hx5 hu5
    have X5 := Lib.hid hx5; have U5 := Lib.hid hu5
    clear hx5 hu5
    go_wp2
    refine bodyPost_ret (v := callV ⟨8, [], [], [], 0, [UInt8.ofNat p, UInt8.ofNat q]⟩ (some ⟨w2.heap.size + 1, 0, none⟩) 2 2) ?_ rfl ?_
    · exact results_bx Tryz.results36 rfl X5.out Tryz.underlying39 rfl (show (Tryz.prog.info? 39).map (·.size) = some 6 by kernel_rfl)
    have e : deliverS 15 l = (⟨8, [], [], [], 0, [UInt8.ofNat p, UInt8.ofNat q]⟩, 2) := by unfold deliverS; rw [if_pos rfl, EP.out, EQ.out]
    rw [e]
    obtain ⟨o, ho⟩ : ∃ o, o = w2.alloc (.cells #[.int .i64 8, .string ⟨#[]⟩, .string ⟨#[]⟩, .string ⟨#[]⟩, .int .i64 0, .slice (some ⟨w2.heap.size + 1, 0, none⟩) 2 2] 39) := ⟨_, rfl⟩
    have oz : o.heap.size = w2.heap.size + 1 := by rw [ho]; simp
    have hb1 : Below w2.heap.size w2 o := by rw [ho]; go_grown
    have u5 := U5.out
    rw [<- ho] at u5
    have hb2 : Below w2.heap.size w2 (o.alloc (.cells #[.int .u8 p, .int .u8 q] 5)) := hb1.alloc (by rw [oz]; omega) _
    have hws := W2.out.size
    have hJ := EJ.out
    have hb3 : Below w.heap.size w2 w5 := below_trans (below_low hb2 hws) (u5.below (B := w.heap.size) (by omega))
    have sl := Sl.new encB o [UInt8.ofNat p, UInt8.ofNat q] (by simp) #[.int .u8 p, .int .u8 q] (by simp [encB, Enc.all]; omega) 5
    rw [oz] at sl
    have s5 := sl.wrote u5.wrote (fun a e => by cases e; show w2.heap.size + 1 ≠ J; omega)
    have hz5 : w5.heap.size = w2.heap.size + 1 + 1 := by rw [u5.size]; simp [oz]
    exact ⟨_, 2, 2, rfl, W2.out.le hb3, by have := R2.out.keep (below_low hb3 HB.out) (by have := HB.out; omega); rw [show l.drop 2 = l.tail.tail by cases l with | nil => rfl | cons x l => cases l <;> rfl]; exact this, s5, fun a e => by cases e; exact ⟨show w.heap.size <= w2.heap.size + 1 by omega, show w2.heap.size + 1 < w5.heap.size by omega⟩⟩
  · have hne : ((h : Int) == 15) = false := by simp; omega
    have H15 := Lib.hid h15
    clear h15 hh
    go_enter Tryz.func36, Tryz.ntmps36
    go_wp2_with fail
    refine (rnextB B N l _ R0.out).mono ?_
    rintro _ w1 ⟨rfl, hw1, hr1⟩
    have W1 := Lib.hid ((Wrote.ofBelow HX.out : Wrote N none w _).trans hw1 (.inl rfl))
    have R1 := Lib.hid hr1
    have X1 := Lib.hid (BX.out.wrote hw1 (by have := HB.out; have := HN.out; omega) (by simp))
    clear hw1 hr1
    go_wp2_with fail
    refine (rnextB B N _ _ R1.out).mono ?_
    rintro _ w2 ⟨rfl, hw2, hr2⟩
    have W2 := Lib.hid (W1.out.trans hw2 (.inl rfl))
    have R2 := Lib.hid hr2
    have X2 := Lib.hid (X1.out.wrote hw2 (by have := HB.out; have := HN.out; omega) (by simp))
    clear hw2 hr2
    rw [byteAt_tail]
    have hp := byteAt_lt l 0; have hq := byteAt_lt l 1
    obtain ⟨p, ep⟩ : ∃ p, p = byteAt l 0 := ⟨_, rfl⟩
    obtain ⟨q, eq⟩ : ∃ q, q = byteAt l (0 + 1) := ⟨_, rfl⟩
    obtain ⟨J, hJ⟩ : ∃ J, J = w.heap.size := ⟨_, rfl⟩
    rw [<- ep] at hp ⊢
    rw [show (1 : Nat) = 0 + 1 from rfl, <- eq] at hq
    rw [<- eq]
    rw [<- hJ] at X2 ⊢
    have EP := Lib.hid ep; have EQ := Lib.hid eq; have EJ := Lib.hid hJ
    clear ep eq hJ
    have jl := X2.out.lt
    have j1 : J < w2.heap.size + 1 := by omega
    have j2 : J < w2.heap.size + 1 + 1 := by omega
    have a1 : bits .and .i64 (p : Int) 3 = ((p % 4 : Nat) : Int) := and3 p (by omega)
    have a2 : bits .and .i64 ((p : Int) / 4) 3 = ((p / 4 % 4 : Nat) : Int) := by
      have := and3 (p / 4) (by omega)
      rwa [Int.natCast_ediv] at this
    have hbz : Below w2.heap.size w2 (w2.alloc (.cells #[.int .i64 8, .string ⟨#[]⟩, .string ⟨#[]⟩, .string ⟨#[]⟩, .int .i64 0, .slice none 0 0] 39)) := by go_grown
    have hws := W2.out.size
    have HWS := Lib.hid hws
    have R3 := Lib.hid (R2.out.keep (below_low hbz (by have := HB.out; omega)) (by have := HB.out; omega))
    have Y3 := Lib.hid (Bx.new w2 #[.int .i64 8, .string ⟨#[]⟩, .string ⟨#[]⟩, .string ⟨#[]⟩, .int .i64 0, .slice none 0 0] 39)
    have X3 := Lib.hid (X2.out.mono hbz)
    have W3 := Lib.hid (W2.out.le (below_low hbz hws))
    clear hbz hws
    go_wp2_with fail
    refine (rnextB B N _ _ R3.out).mono ?_
    rintro _ w4 ⟨rfl, hw4, hr4⟩
    have W4 := Lib.hid (W3.out.trans hw4 (.inl rfl))
    have R4 := Lib.hid hr4
    have X4 := Lib.hid (X3.out.wrote hw4 (by have := HB.out; have := HN.out; have := EJ.out; omega) (by simp))
    have Y4 := Lib.hid (Y3.out.wrote hw4 (by have := HB.out; have := HN.out; have := HWS.out; omega) (by simp))
    clear hw4 hr4
    obtain ⟨Y, hY⟩ : ∃ Y, Y = w2.heap.size := ⟨_, rfl⟩
    rw [<- hY] at Y4 jl ⊢
    have EY := Lib.hid hY
    clear hY j1 j2
    rw [byteAt_tail, byteAt_tail]
    have hr := byteAt_lt l (0 + 1 + 1)
    obtain ⟨r, er⟩ : ∃ r, r = byteAt l (0 + 1 + 1) := ⟨_, rfl⟩
    rw [<- er] at hr ⊢
    have ER := Lib.hid er
    clear er
    have C := Lib.hid (fun w => cBatchOf (a := p % 4) (i := p / 4 % 4) (k := q + 1) (q := r + 1) (by omega) (by omega) (by omega) (by omega) (by omega) (by omega) w)
    go_wp2_with fail
    refine (C.out w4).mono ?_
    rintro _ w5 ⟨_, rfl, hb5, v5, rfl, ho5⟩
    obtain ⟨A5, c5, rfl, s5⟩ := OwnSl.sl ho5
    have O5 := Lib.hid ho5.own
    have S5 := Lib.hid s5
    have W5 := Lib.hid (W4.out.le (below_low hb5 W4.out.size))
    have R5 := Lib.hid (R4.out.keep (below_low hb5 (by have := HB.out; have := W4.out.size; omega)) (by have := HB.out; have := W4.out.size; omega))
    have X5 := Lib.hid (X4.out.mono hb5)
    have Y5 := Lib.hid (Y4.out.mono hb5)
    have HS45 := Lib.hid hb5.size
    clear hb5 ho5 s5
    have L5 := Lib.hid (show (batchOf (p % 4) (p / 4 % 4) (q + 1) (r + 1)).length <= 9223372036854775807 from S5.out.big)
    have y0 := Y5.out.cell 0 rfl; have y1 := Y5.out.cell 1 rfl; have y2 := Y5.out.cell 2 rfl; have y3 := Y5.out.cell 3 rfl; have y4 := Y5.out.cell 4 rfl; have y5 := Y5.out.cell 5 rfl
    have yf5 := Y5.out.fr 5 (by decide)
    have jY : J ≠ Y := by omega
    clear a1 a2
    go_wp2_with ((with_reducible refine halt_store J ?_ ?_); (next => rfl))
    unfold Halt
    have UY := Lib.hid (upd_cell (w := w5) Y 5 (.slice A5 (batchOf (p % 4) (p / 4 % 4) (q + 1) (r + 1)).length c5))
    refine wpList_storeBx (J := J) rfl rfl rfl rfl rfl (UY.out.bx X5.out jY) (show (Tryz.prog.info? 39).map (·.size) = some 6 by kernel_rfl) rfl (by simp [Value.oneCell']) ?_
    intro w6 hx6 hu6
    have X6 := Lib.hid hx6; have U6 := Lib.hid hu6
    clear hx6 hu6 y0 y1 y2 y3 y4 y5 yf5
    go_wp2
    refine bodyPost_ret (v := callV ⟨8, [], [], [], 0, batchOf (p % 4) (p / 4 % 4) (q + 1) (r + 1)⟩ A5 (batchOf (p % 4) (p / 4 % 4) (q + 1) (r + 1)).length c5) ?_ rfl ?_
    · exact results_bx Tryz.results36 rfl X6.out Tryz.underlying39 rfl (show (Tryz.prog.info? 39).map (·.size) = some 6 by kernel_rfl)
    have e : deliverS h l = (⟨8, [], [], [], 0, batchOf (p % 4) (p / 4 % 4) (q + 1) (r + 1)⟩, 3) := by unfold deliverS; rw [if_neg H15.out, EP.out, EQ.out, ER.out]
    rw [e]
    have hJ := EJ.out; have hY := EY.out; have hW := HWS.out; have h45 := HS45.out; have hs4 := W4.out.size; have hyl := Y4.out.lt
    have hb6 : Below w.heap.size w5 w6 := below_trans (UY.out.below (by omega)) (U6.out.below (by omega))
    have hz6 : w6.heap.size = w5.heap.size := U6.out.size.trans UY.out.size
    have off : ∀ a, A5 = some a -> w4.heap.size <= a.block ∧ a.block < w5.heap.size := fun a e => by subst e; exact O5.out a.block rfl
    have s6 := (S5.out.wrote UY.out.wrote (fun a e => by have := off a e; omega)).wrote U6.out.wrote (fun a e => by have := off a e; omega)
    exact ⟨_, _, _, rfl, W5.out.le hb6, by have := R5.out.keep (below_low hb6 HB.out) (by have := HB.out; have := W5.out.size; omega); rw [show l.drop 3 = l.tail.tail.tail by cases l with | nil => rfl | cons x l => cases l with | nil => rfl | cons x l => cases l <;> rfl]; exact this, s6, fun a e => ⟨by have := off a e; omega, by have := off a e; omega⟩⟩
end Go.Proofs.YtphhhnjeojdnkaaGreatDoor

/-
  (*script.reader).op.
-/
namespace Go.Proofs.YtphhhnjeojdnkaaGreatDoor
open Go.RowKit
structure St (B N J : Nat) (w0 : World) (l : List UInt8) (cs : List Value) (w : World) : Prop where
  wr : Wrote N none w0 w
  rb : RB B N l w
  bx : Bx w J cs
  hB : B <= w0.heap.size
  hJ : w0.heap.size <= J
section
variable {B N J : Nat} {w0 w w' : World} {l : List UInt8} {cs : List Value}
theorem St.next (h : St B N J w0 l cs w) (hw : Wrote N none w w') (hr : RB B N l.tail w') : St B N J w0 l.tail cs w' :=
  ⟨h.wr.trans hw (.inl rfl), hr, h.bx.wrote hw (by have := h.hB; have := h.hJ; have := h.rb.lt; omega) (by simp), h.hB, h.hJ⟩
theorem St.mono (h : St B N J w0 l cs w) (hb : Below w.heap.size w w') : St B N J w0 l cs w' :=
  ⟨h.wr.le (below_low hb h.wr.size), h.rb.keep (below_low hb (Nat.le_trans h.hB h.wr.size)) (Nat.le_trans h.hB h.wr.size), h.bx.mono hb, h.hB, h.hJ⟩
theorem St.end_ (h : St B N J w0 l cs w) (hu : Upd J w w') : Wrote N none w0 w' ∧ RB B N l w' :=
  ⟨h.wr.le (hu.below h.hJ), h.rb.keep (hu.below (Nat.le_trans h.hB h.hJ)) (Nat.le_trans h.hB h.wr.size)⟩
theorem St.size (h : St B N J w0 l cs w) : w0.heap.size <= w.heap.size := h.wr.size
end
theorem and15 (n : Nat) (h : n < 9223372036854775808) : bits .and .i64 (n : Int) 15 = ((n % 16 : Nat) : Int) := by
  unfold Go.bits
  have e3 : (15 : Int) = ((15 : Nat) : Int) := rfl
  rw [e3]
  simp only [ofInt_nat]
  rw [BitVec.toNat_and, BitVec.toNat_ofNat, BitVec.toNat_ofNat]
  have h1 : n % 2 ^ IntKind.i64.bits = n := Nat.mod_eq_of_lt (Nat.lt_of_lt_of_le h (by decide))
  have h2 : 15 % 2 ^ IntKind.i64.bits = 15 := by decide
  have h3 : n &&& 15 = n % 16 := Nat.and_two_pow_sub_one_eq_mod n 4
  rw [h1, h2, h3]
  have h4 : n % 16 < 16 := Nat.mod_lt _ (by decide)
  generalize n % 16 = r at h4
  have : ∀ r, r < 16 -> IntKind.i64.wrap ((r : Nat) : Int) = (r : Int) := by decide
  first
    | exact this r h4
    | (revert r; decide)
def OPost (B N : Nat) (l : List UInt8) (w : World) (e : Ending) (w' : World) : Prop :=
  ∃ s : OpE, e = .returned (opVE s) ∧ s.o = (firstS l).1 ∧ RdPost B N l (firstS l).2 s.A s.n s.c s.o.call.data w w'
abbrev opBox0 : Obj := .cells #[.int .i64 0, .int .i64 0, .int .i64 0, .string ⟨#[]⟩, .string ⟨#[]⟩, .string ⟨#[]⟩, .int .i64 0, .slice none 0 0] 41
def opZ : List Value := [.int .i64 0, .int .i64 0, .int .i64 0, .string ⟨#[]⟩, .string ⟨#[]⟩, .string ⟨#[]⟩, .int .i64 0, .slice none 0 0]
theorem opStart {B N : Nat} {l : List UInt8} {w : World} (hr : RB B N l w) (hB : B <= w.heap.size) : St B N w.heap.size w l opZ (w.alloc opBox0) := by
  have hx : Below w.heap.size w (w.alloc opBox0) := (Below.refl _ _).alloc (Nat.le_refl _) _
  exact ⟨Wrote.ofBelow hx, hr.keep (below_low hx hB) hB, Bx.new w _ _, hB, Nat.le_refl _⟩
theorem drop_two {α : Type} (l : List α) : l.drop 2 = l.tail.tail := by cases l with | nil => rfl | cons x l => cases l <;> rfl
theorem drop_three {α : Type} (l : List α) : l.drop 3 = l.tail.tail.tail := by cases l with | nil => rfl | cons x l => cases l with | nil => rfl | cons x l => cases l <;> rfl
theorem callS_deliver {l : List UInt8} (h : byteAt l 0 % 16 = 15) : callS l = ((deliverS (byteAt l 0 / 16) l.tail).1, (deliverS (byteAt l 0 / 16) l.tail).2 + 1) := by
  unfold callS deliverS
  simp only [byteAt_tail, h]
  by_cases h2 : byteAt l 0 / 16 = 15 <;> simp [h2]
theorem cop (B N : Nat) (l : List UInt8) (w : World) (hr : RB B N l w) (hB : B <= w.heap.size) : Calls Tryz.prog 19 #[.pointer (some ⟨N, 0, none⟩)] w (OPost B N l w) := by
  have S0 := Lib.hid (opStart hr hB)
  have HB := Lib.hid hB
  clear hr hB
  have hx := byteAt_lt l 0
  obtain ⟨x, ex⟩ : ∃ x, x = byteAt l 0 := ⟨_, rfl⟩
  obtain ⟨J, ej⟩ : ∃ J, J = w.heap.size := ⟨_, rfl⟩
  rw [<- ej] at S0
  rw [<- ex] at hx
  have EX := Lib.hid ex; have EJ := Lib.hid ej
  have A1 := Lib.hid (and15 x (by omega))
  clear ex ej
  have hcase : x % 16 < 8 ∨ x % 16 = 8 ∨ x % 16 = 9 ∨ x % 16 = 10 ∨ x % 16 = 11 ∨ x % 16 = 12 ∨ x % 16 = 13 ∨ x % 16 = 14 ∨ x % 16 = 15 := by omega
  rcases hcase with hc | hc | hc | hc | hc | hc | hc | hc | hc
  · have HC := Lib.hid hc
    have a1 := A1.out
    have m8 : ((x % 16 : Nat) : Int) ≠ 8 := by omega
    have m9 : ((x % 16 : Nat) : Int) ≠ 9 := by omega
    have m10 : ((x % 16 : Nat) : Int) ≠ 10 := by omega
    have m11 : ((x % 16 : Nat) : Int) ≠ 11 := by omega
    have m12 : ((x % 16 : Nat) : Int) ≠ 12 := by omega
    have m13 : ((x % 16 : Nat) : Int) ≠ 13 := by omega
    have m14 : ((x % 16 : Nat) : Int) ≠ 14 := by omega
    have m15 : ((x % 16 : Nat) : Int) ≠ 15 := by omega
    generalize ((x % 16 : Nat) : Int) = c at *
    clear hc
    go_enter Tryz.func19, Tryz.ntmps19
    go_wp2_with fail
    refine (rnextB B N l _ S0.out.rb).mono ?_
    rintro _ w1 ⟨rfl, hw1, hr1⟩
    have S1 := Lib.hid (S0.out.next hw1 hr1)
    clear hw1 hr1
    rw [<- EX.out, <- EJ.out]
    go_wp2_with ((with_reducible refine halt_store J ?_ ?_); (next => rfl))
    unfold Halt
    refine wpList_storeBx (J := J) rfl rfl rfl rfl rfl S1.out.bx (show (Tryz.prog.info? 41).map (·.size) = some 8 by kernel_rfl) rfl (by simp [Value.oneCell']) ?_
    intro w6 hx6 hu6
    have X6 := Lib.hid hx6; have U6 := Lib.hid hu6
    clear hx6 hu6 m8 m9 m10 m11 m12 m13 m14 m15 a1
    go_wp2
    refine bodyPost_ret (v := opVE ⟨⟨2, (x : Int) / 16, noCall⟩, none, 0, 0⟩) ?_ rfl ?_
    · exact results_bx Tryz.results19 rfl X6.out Tryz.underlying41 rfl (show (Tryz.prog.info? 41).map (·.size) = some 8 by kernel_rfl)
    obtain ⟨k1, k2⟩ := S1.out.end_ U6.out
    have e : firstS l = (⟨2, (x : Int) / 16, noCall⟩, 1) := by unfold firstS; rw [<- EX.out, if_pos HC.out]
    refine ⟨⟨⟨2, (x : Int) / 16, noCall⟩, none, 0, 0⟩, rfl, by rw [e], ?_⟩
    rw [e]
    exact ⟨k1, by rw [List.drop_one]; exact k2, Sl.nil_ _ _, fun a e => nomatch e⟩
  · have HC := Lib.hid hc
    have a1 : bits .and .i64 (x : Int) 15 = 8 := by rw [A1.out, hc]; rfl
    clear hc
    go_enter Tryz.func19, Tryz.ntmps19
    go_wp2_with fail
    refine (rnextB B N l _ S0.out.rb).mono ?_
    rintro _ w1 ⟨rfl, hw1, hr1⟩
    have S1 := Lib.hid (S0.out.next hw1 hr1)
    clear hw1 hr1
    rw [<- EX.out, <- EJ.out]
    go_wp2_with fail
    refine (rnextB B N _ _ S1.out.rb).mono ?_
    rintro _ w2 ⟨rfl, hw, hr⟩
    have S2 := Lib.hid (S1.out.next hw hr)
    clear hw hr
    simp only [byteAt_tail]
    have hp := byteAt_lt l (0 + 1)
    obtain ⟨p, ep⟩ : ∃ p, p = byteAt l (0 + 1) := ⟨_, rfl⟩
    rw [<- ep] at hp ⊢
    have Ep := Lib.hid ep
    clear ep
    go_wp2_with ((with_reducible refine halt_store J ?_ ?_); (next => rfl))
    unfold Halt
    refine wpList_storeBx (J := J) rfl rfl rfl rfl rfl S2.out.bx (show (Tryz.prog.info? 41).map (·.size) = some 8 by kernel_rfl) rfl (by simp [opCellsE, Value.oneCell']) ?_
    intro w9 hx9 hu9
    have X9 := Lib.hid hx9; have U9 := Lib.hid hu9
    clear hx9 hu9 a1
    go_wp2
    refine bodyPost_ret (v := opVE ⟨⟨3, p, noCall⟩, none, 0, 0⟩) ?_ rfl ?_
    · exact results_bx Tryz.results19 rfl X9.out Tryz.underlying41 rfl (show (Tryz.prog.info? 41).map (·.size) = some 8 by kernel_rfl)
    obtain ⟨k1, k2⟩ := S2.out.end_ U9.out
    have e : firstS l = (⟨3, p, noCall⟩, 2) := by
      unfold firstS; rw [<- EX.out, if_neg (by have := HC.out; omega), if_pos HC.out, Ep.out]
    refine ⟨⟨⟨3, p, noCall⟩, none, 0, 0⟩, rfl, by rw [e], ?_⟩
    rw [e]
    exact ⟨k1, by rw [drop_two]; exact k2, Sl.nil_ _ _, fun a e => nomatch e⟩
  · have HC := Lib.hid hc
    have a1 : bits .and .i64 (x : Int) 15 = 9 := by rw [A1.out, hc]; rfl
    clear hc
    go_enter Tryz.func19, Tryz.ntmps19
    go_wp2_with fail
    refine (rnextB B N l _ S0.out.rb).mono ?_
    rintro _ w1 ⟨rfl, hw1, hr1⟩
    have S1 := Lib.hid (S0.out.next hw1 hr1)
    clear hw1 hr1
    rw [<- EX.out, <- EJ.out]
    go_wp2_with fail
    refine (rnextB B N _ _ S1.out.rb).mono ?_
    rintro _ w2 ⟨rfl, hw, hr⟩
    have S2 := Lib.hid (S1.out.next hw hr)
    clear hw hr
    simp only [byteAt_tail]
    have hp := byteAt_lt l (0 + 1)
    obtain ⟨p, ep⟩ : ∃ p, p = byteAt l (0 + 1) := ⟨_, rfl⟩
    rw [<- ep] at hp ⊢
    have Ep := Lib.hid ep
    clear ep
    obtain ⟨ky, eky⟩ : ∃ k, k = letter 97 (p) := ⟨_, rfl⟩
    have Lky := Lib.hid (fun w => show Calls Tryz.prog 23 #[strV [97, 98, 99, 100], .int .i64 ((p : Int))] w (Ret w (Is (strV ky))) by
      have := onek (p) (by omega) w
      rw [<- eky] at this
      exact this)
    have Eky := Lib.hid eky
    clear eky
    obtain ⟨nm, enm⟩ : ∃ k, k = letter 119 (p / 4) := ⟨_, rfl⟩
    have Lnm := Lib.hid (fun w => show Calls Tryz.prog 23 #[strV [119, 120, 121, 122], .int .i64 ((p : Int) / 4)] w (Ret w (Is (strV nm))) by
      have := onei (p / 4) (by omega) w
      rw [<- enm] at this
      exact this)
    have Enm := Lib.hid enm
    clear enm
    go_wp2_with fail
    refine (Lky.out _).mono ?_
    rintro _ w3 ⟨_, rfl, hb, rfl⟩
    have S3 := Lib.hid (S2.out.mono hb)
    clear hb
    go_wp2_with fail
    refine (Lnm.out _).mono ?_
    rintro _ w4 ⟨_, rfl, hb, rfl⟩
    have S4 := Lib.hid (S3.out.mono hb)
    clear hb
    go_wp2_with fail
    refine (rnextB B N _ _ S4.out.rb).mono ?_
    rintro _ w5 ⟨rfl, hw, hr⟩
    have S5 := Lib.hid (S4.out.next hw hr)
    clear hw hr
    simp only [byteAt_tail]
    have hq := byteAt_lt l (0 + 1 + 1)
    obtain ⟨q, eq⟩ : ∃ q, q = byteAt l (0 + 1 + 1) := ⟨_, rfl⟩
    rw [<- eq] at hq ⊢
    have Eq := Lib.hid eq
    clear eq
    go_wp2_with fail
    refine (cstart ⟨1, ky, [], nm, (q : Int) + 1, []⟩ none 0 0 _).mono ?_
    rintro _ w6 ⟨_, rfl, hb, rfl⟩
    have S6 := Lib.hid (S5.out.mono ((show Below w5.heap.size w5 (w5.alloc _) from (Below.refl _ _).alloc (Nat.le_refl _) _).le hb))
    clear hb
    go_wp2_with ((with_reducible refine halt_store J ?_ ?_); (next => rfl))
    unfold Halt
    refine wpList_storeBx (J := J) rfl rfl rfl rfl rfl S6.out.bx (show (Tryz.prog.info? 41).map (·.size) = some 8 by kernel_rfl) rfl (by simp [opCellsE, Value.oneCell']) ?_
    intro w9 hx9 hu9
    have X9 := Lib.hid hx9; have U9 := Lib.hid hu9
    clear hx9 hu9 a1
    go_wp2
    refine bodyPost_ret (v := opVE ⟨⟨1, 0, ⟨1, ky, [], nm, (q : Int) + 1, []⟩⟩, none, 0, 0⟩) ?_ rfl ?_
    · exact results_bx Tryz.results19 rfl X9.out Tryz.underlying41 rfl (show (Tryz.prog.info? 41).map (·.size) = some 8 by kernel_rfl)
    obtain ⟨k1, k2⟩ := S6.out.end_ U9.out
    have e : firstS l = (⟨1, 0, ⟨1, ky, [], nm, (q : Int) + 1, []⟩⟩, 3) := by
      unfold firstS; rw [<- EX.out, if_neg (by have := HC.out; omega), if_neg (by have := HC.out; omega)]; unfold callS; simp only [<- EX.out, <- Ep.out, <- Eq.out, <- Eky.out, <- Enm.out]; simp [HC.out]
    refine ⟨⟨⟨1, 0, ⟨1, ky, [], nm, (q : Int) + 1, []⟩⟩, none, 0, 0⟩, rfl, by rw [e], ?_⟩
    rw [e]
    exact ⟨k1, by rw [drop_three]; exact k2, Sl.nil_ _ _, fun a e => nomatch e⟩
  · have HC := Lib.hid hc
    have a1 : bits .and .i64 (x : Int) 15 = 10 := by rw [A1.out, hc]; rfl
    clear hc
    go_enter Tryz.func19, Tryz.ntmps19
    go_wp2_with fail
    refine (rnextB B N l _ S0.out.rb).mono ?_
    rintro _ w1 ⟨rfl, hw1, hr1⟩
    have S1 := Lib.hid (S0.out.next hw1 hr1)
    clear hw1 hr1
    rw [<- EX.out, <- EJ.out]
    go_wp2_with fail
    refine (rnextB B N _ _ S1.out.rb).mono ?_
    rintro _ w2 ⟨rfl, hw, hr⟩
    have S2 := Lib.hid (S1.out.next hw hr)
    clear hw hr
    simp only [byteAt_tail]
    have hp := byteAt_lt l (0 + 1)
    obtain ⟨p, ep⟩ : ∃ p, p = byteAt l (0 + 1) := ⟨_, rfl⟩
    rw [<- ep] at hp ⊢
    have Ep := Lib.hid ep
    clear ep
    obtain ⟨ky, eky⟩ : ∃ k, k = letter 97 (p) := ⟨_, rfl⟩
    have Lky := Lib.hid (fun w => show Calls Tryz.prog 23 #[strV [97, 98, 99, 100], .int .i64 ((p : Int))] w (Ret w (Is (strV ky))) by
      have := onek (p) (by omega) w
      rw [<- eky] at this
      exact this)
    have Eky := Lib.hid eky
    clear eky
    obtain ⟨nm, enm⟩ : ∃ k, k = letter 119 (p / 4) := ⟨_, rfl⟩
    have Lnm := Lib.hid (fun w => show Calls Tryz.prog 23 #[strV [119, 120, 121, 122], .int .i64 ((p : Int) / 4)] w (Ret w (Is (strV nm))) by
      have := onei (p / 4) (by omega) w
      rw [<- enm] at this
      exact this)
    have Enm := Lib.hid enm
    clear enm
    go_wp2_with fail
    refine (Lky.out _).mono ?_
    rintro _ w3 ⟨_, rfl, hb, rfl⟩
    have S3 := Lib.hid (S2.out.mono hb)
    clear hb
    go_wp2_with fail
    refine (Lnm.out _).mono ?_
    rintro _ w4 ⟨_, rfl, hb, rfl⟩
    have S4 := Lib.hid (S3.out.mono hb)
    clear hb
    go_wp2_with fail
    refine (rnextB B N _ _ S4.out.rb).mono ?_
    rintro _ w5 ⟨rfl, hw, hr⟩
    have S5 := Lib.hid (S4.out.next hw hr)
    clear hw hr
    simp only [byteAt_tail]
    have hq := byteAt_lt l (0 + 1 + 1)
    obtain ⟨q, eq⟩ : ∃ q, q = byteAt l (0 + 1 + 1) := ⟨_, rfl⟩
    rw [<- eq] at hq ⊢
    have Eq := Lib.hid eq
    clear eq
    go_wp2_with fail
    refine (cstart ⟨2, ky, [], nm, (q : Int) + 1, []⟩ none 0 0 _).mono ?_
    rintro _ w6 ⟨_, rfl, hb, rfl⟩
    have S6 := Lib.hid (S5.out.mono ((show Below w5.heap.size w5 (w5.alloc _) from (Below.refl _ _).alloc (Nat.le_refl _) _).le hb))
    clear hb
    go_wp2_with ((with_reducible refine halt_store J ?_ ?_); (next => rfl))
    unfold Halt
    refine wpList_storeBx (J := J) rfl rfl rfl rfl rfl S6.out.bx (show (Tryz.prog.info? 41).map (·.size) = some 8 by kernel_rfl) rfl (by simp [opCellsE, Value.oneCell']) ?_
    intro w9 hx9 hu9
    have X9 := Lib.hid hx9; have U9 := Lib.hid hu9
    clear hx9 hu9 a1
    go_wp2
    refine bodyPost_ret (v := opVE ⟨⟨1, 0, ⟨2, ky, [], nm, (q : Int) + 1, []⟩⟩, none, 0, 0⟩) ?_ rfl ?_
    · exact results_bx Tryz.results19 rfl X9.out Tryz.underlying41 rfl (show (Tryz.prog.info? 41).map (·.size) = some 8 by kernel_rfl)
    obtain ⟨k1, k2⟩ := S6.out.end_ U9.out
    have e : firstS l = (⟨1, 0, ⟨2, ky, [], nm, (q : Int) + 1, []⟩⟩, 3) := by
      unfold firstS; rw [<- EX.out, if_neg (by have := HC.out; omega), if_neg (by have := HC.out; omega)]; unfold callS; simp only [<- EX.out, <- Ep.out, <- Eq.out, <- Eky.out, <- Enm.out]; simp [HC.out]
    refine ⟨⟨⟨1, 0, ⟨2, ky, [], nm, (q : Int) + 1, []⟩⟩, none, 0, 0⟩, rfl, by rw [e], ?_⟩
    rw [e]
    exact ⟨k1, by rw [drop_three]; exact k2, Sl.nil_ _ _, fun a e => nomatch e⟩
  · have HC := Lib.hid hc
    have a1 : bits .and .i64 (x : Int) 15 = 11 := by rw [A1.out, hc]; rfl
    clear hc
    go_enter Tryz.func19, Tryz.ntmps19
    go_wp2_with fail
    refine (rnextB B N l _ S0.out.rb).mono ?_
    rintro _ w1 ⟨rfl, hw1, hr1⟩
    have S1 := Lib.hid (S0.out.next hw1 hr1)
    clear hw1 hr1
    rw [<- EX.out, <- EJ.out]
    go_wp2_with fail
    refine (rnextB B N _ _ S1.out.rb).mono ?_
    rintro _ w2 ⟨rfl, hw, hr⟩
    have S2 := Lib.hid (S1.out.next hw hr)
    clear hw hr
    simp only [byteAt_tail]
    have hp := byteAt_lt l (0 + 1)
    obtain ⟨p, ep⟩ : ∃ p, p = byteAt l (0 + 1) := ⟨_, rfl⟩
    rw [<- ep] at hp ⊢
    have Ep := Lib.hid ep
    clear ep
    obtain ⟨ky, eky⟩ : ∃ k, k = letter 97 (p) := ⟨_, rfl⟩
    have Lky := Lib.hid (fun w => show Calls Tryz.prog 23 #[strV [97, 98, 99, 100], .int .i64 ((p : Int))] w (Ret w (Is (strV ky))) by
      have := onek (p) (by omega) w
      rw [<- eky] at this
      exact this)
    have Eky := Lib.hid eky
    clear eky
    obtain ⟨nm, enm⟩ : ∃ k, k = letter 119 (p / 4) := ⟨_, rfl⟩
    have Lnm := Lib.hid (fun w => show Calls Tryz.prog 23 #[strV [119, 120, 121, 122], .int .i64 ((p : Int) / 4)] w (Ret w (Is (strV nm))) by
      have := onei (p / 4) (by omega) w
      rw [<- enm] at this
      exact this)
    have Enm := Lib.hid enm
    clear enm
    go_wp2_with fail
    refine (Lky.out _).mono ?_
    rintro _ w3 ⟨_, rfl, hb, rfl⟩
    have S3 := Lib.hid (S2.out.mono hb)
    clear hb
    go_wp2_with fail
    refine (Lnm.out _).mono ?_
    rintro _ w4 ⟨_, rfl, hb, rfl⟩
    have S4 := Lib.hid (S3.out.mono hb)
    clear hb
    go_wp2_with fail
    refine (cstart ⟨3, ky, [], nm, 0, []⟩ none 0 0 _).mono ?_
    rintro _ w5 ⟨_, rfl, hb, rfl⟩
    have S5 := Lib.hid (S4.out.mono hb)
    clear hb
    go_wp2_with ((with_reducible refine halt_store J ?_ ?_); (next => rfl))
    unfold Halt
    refine wpList_storeBx (J := J) rfl rfl rfl rfl rfl S5.out.bx (show (Tryz.prog.info? 41).map (·.size) = some 8 by kernel_rfl) rfl (by simp [opCellsE, Value.oneCell']) ?_
    intro w9 hx9 hu9
    have X9 := Lib.hid hx9; have U9 := Lib.hid hu9
    clear hx9 hu9 a1
    go_wp2
    refine bodyPost_ret (v := opVE ⟨⟨1, 0, ⟨3, ky, [], nm, 0, []⟩⟩, none, 0, 0⟩) ?_ rfl ?_
    · exact results_bx Tryz.results19 rfl X9.out Tryz.underlying41 rfl (show (Tryz.prog.info? 41).map (·.size) = some 8 by kernel_rfl)
    obtain ⟨k1, k2⟩ := S5.out.end_ U9.out
    have e : firstS l = (⟨1, 0, ⟨3, ky, [], nm, 0, []⟩⟩, 2) := by
      unfold firstS; rw [<- EX.out, if_neg (by have := HC.out; omega), if_neg (by have := HC.out; omega)]; unfold callS; simp only [<- EX.out, <- Ep.out, <- Eky.out, <- Enm.out]; simp [HC.out]
    refine ⟨⟨⟨1, 0, ⟨3, ky, [], nm, 0, []⟩⟩, none, 0, 0⟩, rfl, by rw [e], ?_⟩
    rw [e]
    exact ⟨k1, by rw [drop_two]; exact k2, Sl.nil_ _ _, fun a e => nomatch e⟩
  · by_cases h8 : x / 16 = 8
    · have H8 := Lib.hid h8
      have q1 : (x : Int) / 16 = 8 := by omega
      clear h8
      have HC := Lib.hid hc
      have a1 : bits .and .i64 (x : Int) 15 = 12 := by rw [A1.out, hc]; rfl
      clear hc
      go_enter Tryz.func19, Tryz.ntmps19
      go_wp2_with fail
      refine (rnextB B N l _ S0.out.rb).mono ?_
      rintro _ w1 ⟨rfl, hw1, hr1⟩
      have S1 := Lib.hid (S0.out.next hw1 hr1)
      clear hw1 hr1
      rw [<- EX.out, <- EJ.out]
      go_wp2_with fail
      refine (rnextB B N _ _ S1.out.rb).mono ?_
      rintro _ w2 ⟨rfl, hw, hr⟩
      have S2 := Lib.hid (S1.out.next hw hr)
      clear hw hr
      simp only [byteAt_tail]
      have hp := byteAt_lt l (0 + 1)
      obtain ⟨p, ep⟩ : ∃ p, p = byteAt l (0 + 1) := ⟨_, rfl⟩
      rw [<- ep] at hp ⊢
      have Ep := Lib.hid ep
      clear ep
      obtain ⟨ky, eky⟩ : ∃ k, k = letter 97 (p) := ⟨_, rfl⟩
      have Lky := Lib.hid (fun w => show Calls Tryz.prog 23 #[strV [97, 98, 99, 100], .int .i64 ((p : Int))] w (Ret w (Is (strV ky))) by
        have := onek (p) (by omega) w
        rw [<- eky] at this
        exact this)
      have Eky := Lib.hid eky
      clear eky
      go_wp2_with fail
      refine (Lky.out _).mono ?_
      rintro _ w3 ⟨_, rfl, hb, rfl⟩
      have S3 := Lib.hid (S2.out.mono hb)
      clear hb
      go_wp2_with fail
      refine (cstart ⟨5, ky, [], [], 0, []⟩ none 0 0 _).mono ?_
      rintro _ w4 ⟨_, rfl, hb, rfl⟩
      have S4 := Lib.hid (S3.out.mono ((show Below w3.heap.size w3 (w3.alloc _) from (Below.refl _ _).alloc (Nat.le_refl _) _).le hb))
      clear hb
      go_wp2_with ((with_reducible refine halt_store J ?_ ?_); (next => rfl))
      unfold Halt
      refine wpList_storeBx (J := J) rfl rfl rfl rfl rfl S4.out.bx (show (Tryz.prog.info? 41).map (·.size) = some 8 by kernel_rfl) rfl (by simp [opCellsE, Value.oneCell']) ?_
      intro w9 hx9 hu9
      have X9 := Lib.hid hx9; have U9 := Lib.hid hu9
      clear hx9 hu9 a1
      go_wp2
      refine bodyPost_ret (v := opVE ⟨⟨1, 0, ⟨5, ky, [], [], 0, []⟩⟩, none, 0, 0⟩) ?_ rfl ?_
      · exact results_bx Tryz.results19 rfl X9.out Tryz.underlying41 rfl (show (Tryz.prog.info? 41).map (·.size) = some 8 by kernel_rfl)
      obtain ⟨k1, k2⟩ := S4.out.end_ U9.out
      have e : firstS l = (⟨1, 0, ⟨5, ky, [], [], 0, []⟩⟩, 2) := by
        unfold firstS; rw [<- EX.out, if_neg (by have := HC.out; omega), if_neg (by have := HC.out; omega)]; unfold callS; simp only [<- EX.out, <- Ep.out, <- Eky.out]; simp [HC.out, H8.out]
      refine ⟨⟨⟨1, 0, ⟨5, ky, [], [], 0, []⟩⟩, none, 0, 0⟩, rfl, by rw [e], ?_⟩
      rw [e]
      exact ⟨k1, by rw [drop_two]; exact k2, Sl.nil_ _ _, fun a e => nomatch e⟩
    · by_cases h9 : x / 16 = 9
      · have H9 := Lib.hid h9
        have q1 : (x : Int) / 16 = 9 := by omega
        clear h8 h9
        have HC := Lib.hid hc
        have a1 : bits .and .i64 (x : Int) 15 = 12 := by rw [A1.out, hc]; rfl
        clear hc
        go_enter Tryz.func19, Tryz.ntmps19
        go_wp2_with fail
        refine (rnextB B N l _ S0.out.rb).mono ?_
        rintro _ w1 ⟨rfl, hw1, hr1⟩
        have S1 := Lib.hid (S0.out.next hw1 hr1)
        clear hw1 hr1
        rw [<- EX.out, <- EJ.out]
        go_wp2_with fail
        refine (rnextB B N _ _ S1.out.rb).mono ?_
        rintro _ w2 ⟨rfl, hw, hr⟩
        have S2 := Lib.hid (S1.out.next hw hr)
        clear hw hr
        simp only [byteAt_tail]
        have hp := byteAt_lt l (0 + 1)
        obtain ⟨p, ep⟩ : ∃ p, p = byteAt l (0 + 1) := ⟨_, rfl⟩
        rw [<- ep] at hp ⊢
        have Ep := Lib.hid ep
        clear ep
        obtain ⟨ky, eky⟩ : ∃ k, k = letter 97 (p) := ⟨_, rfl⟩
        have Lky := Lib.hid (fun w => show Calls Tryz.prog 23 #[strV [97, 98, 99, 100], .int .i64 ((p : Int))] w (Ret w (Is (strV ky))) by
          have := onek (p) (by omega) w
          rw [<- eky] at this
          exact this)
        have Eky := Lib.hid eky
        clear eky
        go_wp2_with fail
        refine (Lky.out _).mono ?_
        rintro _ w3 ⟨_, rfl, hb, rfl⟩
        have S3 := Lib.hid (S2.out.mono hb)
        clear hb
        go_wp2_with fail
        refine (cstart ⟨5, ky, [], [], 0, []⟩ none 0 0 _).mono ?_
        rintro _ w4 ⟨_, rfl, hb, rfl⟩
        have S4 := Lib.hid (S3.out.mono ((show Below w3.heap.size w3 (w3.alloc _) from (Below.refl _ _).alloc (Nat.le_refl _) _).le hb))
        clear hb
        go_wp2_with ((with_reducible refine halt_store J ?_ ?_); (next => rfl))
        unfold Halt
        refine wpList_storeBx (J := J) rfl rfl rfl rfl rfl S4.out.bx (show (Tryz.prog.info? 41).map (·.size) = some 8 by kernel_rfl) rfl (by simp [opCellsE, Value.oneCell']) ?_
        intro w9 hx9 hu9
        have X9 := Lib.hid hx9; have U9 := Lib.hid hu9
        clear hx9 hu9 a1
        go_wp2
        refine bodyPost_ret (v := opVE ⟨⟨1, 0, ⟨5, ky, [], [], 0, []⟩⟩, none, 0, 0⟩) ?_ rfl ?_
        · exact results_bx Tryz.results19 rfl X9.out Tryz.underlying41 rfl (show (Tryz.prog.info? 41).map (·.size) = some 8 by kernel_rfl)
        obtain ⟨k1, k2⟩ := S4.out.end_ U9.out
        have e : firstS l = (⟨1, 0, ⟨5, ky, [], [], 0, []⟩⟩, 2) := by
          unfold firstS; rw [<- EX.out, if_neg (by have := HC.out; omega), if_neg (by have := HC.out; omega)]; unfold callS; simp only [<- EX.out, <- Ep.out, <- Eky.out]; simp [HC.out, H9.out]
        refine ⟨⟨⟨1, 0, ⟨5, ky, [], [], 0, []⟩⟩, none, 0, 0⟩, rfl, by rw [e], ?_⟩
        rw [e]
        exact ⟨k1, by rw [drop_two]; exact k2, Sl.nil_ _ _, fun a e => nomatch e⟩
      · have H8 := Lib.hid h8; have H9 := Lib.hid h9
        have q1 : ((x : Int) / 16 == 8) = false := by simp; omega
        have q2 : ((x : Int) / 16 == 9) = false := by simp; omega
        clear h8 h9
        have HC := Lib.hid hc
        have a1 : bits .and .i64 (x : Int) 15 = 12 := by rw [A1.out, hc]; rfl
        clear hc
        go_enter Tryz.func19, Tryz.ntmps19
        go_wp2_with fail
        refine (rnextB B N l _ S0.out.rb).mono ?_
        rintro _ w1 ⟨rfl, hw1, hr1⟩
        have S1 := Lib.hid (S0.out.next hw1 hr1)
        clear hw1 hr1
        rw [<- EX.out, <- EJ.out]
        go_wp2_with fail
        refine (rnextB B N _ _ S1.out.rb).mono ?_
        rintro _ w2 ⟨rfl, hw, hr⟩
        have S2 := Lib.hid (S1.out.next hw hr)
        clear hw hr
        simp only [byteAt_tail]
        have hp := byteAt_lt l (0 + 1)
        obtain ⟨p, ep⟩ : ∃ p, p = byteAt l (0 + 1) := ⟨_, rfl⟩
        rw [<- ep] at hp ⊢
        have Ep := Lib.hid ep
        clear ep
        obtain ⟨ky, eky⟩ : ∃ k, k = letter 97 (p) := ⟨_, rfl⟩
        have Lky := Lib.hid (fun w => show Calls Tryz.prog 23 #[strV [97, 98, 99, 100], .int .i64 ((p : Int))] w (Ret w (Is (strV ky))) by
          have := onek (p) (by omega) w
          rw [<- eky] at this
          exact this)
        have Eky := Lib.hid eky
        clear eky
        go_wp2_with fail
        refine (Lky.out _).mono ?_
        rintro _ w3 ⟨_, rfl, hb, rfl⟩
        have S3 := Lib.hid (S2.out.mono hb)
        clear hb
        go_wp2_with fail
        refine (cstart ⟨4, ky, [], [], 0, []⟩ none 0 0 _).mono ?_
        rintro _ w4 ⟨_, rfl, hb, rfl⟩
        have S4 := Lib.hid (S3.out.mono ((show Below w3.heap.size w3 (w3.alloc _) from (Below.refl _ _).alloc (Nat.le_refl _) _).le hb))
        clear hb
        go_wp2_with ((with_reducible refine halt_store J ?_ ?_); (next => rfl))
        unfold Halt
        refine wpList_storeBx (J := J) rfl rfl rfl rfl rfl S4.out.bx (show (Tryz.prog.info? 41).map (·.size) = some 8 by kernel_rfl) rfl (by simp [opCellsE, Value.oneCell']) ?_
        intro w9 hx9 hu9
        have X9 := Lib.hid hx9; have U9 := Lib.hid hu9
        clear hx9 hu9 a1
        go_wp2
        refine bodyPost_ret (v := opVE ⟨⟨1, 0, ⟨4, ky, [], [], 0, []⟩⟩, none, 0, 0⟩) ?_ rfl ?_
        · exact results_bx Tryz.results19 rfl X9.out Tryz.underlying41 rfl (show (Tryz.prog.info? 41).map (·.size) = some 8 by kernel_rfl)
        obtain ⟨k1, k2⟩ := S4.out.end_ U9.out
        have e : firstS l = (⟨1, 0, ⟨4, ky, [], [], 0, []⟩⟩, 2) := by
          unfold firstS; rw [<- EX.out, if_neg (by have := HC.out; omega), if_neg (by have := HC.out; omega)]; unfold callS; simp only [<- EX.out, <- Ep.out, <- Eky.out]; simp [HC.out, H8.out, H9.out]
        refine ⟨⟨⟨1, 0, ⟨4, ky, [], [], 0, []⟩⟩, none, 0, 0⟩, rfl, by rw [e], ?_⟩
        rw [e]
        exact ⟨k1, by rw [drop_two]; exact k2, Sl.nil_ _ _, fun a e => nomatch e⟩
  · have HC := Lib.hid hc
    have a1 : bits .and .i64 (x : Int) 15 = 13 := by rw [A1.out, hc]; rfl
    clear hc
    go_enter Tryz.func19, Tryz.ntmps19
    go_wp2_with fail
    refine (rnextB B N l _ S0.out.rb).mono ?_
    rintro _ w1 ⟨rfl, hw1, hr1⟩
    have S1 := Lib.hid (S0.out.next hw1 hr1)
    clear hw1 hr1
    rw [<- EX.out, <- EJ.out]
    go_wp2_with fail
    refine (rnextB B N _ _ S1.out.rb).mono ?_
    rintro _ w2 ⟨rfl, hw, hr⟩
    have S2 := Lib.hid (S1.out.next hw hr)
    clear hw hr
    simp only [byteAt_tail]
    have hp := byteAt_lt l (0 + 1)
    obtain ⟨p, ep⟩ : ∃ p, p = byteAt l (0 + 1) := ⟨_, rfl⟩
    rw [<- ep] at hp ⊢
    have Ep := Lib.hid ep
    clear ep
    obtain ⟨ky, eky⟩ : ∃ k, k = letter 97 (p) := ⟨_, rfl⟩
    have Lky := Lib.hid (fun w => show Calls Tryz.prog 23 #[strV [97, 98, 99, 100], .int .i64 ((p : Int))] w (Ret w (Is (strV ky))) by
      have := onek (p) (by omega) w
      rw [<- eky] at this
      exact this)
    have Eky := Lib.hid eky
    clear eky
    obtain ⟨kz, ekz⟩ : ∃ k, k = letter 97 (p / 4) := ⟨_, rfl⟩
    have Lkz := Lib.hid (fun w => show Calls Tryz.prog 23 #[strV [97, 98, 99, 100], .int .i64 ((p : Int) / 4)] w (Ret w (Is (strV kz))) by
      have := onek (p / 4) (by omega) w
      rw [<- ekz] at this
      exact this)
    have Ekz := Lib.hid ekz
    clear ekz
    obtain ⟨nm, enm⟩ : ∃ k, k = letter 119 (p / 16) := ⟨_, rfl⟩
    have Lnm := Lib.hid (fun w => show Calls Tryz.prog 23 #[strV [119, 120, 121, 122], .int .i64 ((p : Int) / 16)] w (Ret w (Is (strV nm))) by
      have := onei (p / 16) (by omega) w
      rw [<- enm] at this
      exact this)
    have Enm := Lib.hid enm
    clear enm
    go_wp2_with fail
    refine (Lky.out _).mono ?_
    rintro _ w3 ⟨_, rfl, hb, rfl⟩
    have S3 := Lib.hid (S2.out.mono hb)
    clear hb
    go_wp2_with fail
    refine (Lkz.out _).mono ?_
    rintro _ w4 ⟨_, rfl, hb, rfl⟩
    have S4 := Lib.hid (S3.out.mono hb)
    clear hb
    go_wp2_with fail
    refine (Lnm.out _).mono ?_
    rintro _ w5 ⟨_, rfl, hb, rfl⟩
    have S5 := Lib.hid (S4.out.mono hb)
    clear hb
    go_wp2_with fail
    refine (cstart ⟨6, ky, kz, nm, 0, []⟩ none 0 0 _).mono ?_
    rintro _ w6 ⟨_, rfl, hb, rfl⟩
    have S6 := Lib.hid (S5.out.mono hb)
    clear hb
    go_wp2_with ((with_reducible refine halt_store J ?_ ?_); (next => rfl))
    unfold Halt
    refine wpList_storeBx (J := J) rfl rfl rfl rfl rfl S6.out.bx (show (Tryz.prog.info? 41).map (·.size) = some 8 by kernel_rfl) rfl (by simp [opCellsE, Value.oneCell']) ?_
    intro w9 hx9 hu9
    have X9 := Lib.hid hx9; have U9 := Lib.hid hu9
    clear hx9 hu9 a1
    go_wp2
    refine bodyPost_ret (v := opVE ⟨⟨1, 0, ⟨6, ky, kz, nm, 0, []⟩⟩, none, 0, 0⟩) ?_ rfl ?_
    · exact results_bx Tryz.results19 rfl X9.out Tryz.underlying41 rfl (show (Tryz.prog.info? 41).map (·.size) = some 8 by kernel_rfl)
    obtain ⟨k1, k2⟩ := S6.out.end_ U9.out
    have e : firstS l = (⟨1, 0, ⟨6, ky, kz, nm, 0, []⟩⟩, 2) := by
      unfold firstS; rw [<- EX.out, if_neg (by have := HC.out; omega), if_neg (by have := HC.out; omega)]; unfold callS; simp only [<- EX.out, <- Ep.out, <- Eky.out, <- Ekz.out, <- Enm.out]; simp [HC.out]
    refine ⟨⟨⟨1, 0, ⟨6, ky, kz, nm, 0, []⟩⟩, none, 0, 0⟩, rfl, by rw [e], ?_⟩
    rw [e]
    exact ⟨k1, by rw [drop_two]; exact k2, Sl.nil_ _ _, fun a e => nomatch e⟩
  · by_cases h8 : x / 16 = 14
    · have H8 := Lib.hid h8
      have q1 : (x : Int) / 16 = 14 := by omega
      clear h8
      have HC := Lib.hid hc
      have a1 : bits .and .i64 (x : Int) 15 = 14 := by rw [A1.out, hc]; rfl
      clear hc
      go_enter Tryz.func19, Tryz.ntmps19
      go_wp2_with fail
      refine (rnextB B N l _ S0.out.rb).mono ?_
      rintro _ w1 ⟨rfl, hw1, hr1⟩
      have S1 := Lib.hid (S0.out.next hw1 hr1)
      clear hw1 hr1
      rw [<- EX.out, <- EJ.out]
      go_wp2_with fail
      refine (rnextB B N _ _ S1.out.rb).mono ?_
      rintro _ w2 ⟨rfl, hw, hr⟩
      have S2 := Lib.hid (S1.out.next hw hr)
      clear hw hr
      simp only [byteAt_tail]
      have hp := byteAt_lt l (0 + 1)
      obtain ⟨p, ep⟩ : ∃ p, p = byteAt l (0 + 1) := ⟨_, rfl⟩
      rw [<- ep] at hp ⊢
      have Ep := Lib.hid ep
      clear ep
      go_wp2_with fail
      refine (cstart ⟨10, [], [], [], 0, []⟩ none 0 0 _).mono ?_
      rintro _ w3 ⟨_, rfl, hb, rfl⟩
      have S3 := Lib.hid (S2.out.mono hb)
      clear hb
      go_wp2_with ((with_reducible refine halt_store J ?_ ?_); (next => rfl))
      unfold Halt
      refine wpList_storeBx (J := J) rfl rfl rfl rfl rfl S3.out.bx (show (Tryz.prog.info? 41).map (·.size) = some 8 by kernel_rfl) rfl (by simp [opCellsE, Value.oneCell']) ?_
      intro w9 hx9 hu9
      have X9 := Lib.hid hx9; have U9 := Lib.hid hu9
      clear hx9 hu9 a1
      go_wp2
      refine bodyPost_ret (v := opVE ⟨⟨1, 0, ⟨10, [], [], [], 0, []⟩⟩, none, 0, 0⟩) ?_ rfl ?_
      · exact results_bx Tryz.results19 rfl X9.out Tryz.underlying41 rfl (show (Tryz.prog.info? 41).map (·.size) = some 8 by kernel_rfl)
      obtain ⟨k1, k2⟩ := S3.out.end_ U9.out
      have e : firstS l = (⟨1, 0, ⟨10, [], [], [], 0, []⟩⟩, 2) := by
        unfold firstS; rw [<- EX.out, if_neg (by have := HC.out; omega), if_neg (by have := HC.out; omega)]; unfold callS; simp only [<- EX.out, <- Ep.out]; simp [HC.out, H8.out]
      refine ⟨⟨⟨1, 0, ⟨10, [], [], [], 0, []⟩⟩, none, 0, 0⟩, rfl, by rw [e], ?_⟩
      rw [e]
      exact ⟨k1, by rw [drop_two]; exact k2, Sl.nil_ _ _, fun a e => nomatch e⟩
    · by_cases h9 : x / 16 = 15
      · have H9 := Lib.hid h9
        have q1 : (x : Int) / 16 = 15 := by omega
        clear h8 h9
        have HC := Lib.hid hc
        have a1 : bits .and .i64 (x : Int) 15 = 14 := by rw [A1.out, hc]; rfl
        clear hc
        go_enter Tryz.func19, Tryz.ntmps19
        go_wp2_with fail
        refine (rnextB B N l _ S0.out.rb).mono ?_
        rintro _ w1 ⟨rfl, hw1, hr1⟩
        have S1 := Lib.hid (S0.out.next hw1 hr1)
        clear hw1 hr1
        rw [<- EX.out, <- EJ.out]
        go_wp2_with fail
        refine (rnextB B N _ _ S1.out.rb).mono ?_
        rintro _ w2 ⟨rfl, hw, hr⟩
        have S2 := Lib.hid (S1.out.next hw hr)
        clear hw hr
        simp only [byteAt_tail]
        have hp := byteAt_lt l (0 + 1)
        obtain ⟨p, ep⟩ : ∃ p, p = byteAt l (0 + 1) := ⟨_, rfl⟩
        rw [<- ep] at hp ⊢
        have Ep := Lib.hid ep
        clear ep
        go_wp2_with fail
        refine (cstart ⟨11, [], [], [], 0, []⟩ none 0 0 _).mono ?_
        rintro _ w3 ⟨_, rfl, hb, rfl⟩
        have S3 := Lib.hid (S2.out.mono hb)
        clear hb
        go_wp2_with ((with_reducible refine halt_store J ?_ ?_); (next => rfl))
        unfold Halt
        refine wpList_storeBx (J := J) rfl rfl rfl rfl rfl S3.out.bx (show (Tryz.prog.info? 41).map (·.size) = some 8 by kernel_rfl) rfl (by simp [opCellsE, Value.oneCell']) ?_
        intro w9 hx9 hu9
        have X9 := Lib.hid hx9; have U9 := Lib.hid hu9
        clear hx9 hu9 a1
        go_wp2
        refine bodyPost_ret (v := opVE ⟨⟨1, 0, ⟨11, [], [], [], 0, []⟩⟩, none, 0, 0⟩) ?_ rfl ?_
        · exact results_bx Tryz.results19 rfl X9.out Tryz.underlying41 rfl (show (Tryz.prog.info? 41).map (·.size) = some 8 by kernel_rfl)
        obtain ⟨k1, k2⟩ := S3.out.end_ U9.out
        have e : firstS l = (⟨1, 0, ⟨11, [], [], [], 0, []⟩⟩, 2) := by
          unfold firstS; rw [<- EX.out, if_neg (by have := HC.out; omega), if_neg (by have := HC.out; omega)]; unfold callS; simp only [<- EX.out, <- Ep.out]; simp [HC.out, H9.out]
        refine ⟨⟨⟨1, 0, ⟨11, [], [], [], 0, []⟩⟩, none, 0, 0⟩, rfl, by rw [e], ?_⟩
        rw [e]
        exact ⟨k1, by rw [drop_two]; exact k2, Sl.nil_ _ _, fun a e => nomatch e⟩
      · have H8 := Lib.hid h8; have H9 := Lib.hid h9
        have q1 : ¬ (x : Int) / 16 = 14 := by omega
        have q2 : ¬ (x : Int) / 16 = 15 := by omega
        clear h8 h9
        have HC := Lib.hid hc
        have a1 : bits .and .i64 (x : Int) 15 = 14 := by rw [A1.out, hc]; rfl
        clear hc
        go_enter Tryz.func19, Tryz.ntmps19
        go_wp2_with fail
        refine (rnextB B N l _ S0.out.rb).mono ?_
        rintro _ w1 ⟨rfl, hw1, hr1⟩
        have S1 := Lib.hid (S0.out.next hw1 hr1)
        clear hw1 hr1
        rw [<- EX.out, <- EJ.out]
        go_wp2_with fail
        refine (rnextB B N _ _ S1.out.rb).mono ?_
        rintro _ w2 ⟨rfl, hw, hr⟩
        have S2 := Lib.hid (S1.out.next hw hr)
        clear hw hr
        simp only [byteAt_tail]
        have hp := byteAt_lt l (0 + 1)
        obtain ⟨p, ep⟩ : ∃ p, p = byteAt l (0 + 1) := ⟨_, rfl⟩
        rw [<- ep] at hp ⊢
        have Ep := Lib.hid ep
        clear ep
        obtain ⟨ky, eky⟩ : ∃ k, k = letter 97 (p) := ⟨_, rfl⟩
        have Lky := Lib.hid (fun w => show Calls Tryz.prog 23 #[strV [97, 98, 99, 100], .int .i64 ((p : Int))] w (Ret w (Is (strV ky))) by
          have := onek (p) (by omega) w
          rw [<- eky] at this
          exact this)
        have Eky := Lib.hid eky
        clear eky
        obtain ⟨kz, ekz⟩ : ∃ k, k = letter 97 (p / 4) := ⟨_, rfl⟩
        have Lkz := Lib.hid (fun w => show Calls Tryz.prog 23 #[strV [97, 98, 99, 100], .int .i64 ((p : Int) / 4)] w (Ret w (Is (strV kz))) by
          have := onek (p / 4) (by omega) w
          rw [<- ekz] at this
          exact this)
        have Ekz := Lib.hid ekz
        clear ekz
        go_wp2_with fail
        refine (Lky.out _).mono ?_
        rintro _ w3 ⟨_, rfl, hb, rfl⟩
        have S3 := Lib.hid (S2.out.mono hb)
        clear hb
        go_wp2_with fail
        refine (Lkz.out _).mono ?_
        rintro _ w4 ⟨_, rfl, hb, rfl⟩
        have S4 := Lib.hid (S3.out.mono hb)
        clear hb
        go_wp2_with fail
        refine (cstart ⟨7, ky, kz, [], 0, []⟩ none 0 0 _).mono ?_
        rintro _ w5 ⟨_, rfl, hb, rfl⟩
        have S5 := Lib.hid (S4.out.mono hb)
        clear hb
        go_wp2_with ((with_reducible refine halt_store J ?_ ?_); (next => rfl))
        unfold Halt
        refine wpList_storeBx (J := J) rfl rfl rfl rfl rfl S5.out.bx (show (Tryz.prog.info? 41).map (·.size) = some 8 by kernel_rfl) rfl (by simp [opCellsE, Value.oneCell']) ?_
        intro w9 hx9 hu9
        have X9 := Lib.hid hx9; have U9 := Lib.hid hu9
        clear hx9 hu9 a1
        go_wp2
        refine bodyPost_ret (v := opVE ⟨⟨1, 0, ⟨7, ky, kz, [], 0, []⟩⟩, none, 0, 0⟩) ?_ rfl ?_
        · exact results_bx Tryz.results19 rfl X9.out Tryz.underlying41 rfl (show (Tryz.prog.info? 41).map (·.size) = some 8 by kernel_rfl)
        obtain ⟨k1, k2⟩ := S5.out.end_ U9.out
        have e : firstS l = (⟨1, 0, ⟨7, ky, kz, [], 0, []⟩⟩, 2) := by
          unfold firstS; rw [<- EX.out, if_neg (by have := HC.out; omega), if_neg (by have := HC.out; omega)]; unfold callS; simp only [<- EX.out, <- Ep.out, <- Eky.out, <- Ekz.out]; simp [HC.out, H8.out, H9.out]
        refine ⟨⟨⟨1, 0, ⟨7, ky, kz, [], 0, []⟩⟩, none, 0, 0⟩, rfl, by rw [e], ?_⟩
        rw [e]
        exact ⟨k1, by rw [drop_two]; exact k2, Sl.nil_ _ _, fun a e => nomatch e⟩
  · have HC := Lib.hid hc
    have a1 : bits .and .i64 (x : Int) 15 = 15 := by rw [A1.out, hc]; rfl
    clear hc
    go_enter Tryz.func19, Tryz.ntmps19
    go_wp2_with fail
    refine (rnextB B N l _ S0.out.rb).mono ?_
    rintro _ w1 ⟨rfl, hw1, hr1⟩
    have S1 := Lib.hid (S0.out.next hw1 hr1)
    clear hw1 hr1
    rw [<- EX.out, <- EJ.out]
    have CD := Lib.hid (show Calls Tryz.prog 36 #[.int .i64 ((x : Int) / 16), nextV N] w1 (fun e w' => ∃ A n m, e = .returned (callV (deliverS (x / 16) l.tail).1 A n m) ∧ RdPost B N l.tail (deliverS (x / 16) l.tail).2 A n m (deliverS (x / 16) l.tail).1.data w1 w') by
      have := cdeliver B N (x / 16) (by omega) l.tail w1 S1.out.rb (by have := S1.out.size; have := HB.out; omega)
      rw [Int.natCast_ediv] at this
      exact this)
    have CE := Lib.hid (callS_deliver (l := l) (by rw [<- EX.out]; exact HC.out))
    rw [<- EX.out] at CE
    generalize deliverS (x / 16) l.tail = D at *
    obtain ⟨c, k⟩ := D
    simp only at CD CE
    go_wp2_with fail
    refine CD.out.mono ?_
    rintro _ w2 ⟨A2, n2, m2, rfl, hd⟩
    have HD := Lib.hid hd
    have S2 := Lib.hid (show St B N J w (l.tail.drop k) opZ w2 from ⟨S1.out.wr.trans hd.wr (.inl rfl), hd.rb, S1.out.bx.wrote hd.wr (by have := HB.out; have := S1.out.rb.lt; have := EJ.out; omega) (by simp), HB.out, Nat.le_of_eq EJ.out.symm⟩)
    clear hd CD
    go_wp2_with fail
    refine (cstart c A2 n2 m2 w2).mono ?_
    rintro _ w3 ⟨_, rfl, hb, rfl⟩
    have S3 := Lib.hid (S2.out.mono hb)
    have SL := Lib.hid (HD.out.sl.mono hb)
    have OF := Lib.hid (fun a e => show w1.heap.size <= a.block ∧ a.block < w3.heap.size from ⟨(HD.out.off a e).1, Nat.lt_of_lt_of_le (HD.out.off a e).2 hb.size⟩)
    clear hb
    go_wp2_with ((with_reducible refine halt_store J ?_ ?_); (next => rfl))
    unfold Halt
    refine wpList_storeBx (J := J) rfl rfl rfl rfl rfl S3.out.bx (show (Tryz.prog.info? 41).map (·.size) = some 8 by kernel_rfl) rfl (by simp [opCellsE, Value.oneCell']) ?_
    intro w9 hx9 hu9
    have X9 := Lib.hid hx9; have U9 := Lib.hid hu9
    clear hx9 hu9 a1
    go_wp2
    refine bodyPost_ret (v := opVE ⟨⟨1, 0, c⟩, A2, n2, m2⟩) ?_ rfl ?_
    · exact results_bx Tryz.results19 rfl X9.out Tryz.underlying41 rfl (show (Tryz.prog.info? 41).map (·.size) = some 8 by kernel_rfl)
    obtain ⟨k1, k2⟩ := S3.out.end_ U9.out
    have e : firstS l = (⟨1, 0, c⟩, k + 1) := by
      unfold firstS; rw [<- EX.out, if_neg (by have := HC.out; omega), if_neg (by have := HC.out; omega), CE.out]
    refine ⟨⟨⟨1, 0, c⟩, A2, n2, m2⟩, rfl, by rw [e], ?_⟩
    rw [e]
    have hj : J < w1.heap.size := S1.out.bx.lt
    have hz := U9.out.size
    have hw := S1.out.size
    exact ⟨k1, by rw [show l.drop (k + 1) = l.tail.drop k by cases l <;> simp]; exact k2, SL.out.wrote U9.out.wrote (fun a e => by have := OF.out a e; omega), fun a e => ⟨by have := OF.out a e; omega, by have := OF.out a e; omega⟩⟩
end Go.Proofs.YtphhhnjeojdnkaaGreatDoor

/-
  script.Parse.
-/
namespace Go.Proofs.YtphhhnjeojdnkaaGreatDoor
open Go.RowKit
theorem small_len {a b n m : Nat} (h1 : a + b <= m) (h2 : n = m) (h3 : n <= 4096) (h4 : 0 < b) : a + 1 <= 1000000 := Nat.le_trans (show a + 1 <= 4097 by omega) (by decide)
def lenOfV : Value -> Nat
  | .slice _ n _ => n
  | _ => 0
def lenAt (N : Nat) (w : World) : Nat := lenOfV ((w.cell? ⟨N, 0, none⟩).getD undef)
theorem lenAt_rb {B N : Nat} {l : List UInt8} {w : World} (h : RB B N l w) : lenAt N w = l.length := by
  obtain ⟨⟨A, n, c, h1, h2, _⟩, _, _⟩ := h
  unfold lenAt
  rw [h1]
  exact h2.len
def ParseRel (w : World) (N : Nat) (l : List UInt8) (u : Value) (wr : World) : Prop :=
  ∃ dn rest, parseS l = dn ++ parseS rest ∧ dn.length + rest.length <= l.length ∧ Below w.heap.size w wr ∧ N < wr.heap.size ∧ RB (N + 1) N rest wr ∧ ORow wr (N + 1) u dn
theorem cParseLong {A : Option Addr} {n c : Nat} (hn : 4096 < n) (w : World) : Calls Tryz.prog 7 #[.slice A n c] w (Ret w (Is (.tuple #[.slice none 0 0, .int .i64 5]))) := by
  have h1 : (4096 : Int) < (n : Int) := by omega
  go_enter Tryz.func7, Tryz.ntmps7
  go_wp2
  refine bodyPost_ret (v := .tuple #[.slice none 0 0, .int .i64 5]) (by simp [results, Tryz.results7, go_sem]) rfl ?_
  exact ⟨_, rfl, Below.refl _ _, rfl⟩
theorem cParse {A : Option Addr} {n c : Nat} {l : List UInt8} {w : World} (h : Sl encB w A n c l) (hn : n <= 4096) : Calls Tryz.prog 7 #[.slice A n c] w (Ret w (IsPair (fun w' v => ORow w' w.heap.size v (parseS l)) 0)) := by
  have h1 : ¬ (4096 : Int) < (n : Int) := by omega
  have hl := h.len
  have hbg := h.big
  by_cases hl0 : l = []
  · subst hl0
    have h0 : n = 0 := hl
    subst h0
    clear h hl hbg hn
    go_enter Tryz.func7, Tryz.ntmps7
    go_wp2
    refine wp_loop_rounds 1 ?_
    rw [rounds_succ]
    go_wp2
    refine bodyPost_ret (v := .tuple #[.slice none 0 0, .int .i64 0]) (by simp [results, Tryz.results7, go_sem]) rfl ?_
    exact ⟨_, rfl, by go_grown, _, rfl, by rw [parseS_nil]; exact ORow.nil_ _ _⟩
  · have hA : ∃ b o, A = some ⟨b, o, none⟩ ∧ b < w.heap.size := by
      obtain ⟨x, t, rfl⟩ := List.exists_cons_of_ne_nil hl0
      obtain ⟨b, o, e, hb, _⟩ := h.cell 0 x rfl
      exact ⟨b, o, e, hb⟩
    obtain ⟨N, hN⟩ : ∃ N, N = w.heap.size := ⟨_, rfl⟩
    have hx : Below w.heap.size w (w.alloc (.cells #[.slice A n c] 52)) := (Below.refl _ _).alloc (Nat.le_refl _) _
    have hr : RB (N + 1) N l (w.alloc (.cells #[.slice A n c] 52)) := by
      obtain ⟨b, o, rfl, hb⟩ := hA
      refine ⟨⟨_, n, c, by rw [hN]; simp [go_sem], h.mono hx, fun a e => by cases e; exact ⟨show b ≠ N by omega, show b < N + 1 by omega⟩⟩, by rw [hN]; simp [go_sem], by omega⟩
    have HR := Lib.hid hr; have HX := Lib.hid hx; have HN := Lib.hid hN; have HL := Lib.hid hl
    have HN4 := Lib.hid hn
    clear h hA hr hx hl hn hl0 hN
    go_enter Tryz.func7, Tryz.ntmps7
    go_wp2
    rw [<- HN.out]
    go_loopw [4] (fun u wr => ParseRel w N l u wr) (fun _ wr => lenAt N wr)
    case atStart => exact ⟨[], l, rfl, by simp, HX.out, by rw [HN.out]; simp, HR.out, ORow.nil_ _ _⟩
    case round =>
      obtain ⟨dn, rest, hp, hle, hb, hNw, hrb, hown⟩ := hrel
      obtain ⟨⟨A2, n2, c2, c0, hs2, _⟩, _, _⟩ := id hrb
      have hlen2 := hs2.len
      have hbig2 := hs2.big
      have RBH := Lib.hid hrb; have OW := Lib.hid hown; have HP := Lib.hid hp; have HLE := Lib.hid hle; have HB := Lib.hid hb; have C0 := Lib.hid c0; have L2 := Lib.hid hlen2
      clear hrb hown hp hle hb hs2 hlen2
      by_cases h0 : n2 = 0
      · subst h0
        go_wp2
        refine bodyPost_ret (v := .tuple #[u4, .int .i64 0]) (by simp [results, Tryz.results7, go_sem]) rfl ?_
        have hr0 : rest = [] := List.eq_nil_of_length_eq_zero L2.out.symm
        have e := HP.out
        rw [hr0, parseS_nil, List.append_nil] at e
        exact ⟨_, rfl, HB.out, _, rfl, by rw [e]; exact OW.out.low (by have := HN.out; omega)⟩
      · have hpos : (0 : Int) < (n2 : Int) := by omega
        go_wp2_with fail
        have NW := Lib.hid hNw
        refine (cop (N + 1) N rest wr RBH.out (by omega)).mono ?_
        rintro _ w1 ⟨s, rfl, hso, hd⟩
        have hbw : Below w.heap.size wr w1 := hd.wr.below (by have := HB.out.size; omega) (by have := HN.out; omega) (fun q hq => nomatch hq)
        have OW1 := Lib.hid (OW.out.wrote hd.wr (by omega))
        have OU := Lib.hid OW.out.own
        have HB1 := Lib.hid (below_trans HB.out hbw)
        have R1 := Lib.hid hd.rb
        have SO := Lib.hid hso
        have hoff : OffO w1 (N + 1) u4.ownBlock s := ⟨hd.sl, fun a e => (hd.off a e).2, fun a e e2 => by have h1 := OU.out _ e2.symm; have h2 := hd.off a e; omega, fun a e => by have h2 := hd.off a e; have := NW.out; omega⟩
        have OF := Lib.hid hoff
        have Z1 := Lib.hid hd.wr.size
        have hw1 : Below w1.heap.size w1 (w1.alloc (.cells (opCellsE s) 41)) := (Below.refl _ _).alloc (Nat.le_refl _) _
        have OW2 := Lib.hid (OW1.out.mono hw1); have OF2 := Lib.hid (OF.out.mono hw1); have K2 := Lib.hid (newOp w1 s)
        have R2 := Lib.hid (R1.out.keep (below_low hw1 (by have := Z1.out; omega)) (by have := Z1.out; omega))
        have HB2 := Lib.hid (below_trans HB1.out (below_low hw1 (HB1.out.size)))
        have hpos2 := List.length_pos_iff.2 (show rest ≠ [] from fun e => by have := L2.out; rw [e] at this; exact h0 this)
        have hdn : dn.length + 1 <= 1000000 := small_len HLE.out HL.out HN4.out hpos2
        have DN := Lib.hid hdn
        have RP := Lib.hid hpos2
        have RNE := Lib.hid (show rest ≠ [] from fun e => by have := L2.out; rw [e] at this; exact h0 this)
        clear hd hso hoff hbw hw1 hdn hpos2 c0 hpos hNw
        rw [show opVE s = .agg #[.int .i64 s.o.kind, .int .i64 s.o.n, .int .i64 s.o.call.op, strV s.o.call.key, strV s.o.call.other, strV s.o.call.item, .int .i64 s.o.call.qty, .slice s.A s.n s.c] from rfl]
        go_wp2_with (first
          | (at_builtin; refine wpList_appOps (B := N + 1) (l := dn) (e := s) rfl rfl Tryz.underlying24 rfl rfl OW2.out K2.out OF2.out DN.out (by have := NW.out; have := Z1.out; simp; omega) ?_; intro u5 w5 ho5 hg5; have O5 := Lib.hid ho5; have G5 := Lib.hid hg5; clear ho5 hg5; simp only [Act.put, List.setIfInBounds_toArray, List.set_cons_zero, List.set_cons_succ])
          | fail)
        have g5 : (w1.alloc (.cells (opCellsE s) 41)).grownBy w5 u4.ownBlock := G5.out
        have hz2 : N + 1 <= (w1.alloc (.cells (opCellsE s) 41)).heap.size := by have := NW.out; have := Z1.out; simp; omega
        have hb5 : Below (N + 1) (w1.alloc (.cells (opCellsE s) 41)) w5 := (Below.refl _ _).grown g5 hz2 (fun q hq => (OU.out q hq).1)
        have r5 := R2.out.keep hb5 hz2
        have hb6 := HB2.out.grown g5 HB2.out.size (fun q hq => by have := (OU.out q hq).1; have := HN.out; omega)
        have hk := firstS_pos rest
        have e1 : parseS l = (dn ++ [s.o]) ++ parseS (rest.drop (firstS rest).2) := by rw [HP.out, parseS_cons RNE.out, SO.out]; simp
        have hls := HLE.out
        have hrp := RP.out
        refine ⟨⟨dn ++ [s.o], rest.drop (firstS rest).2, e1, by simp; omega, hb6, by have := hb5.size; omega, r5, O5.out⟩, ?_⟩
        rw [lenAt_rb r5, lenAt_rb RBH.out]
        simp; omega
end Go.Proofs.YtphhhnjeojdnkaaGreatDoor

/-
  ref30.call.
-/
namespace Go.Proofs.YtphhhnjeojdnkaaGreatDoor
open Go.RowKit
structure StR (J : Nat) (w0 : World) (cs : List Value) (w : World) : Prop where
  be : Below w0.heap.size w0 w
  bx : Bx w J cs
  hJ : w0.heap.size <= J
theorem StR.mono {J : Nat} {w0 w w' : World} {cs : List Value} (h : StR J w0 cs w) (hb : Below w.heap.size w w') : StR J w0 cs w' := ⟨h.be.le hb, h.bx.mono hb, h.hJ⟩
theorem StR.end_ {J : Nat} {w0 w w' : World} {cs : List Value} (h : StR J w0 cs w) (hu : Upd J w w') : Below w0.heap.size w0 w' := below_trans h.be (hu.below h.hJ)
structure NewD (A : Option Addr) (n m : Nat) (d : List UInt8) (w w' : World) : Prop where
  be : Below w.heap.size w w'
  sl : Sl encB w' A n m d
  off : ∀ a, A = some a -> w.heap.size <= a.block ∧ a.block < w'.heap.size
abbrev callBox0 : Obj := .cells #[.int .i64 0, .string ⟨#[]⟩, .string ⟨#[]⟩, .string ⟨#[]⟩, .int .i64 0, .slice none 0 0] 39
def callZ : List Value := [.int .i64 0, .string ⟨#[]⟩, .string ⟨#[]⟩, .string ⟨#[]⟩, .int .i64 0, .slice none 0 0]
theorem callStart (w : World) : StR w.heap.size w callZ (w.alloc callBox0) := ⟨(Below.refl _ _).alloc (Nat.le_refl _) _, Bx.new w _ _, Nat.le_refl _⟩
theorem wrap_small {x : Nat} (h : x < 256) : wrap64 ((x : Int) / 16) = (x : Int) / 16 := by
  exact IntWalk.wrap64_in _ (by omega)
theorem ratB {A : Option Addr} {n c : Nat} {l : List UInt8} {w : World} (h : Sl encB w A n c l) (i : Nat) : Calls Tryz.prog 37 #[.slice A n c, .int .i64 i] w (Ret w (IsI (byteAt l i : Nat))) := rat A n c i l w h
theorem rcall {A : Option Addr} {n c : Nat} {l : List UInt8} {w : World} (h : Sl encB w A n c l) (h9 : 9 <= byteAt l 0 % 16) : Calls Tryz.prog 38 #[.slice A n c] w
    (fun e w' => ∃ A n m, e = .returned (.tuple #[callV (callS l).1 A n m, .int .i64 ((callS l).2 : Nat)]) ∧ NewD A n m (callS l).1.data w w') := by
  have S0 := Lib.hid (callStart w)
  have D0 := Lib.hid (h.mono S0.out.be)
  clear h
  have hx := byteAt_lt l 0; have hp := byteAt_lt l 1; have hq := byteAt_lt l 2
  obtain ⟨x, ex⟩ : ∃ x, x = byteAt l 0 := ⟨_, rfl⟩
  obtain ⟨p, ep⟩ : ∃ p, p = byteAt l 1 := ⟨_, rfl⟩
  obtain ⟨q, eq⟩ : ∃ q, q = byteAt l 2 := ⟨_, rfl⟩
  obtain ⟨J, ej⟩ : ∃ J, J = w.heap.size := ⟨_, rfl⟩
  rw [<- ej] at S0
  rw [<- ex] at hx h9; rw [<- ep] at hp; rw [<- eq] at hq
  have EX := Lib.hid ex; have EJ := Lib.hid ej; have EP := Lib.hid ep; have EQ := Lib.hid eq
  clear ex ej ep eq
  have hcase : x % 16 = 9 ∨ x % 16 = 10 ∨ x % 16 = 11 ∨ x % 16 = 12 ∨ x % 16 = 13 ∨ x % 16 = 14 ∨ x % 16 = 15 := by omega
  rcases hcase with hc | hc | hc | hc | hc | hc | hc
  · have HC := Lib.hid hc
    have a1 : (x : Int) % 16 = 9 := by omega
    clear hc h9
    go_enter Tryz.func38, Tryz.ntmps38
    go_wp2_with fail
    rw [<- EJ.out]
    refine (ratB D0.out 0).mono ?_
    rintro _ w1 ⟨_, rfl, hb, rfl⟩
    have S1 := Lib.hid (S0.out.mono hb)
    have D1 := Lib.hid (D0.out.mono hb)
    clear hb
    go_wp2_with fail
    refine (ratB D1.out 1).mono ?_
    rintro _ w2 ⟨_, rfl, hb, rfl⟩
    have S2 := Lib.hid (S1.out.mono hb)
    have D2 := Lib.hid (D1.out.mono hb)
    clear hb
    go_wp2_with fail
    refine (ratB D2.out 2).mono ?_
    rintro _ w3 ⟨_, rfl, hb, rfl⟩
    have S3 := Lib.hid (S2.out.mono hb)
    have D3 := Lib.hid (D2.out.mono hb)
    clear hb
    go_wp2_with fail
    refine (ratB D3.out 0).mono ?_
    rintro _ w4 ⟨_, rfl, hb, rfl⟩
    have S4 := Lib.hid (S3.out.mono hb)
    have D4 := Lib.hid (D3.out.mono hb)
    clear hb
    rw [<- EX.out, <- EP.out, <- EQ.out]
    obtain ⟨ky, eky⟩ : ∃ k, k = letter 97 (p) := ⟨_, rfl⟩
    have Lky := Lib.hid (fun w => show Calls Tryz.prog 28 #[.int .i64 ((p : Int))] w (Ret w (Is (strV ky))) by
      have := rkey (p) w
      rw [<- eky] at this
      exact this)
    have Eky := Lib.hid eky
    clear eky
    obtain ⟨nm, enm⟩ : ∃ k, k = letter 119 (p / 4) := ⟨_, rfl⟩
    have Lnm := Lib.hid (fun w => show Calls Tryz.prog 26 #[.int .i64 ((p : Int) / 4)] w (Ret w (Is (strV nm))) by
      have := ritem (p / 4) w
      rw [<- enm] at this
      exact this)
    have Enm := Lib.hid enm
    clear enm
    go_wp2_with fail
    refine (Lky.out _).mono ?_
    rintro _ w5 ⟨_, rfl, hb, rfl⟩
    have S5 := Lib.hid (S4.out.mono hb)
    clear hb
    go_wp2_with fail
    refine (Lnm.out _).mono ?_
    rintro _ w6 ⟨_, rfl, hb, rfl⟩
    have S6 := Lib.hid (S5.out.mono hb)
    clear hb
    go_wp2_with ((with_reducible refine halt_store J ?_ ?_); (next => rfl))
    unfold Halt
    refine wpList_storeBx (J := J) rfl rfl rfl rfl rfl S6.out.bx (show (Tryz.prog.info? 39).map (·.size) = some 6 by kernel_rfl) rfl (by simp [Value.oneCell']) ?_
    intro w9 hx9 hu9
    have X9 := Lib.hid hx9; have U9 := Lib.hid hu9
    clear hx9 hu9 a1
    go_wp2
    refine bodyPost_ret (v := .tuple #[callV ⟨1, ky, [], nm, (q : Int) + 1, []⟩ none 0 0, .int .i64 3]) ?_ rfl ?_
    · exact results_bx2 Tryz.results38 rfl rfl X9.out Tryz.underlying39 rfl (show (Tryz.prog.info? 39).map (·.size) = some 6 by kernel_rfl)
    have e : callS l = (⟨1, ky, [], nm, (q : Int) + 1, []⟩, 3) := by
      unfold callS; simp only [<- EX.out, <- EP.out, <- EQ.out, <- Eky.out, <- Enm.out]; simp [HC.out]
    rw [e]
    exact ⟨_, _, _, rfl, S6.out.end_ U9.out, Sl.nil_ _ _, fun a e => nomatch e⟩
  · have HC := Lib.hid hc
    have a1 : (x : Int) % 16 = 10 := by omega
    clear hc h9
    go_enter Tryz.func38, Tryz.ntmps38
    go_wp2_with fail
    rw [<- EJ.out]
    refine (ratB D0.out 0).mono ?_
    rintro _ w1 ⟨_, rfl, hb, rfl⟩
    have S1 := Lib.hid (S0.out.mono hb)
    have D1 := Lib.hid (D0.out.mono hb)
    clear hb
    go_wp2_with fail
    refine (ratB D1.out 1).mono ?_
    rintro _ w2 ⟨_, rfl, hb, rfl⟩
    have S2 := Lib.hid (S1.out.mono hb)
    have D2 := Lib.hid (D1.out.mono hb)
    clear hb
    go_wp2_with fail
    refine (ratB D2.out 2).mono ?_
    rintro _ w3 ⟨_, rfl, hb, rfl⟩
    have S3 := Lib.hid (S2.out.mono hb)
    have D3 := Lib.hid (D2.out.mono hb)
    clear hb
    go_wp2_with fail
    refine (ratB D3.out 0).mono ?_
    rintro _ w4 ⟨_, rfl, hb, rfl⟩
    have S4 := Lib.hid (S3.out.mono hb)
    have D4 := Lib.hid (D3.out.mono hb)
    clear hb
    rw [<- EX.out, <- EP.out, <- EQ.out]
    obtain ⟨ky, eky⟩ : ∃ k, k = letter 97 (p) := ⟨_, rfl⟩
    have Lky := Lib.hid (fun w => show Calls Tryz.prog 28 #[.int .i64 ((p : Int))] w (Ret w (Is (strV ky))) by
      have := rkey (p) w
      rw [<- eky] at this
      exact this)
    have Eky := Lib.hid eky
    clear eky
    obtain ⟨nm, enm⟩ : ∃ k, k = letter 119 (p / 4) := ⟨_, rfl⟩
    have Lnm := Lib.hid (fun w => show Calls Tryz.prog 26 #[.int .i64 ((p : Int) / 4)] w (Ret w (Is (strV nm))) by
      have := ritem (p / 4) w
      rw [<- enm] at this
      exact this)
    have Enm := Lib.hid enm
    clear enm
    go_wp2_with fail
    refine (Lky.out _).mono ?_
    rintro _ w5 ⟨_, rfl, hb, rfl⟩
    have S5 := Lib.hid (S4.out.mono hb)
    clear hb
    go_wp2_with fail
    refine (Lnm.out _).mono ?_
    rintro _ w6 ⟨_, rfl, hb, rfl⟩
    have S6 := Lib.hid (S5.out.mono hb)
    clear hb
    go_wp2_with ((with_reducible refine halt_store J ?_ ?_); (next => rfl))
    unfold Halt
    refine wpList_storeBx (J := J) rfl rfl rfl rfl rfl S6.out.bx (show (Tryz.prog.info? 39).map (·.size) = some 6 by kernel_rfl) rfl (by simp [Value.oneCell']) ?_
    intro w9 hx9 hu9
    have X9 := Lib.hid hx9; have U9 := Lib.hid hu9
    clear hx9 hu9 a1
    go_wp2
    refine bodyPost_ret (v := .tuple #[callV ⟨2, ky, [], nm, (q : Int) + 1, []⟩ none 0 0, .int .i64 3]) ?_ rfl ?_
    · exact results_bx2 Tryz.results38 rfl rfl X9.out Tryz.underlying39 rfl (show (Tryz.prog.info? 39).map (·.size) = some 6 by kernel_rfl)
    have e : callS l = (⟨2, ky, [], nm, (q : Int) + 1, []⟩, 3) := by
      unfold callS; simp only [<- EX.out, <- EP.out, <- EQ.out, <- Eky.out, <- Enm.out]; simp [HC.out]
    rw [e]
    exact ⟨_, _, _, rfl, S6.out.end_ U9.out, Sl.nil_ _ _, fun a e => nomatch e⟩
  · have HC := Lib.hid hc
    have a1 : (x : Int) % 16 = 11 := by omega
    clear hc h9
    go_enter Tryz.func38, Tryz.ntmps38
    go_wp2_with fail
    rw [<- EJ.out]
    refine (ratB D0.out 0).mono ?_
    rintro _ w1 ⟨_, rfl, hb, rfl⟩
    have S1 := Lib.hid (S0.out.mono hb)
    have D1 := Lib.hid (D0.out.mono hb)
    clear hb
    go_wp2_with fail
    refine (ratB D1.out 1).mono ?_
    rintro _ w2 ⟨_, rfl, hb, rfl⟩
    have S2 := Lib.hid (S1.out.mono hb)
    have D2 := Lib.hid (D1.out.mono hb)
    clear hb
    go_wp2_with fail
    refine (ratB D2.out 2).mono ?_
    rintro _ w3 ⟨_, rfl, hb, rfl⟩
    have S3 := Lib.hid (S2.out.mono hb)
    have D3 := Lib.hid (D2.out.mono hb)
    clear hb
    go_wp2_with fail
    refine (ratB D3.out 0).mono ?_
    rintro _ w4 ⟨_, rfl, hb, rfl⟩
    have S4 := Lib.hid (S3.out.mono hb)
    have D4 := Lib.hid (D3.out.mono hb)
    clear hb
    rw [<- EX.out, <- EP.out, <- EQ.out]
    obtain ⟨ky, eky⟩ : ∃ k, k = letter 97 (p) := ⟨_, rfl⟩
    have Lky := Lib.hid (fun w => show Calls Tryz.prog 28 #[.int .i64 ((p : Int))] w (Ret w (Is (strV ky))) by
      have := rkey (p) w
      rw [<- eky] at this
      exact this)
    have Eky := Lib.hid eky
    clear eky
    obtain ⟨nm, enm⟩ : ∃ k, k = letter 119 (p / 4) := ⟨_, rfl⟩
    have Lnm := Lib.hid (fun w => show Calls Tryz.prog 26 #[.int .i64 ((p : Int) / 4)] w (Ret w (Is (strV nm))) by
      have := ritem (p / 4) w
      rw [<- enm] at this
      exact this)
    have Enm := Lib.hid enm
    clear enm
    go_wp2_with fail
    refine (Lky.out _).mono ?_
    rintro _ w5 ⟨_, rfl, hb, rfl⟩
    have S5 := Lib.hid (S4.out.mono hb)
    clear hb
    go_wp2_with fail
    refine (Lnm.out _).mono ?_
    rintro _ w6 ⟨_, rfl, hb, rfl⟩
    have S6 := Lib.hid (S5.out.mono hb)
    clear hb
    go_wp2_with ((with_reducible refine halt_store J ?_ ?_); (next => rfl))
    unfold Halt
    refine wpList_storeBx (J := J) rfl rfl rfl rfl rfl S6.out.bx (show (Tryz.prog.info? 39).map (·.size) = some 6 by kernel_rfl) rfl (by simp [Value.oneCell']) ?_
    intro w9 hx9 hu9
    have X9 := Lib.hid hx9; have U9 := Lib.hid hu9
    clear hx9 hu9 a1
    go_wp2
    refine bodyPost_ret (v := .tuple #[callV ⟨3, ky, [], nm, 0, []⟩ none 0 0, .int .i64 2]) ?_ rfl ?_
    · exact results_bx2 Tryz.results38 rfl rfl X9.out Tryz.underlying39 rfl (show (Tryz.prog.info? 39).map (·.size) = some 6 by kernel_rfl)
    have e : callS l = (⟨3, ky, [], nm, 0, []⟩, 2) := by
      unfold callS; simp only [<- EX.out, <- EP.out, <- Eky.out, <- Enm.out]; simp [HC.out]
    rw [e]
    exact ⟨_, _, _, rfl, S6.out.end_ U9.out, Sl.nil_ _ _, fun a e => nomatch e⟩
  · clear h9
    by_cases h8 : x / 16 = 8
    · have H8 := Lib.hid h8
      have q1 : (x : Int) / 16 = 8 := by omega
      have q3 : wrap64 8 = 8 := IntWalk.wrap64_in _ (by omega)
      clear h8
      have HC := Lib.hid hc
      have a1 : (x : Int) % 16 = 12 := by omega
      clear hc
      go_enter Tryz.func38, Tryz.ntmps38
      go_wp2_with fail
      rw [<- EJ.out]
      refine (ratB D0.out 0).mono ?_
      rintro _ w1 ⟨_, rfl, hb, rfl⟩
      have S1 := Lib.hid (S0.out.mono hb)
      have D1 := Lib.hid (D0.out.mono hb)
      clear hb
      go_wp2_with fail
      refine (ratB D1.out 1).mono ?_
      rintro _ w2 ⟨_, rfl, hb, rfl⟩
      have S2 := Lib.hid (S1.out.mono hb)
      have D2 := Lib.hid (D1.out.mono hb)
      clear hb
      go_wp2_with fail
      refine (ratB D2.out 2).mono ?_
      rintro _ w3 ⟨_, rfl, hb, rfl⟩
      have S3 := Lib.hid (S2.out.mono hb)
      have D3 := Lib.hid (D2.out.mono hb)
      clear hb
      go_wp2_with fail
      refine (ratB D3.out 0).mono ?_
      rintro _ w4 ⟨_, rfl, hb, rfl⟩
      have S4 := Lib.hid (S3.out.mono hb)
      have D4 := Lib.hid (D3.out.mono hb)
      clear hb
      rw [<- EX.out, <- EP.out, <- EQ.out]
      obtain ⟨ky, eky⟩ : ∃ k, k = letter 97 (p) := ⟨_, rfl⟩
      have Lky := Lib.hid (fun w => show Calls Tryz.prog 28 #[.int .i64 ((p : Int))] w (Ret w (Is (strV ky))) by
        have := rkey (p) w
        rw [<- eky] at this
        exact this)
      have Eky := Lib.hid eky
      clear eky
      go_wp2_with fail
      refine (Lky.out _).mono ?_
      rintro _ w5 ⟨_, rfl, hb, rfl⟩
      have S5 := Lib.hid (S4.out.mono hb)
      clear hb
      go_wp2_with ((with_reducible refine halt_store J ?_ ?_); (next => rfl))
      unfold Halt
      refine wpList_storeBx (J := J) rfl rfl rfl rfl rfl S5.out.bx (show (Tryz.prog.info? 39).map (·.size) = some 6 by kernel_rfl) rfl (by simp [Value.oneCell']) ?_
      intro w9 hx9 hu9
      have X9 := Lib.hid hx9; have U9 := Lib.hid hu9
      clear hx9 hu9 a1 q3
      go_wp2
      refine bodyPost_ret (v := .tuple #[callV ⟨5, ky, [], [], 0, []⟩ none 0 0, .int .i64 2]) ?_ rfl ?_
      · exact results_bx2 Tryz.results38 rfl rfl X9.out Tryz.underlying39 rfl (show (Tryz.prog.info? 39).map (·.size) = some 6 by kernel_rfl)
      have e : callS l = (⟨5, ky, [], [], 0, []⟩, 2) := by
        unfold callS; simp only [<- EX.out, <- EP.out, <- Eky.out]; simp [HC.out, H8.out]
      rw [e]
      exact ⟨_, _, _, rfl, S5.out.end_ U9.out, Sl.nil_ _ _, fun a e => nomatch e⟩
    · by_cases h9 : x / 16 = 9
      · have H9 := Lib.hid h9
        have q1 : (x : Int) / 16 = 9 := by omega
        have q3 : wrap64 9 = 9 := IntWalk.wrap64_in _ (by omega)
        clear h8 h9
        have HC := Lib.hid hc
        have a1 : (x : Int) % 16 = 12 := by omega
        clear hc
        go_enter Tryz.func38, Tryz.ntmps38
        go_wp2_with fail
        rw [<- EJ.out]
        refine (ratB D0.out 0).mono ?_
        rintro _ w1 ⟨_, rfl, hb, rfl⟩
        have S1 := Lib.hid (S0.out.mono hb)
        have D1 := Lib.hid (D0.out.mono hb)
        clear hb
        go_wp2_with fail
        refine (ratB D1.out 1).mono ?_
        rintro _ w2 ⟨_, rfl, hb, rfl⟩
        have S2 := Lib.hid (S1.out.mono hb)
        have D2 := Lib.hid (D1.out.mono hb)
        clear hb
        go_wp2_with fail
        refine (ratB D2.out 2).mono ?_
        rintro _ w3 ⟨_, rfl, hb, rfl⟩
        have S3 := Lib.hid (S2.out.mono hb)
        have D3 := Lib.hid (D2.out.mono hb)
        clear hb
        go_wp2_with fail
        refine (ratB D3.out 0).mono ?_
        rintro _ w4 ⟨_, rfl, hb, rfl⟩
        have S4 := Lib.hid (S3.out.mono hb)
        have D4 := Lib.hid (D3.out.mono hb)
        clear hb
        rw [<- EX.out, <- EP.out, <- EQ.out]
        obtain ⟨ky, eky⟩ : ∃ k, k = letter 97 (p) := ⟨_, rfl⟩
        have Lky := Lib.hid (fun w => show Calls Tryz.prog 28 #[.int .i64 ((p : Int))] w (Ret w (Is (strV ky))) by
          have := rkey (p) w
          rw [<- eky] at this
          exact this)
        have Eky := Lib.hid eky
        clear eky
        go_wp2_with fail
        refine (Lky.out _).mono ?_
        rintro _ w5 ⟨_, rfl, hb, rfl⟩
        have S5 := Lib.hid (S4.out.mono hb)
        clear hb
        go_wp2_with ((with_reducible refine halt_store J ?_ ?_); (next => rfl))
        unfold Halt
        refine wpList_storeBx (J := J) rfl rfl rfl rfl rfl S5.out.bx (show (Tryz.prog.info? 39).map (·.size) = some 6 by kernel_rfl) rfl (by simp [Value.oneCell']) ?_
        intro w9 hx9 hu9
        have X9 := Lib.hid hx9; have U9 := Lib.hid hu9
        clear hx9 hu9 a1 q3
        go_wp2
        refine bodyPost_ret (v := .tuple #[callV ⟨5, ky, [], [], 0, []⟩ none 0 0, .int .i64 2]) ?_ rfl ?_
        · exact results_bx2 Tryz.results38 rfl rfl X9.out Tryz.underlying39 rfl (show (Tryz.prog.info? 39).map (·.size) = some 6 by kernel_rfl)
        have e : callS l = (⟨5, ky, [], [], 0, []⟩, 2) := by
          unfold callS; simp only [<- EX.out, <- EP.out, <- Eky.out]; simp [HC.out, H9.out]
        rw [e]
        exact ⟨_, _, _, rfl, S5.out.end_ U9.out, Sl.nil_ _ _, fun a e => nomatch e⟩
      · have H8 := Lib.hid h8; have H9 := Lib.hid h9
        have q1 : ((x : Int) / 16 == 8) = false := by simp; omega
        have q2 : ((x : Int) / 16 == 9) = false := by simp; omega
        have q3 := wrap_small hx
        clear h8 h9
        have HC := Lib.hid hc
        have a1 : (x : Int) % 16 = 12 := by omega
        clear hc
        go_enter Tryz.func38, Tryz.ntmps38
        go_wp2_with fail
        rw [<- EJ.out]
        refine (ratB D0.out 0).mono ?_
        rintro _ w1 ⟨_, rfl, hb, rfl⟩
        have S1 := Lib.hid (S0.out.mono hb)
        have D1 := Lib.hid (D0.out.mono hb)
        clear hb
        go_wp2_with fail
        refine (ratB D1.out 1).mono ?_
        rintro _ w2 ⟨_, rfl, hb, rfl⟩
        have S2 := Lib.hid (S1.out.mono hb)
        have D2 := Lib.hid (D1.out.mono hb)
        clear hb
        go_wp2_with fail
        refine (ratB D2.out 2).mono ?_
        rintro _ w3 ⟨_, rfl, hb, rfl⟩
        have S3 := Lib.hid (S2.out.mono hb)
        have D3 := Lib.hid (D2.out.mono hb)
        clear hb
        go_wp2_with fail
        refine (ratB D3.out 0).mono ?_
        rintro _ w4 ⟨_, rfl, hb, rfl⟩
        have S4 := Lib.hid (S3.out.mono hb)
        have D4 := Lib.hid (D3.out.mono hb)
        clear hb
        rw [<- EX.out, <- EP.out, <- EQ.out]
        obtain ⟨ky, eky⟩ : ∃ k, k = letter 97 (p) := ⟨_, rfl⟩
        have Lky := Lib.hid (fun w => show Calls Tryz.prog 28 #[.int .i64 ((p : Int))] w (Ret w (Is (strV ky))) by
          have := rkey (p) w
          rw [<- eky] at this
          exact this)
        have Eky := Lib.hid eky
        clear eky
        go_wp2_with fail
        refine (Lky.out _).mono ?_
        rintro _ w5 ⟨_, rfl, hb, rfl⟩
        have S5 := Lib.hid (S4.out.mono hb)
        clear hb
        go_wp2_with ((with_reducible refine halt_store J ?_ ?_); (next => rfl))
        unfold Halt
        refine wpList_storeBx (J := J) rfl rfl rfl rfl rfl S5.out.bx (show (Tryz.prog.info? 39).map (·.size) = some 6 by kernel_rfl) rfl (by simp [Value.oneCell']) ?_
        intro w9 hx9 hu9
        have X9 := Lib.hid hx9; have U9 := Lib.hid hu9
        clear hx9 hu9 a1 q3
        go_wp2
        refine bodyPost_ret (v := .tuple #[callV ⟨4, ky, [], [], 0, []⟩ none 0 0, .int .i64 2]) ?_ rfl ?_
        · exact results_bx2 Tryz.results38 rfl rfl X9.out Tryz.underlying39 rfl (show (Tryz.prog.info? 39).map (·.size) = some 6 by kernel_rfl)
        have e : callS l = (⟨4, ky, [], [], 0, []⟩, 2) := by
          unfold callS; simp only [<- EX.out, <- EP.out, <- Eky.out]; simp [HC.out, H8.out, H9.out]
        rw [e]
        exact ⟨_, _, _, rfl, S5.out.end_ U9.out, Sl.nil_ _ _, fun a e => nomatch e⟩
  · have HC := Lib.hid hc
    have a1 : (x : Int) % 16 = 13 := by omega
    clear hc h9
    go_enter Tryz.func38, Tryz.ntmps38
    go_wp2_with fail
    rw [<- EJ.out]
    refine (ratB D0.out 0).mono ?_
    rintro _ w1 ⟨_, rfl, hb, rfl⟩
    have S1 := Lib.hid (S0.out.mono hb)
    have D1 := Lib.hid (D0.out.mono hb)
    clear hb
    go_wp2_with fail
    refine (ratB D1.out 1).mono ?_
    rintro _ w2 ⟨_, rfl, hb, rfl⟩
    have S2 := Lib.hid (S1.out.mono hb)
    have D2 := Lib.hid (D1.out.mono hb)
    clear hb
    go_wp2_with fail
    refine (ratB D2.out 2).mono ?_
    rintro _ w3 ⟨_, rfl, hb, rfl⟩
    have S3 := Lib.hid (S2.out.mono hb)
    have D3 := Lib.hid (D2.out.mono hb)
    clear hb
    go_wp2_with fail
    refine (ratB D3.out 0).mono ?_
    rintro _ w4 ⟨_, rfl, hb, rfl⟩
    have S4 := Lib.hid (S3.out.mono hb)
    have D4 := Lib.hid (D3.out.mono hb)
    clear hb
    rw [<- EX.out, <- EP.out, <- EQ.out]
    obtain ⟨ky, eky⟩ : ∃ k, k = letter 97 (p) := ⟨_, rfl⟩
    have Lky := Lib.hid (fun w => show Calls Tryz.prog 28 #[.int .i64 ((p : Int))] w (Ret w (Is (strV ky))) by
      have := rkey (p) w
      rw [<- eky] at this
      exact this)
    have Eky := Lib.hid eky
    clear eky
    obtain ⟨kz, ekz⟩ : ∃ k, k = letter 97 (p / 4) := ⟨_, rfl⟩
    have Lkz := Lib.hid (fun w => show Calls Tryz.prog 28 #[.int .i64 ((p : Int) / 4)] w (Ret w (Is (strV kz))) by
      have := rkey (p / 4) w
      rw [<- ekz] at this
      exact this)
    have Ekz := Lib.hid ekz
    clear ekz
    obtain ⟨nm, enm⟩ : ∃ k, k = letter 119 (p / 16) := ⟨_, rfl⟩
    have Lnm := Lib.hid (fun w => show Calls Tryz.prog 26 #[.int .i64 ((p : Int) / 16)] w (Ret w (Is (strV nm))) by
      have := ritem (p / 16) w
      rw [<- enm] at this
      exact this)
    have Enm := Lib.hid enm
    clear enm
    go_wp2_with fail
    refine (Lky.out _).mono ?_
    rintro _ w5 ⟨_, rfl, hb, rfl⟩
    have S5 := Lib.hid (S4.out.mono hb)
    clear hb
    go_wp2_with fail
    refine (Lkz.out _).mono ?_
    rintro _ w6 ⟨_, rfl, hb, rfl⟩
    have S6 := Lib.hid (S5.out.mono hb)
    clear hb
    go_wp2_with fail
    refine (Lnm.out _).mono ?_
    rintro _ w7 ⟨_, rfl, hb, rfl⟩
    have S7 := Lib.hid (S6.out.mono hb)
    clear hb
    go_wp2_with ((with_reducible refine halt_store J ?_ ?_); (next => rfl))
    unfold Halt
    refine wpList_storeBx (J := J) rfl rfl rfl rfl rfl S7.out.bx (show (Tryz.prog.info? 39).map (·.size) = some 6 by kernel_rfl) rfl (by simp [Value.oneCell']) ?_
    intro w9 hx9 hu9
    have X9 := Lib.hid hx9; have U9 := Lib.hid hu9
    clear hx9 hu9 a1
    go_wp2
    refine bodyPost_ret (v := .tuple #[callV ⟨6, ky, kz, nm, 0, []⟩ none 0 0, .int .i64 2]) ?_ rfl ?_
    · exact results_bx2 Tryz.results38 rfl rfl X9.out Tryz.underlying39 rfl (show (Tryz.prog.info? 39).map (·.size) = some 6 by kernel_rfl)
    have e : callS l = (⟨6, ky, kz, nm, 0, []⟩, 2) := by
      unfold callS; simp only [<- EX.out, <- EP.out, <- Eky.out, <- Ekz.out, <- Enm.out]; simp [HC.out]
    rw [e]
    exact ⟨_, _, _, rfl, S7.out.end_ U9.out, Sl.nil_ _ _, fun a e => nomatch e⟩
  · clear h9
    by_cases h8 : x / 16 = 14
    · have H8 := Lib.hid h8
      have q1 : (x : Int) / 16 = 14 := by omega
      have q3 : wrap64 14 = 14 := IntWalk.wrap64_in _ (by omega)
      clear h8
      have HC := Lib.hid hc
      have a1 : (x : Int) % 16 = 14 := by omega
      clear hc
      go_enter Tryz.func38, Tryz.ntmps38
      go_wp2_with fail
      rw [<- EJ.out]
      refine (ratB D0.out 0).mono ?_
      rintro _ w1 ⟨_, rfl, hb, rfl⟩
      have S1 := Lib.hid (S0.out.mono hb)
      have D1 := Lib.hid (D0.out.mono hb)
      clear hb
      go_wp2_with fail
      refine (ratB D1.out 1).mono ?_
      rintro _ w2 ⟨_, rfl, hb, rfl⟩
      have S2 := Lib.hid (S1.out.mono hb)
      have D2 := Lib.hid (D1.out.mono hb)
      clear hb
      go_wp2_with fail
      refine (ratB D2.out 2).mono ?_
      rintro _ w3 ⟨_, rfl, hb, rfl⟩
      have S3 := Lib.hid (S2.out.mono hb)
      have D3 := Lib.hid (D2.out.mono hb)
      clear hb
      go_wp2_with fail
      refine (ratB D3.out 0).mono ?_
      rintro _ w4 ⟨_, rfl, hb, rfl⟩
      have S4 := Lib.hid (S3.out.mono hb)
      have D4 := Lib.hid (D3.out.mono hb)
      clear hb
      rw [<- EX.out, <- EP.out, <- EQ.out]
      go_wp2_with ((with_reducible refine halt_store J ?_ ?_); (next => rfl))
      unfold Halt
      refine wpList_storeBx (J := J) rfl rfl rfl rfl rfl S4.out.bx (show (Tryz.prog.info? 39).map (·.size) = some 6 by kernel_rfl) rfl (by simp [Value.oneCell']) ?_
      intro w9 hx9 hu9
      have X9 := Lib.hid hx9; have U9 := Lib.hid hu9
      clear hx9 hu9 a1 q3
      go_wp2
      refine bodyPost_ret (v := .tuple #[callV ⟨10, [], [], [], 0, []⟩ none 0 0, .int .i64 2]) ?_ rfl ?_
      · exact results_bx2 Tryz.results38 rfl rfl X9.out Tryz.underlying39 rfl (show (Tryz.prog.info? 39).map (·.size) = some 6 by kernel_rfl)
      have e : callS l = (⟨10, [], [], [], 0, []⟩, 2) := by
        unfold callS; simp only [<- EX.out]; simp [HC.out, H8.out]
      rw [e]
      exact ⟨_, _, _, rfl, S4.out.end_ U9.out, Sl.nil_ _ _, fun a e => nomatch e⟩
    · by_cases h9 : x / 16 = 15
      · have H9 := Lib.hid h9
        have q1 : (x : Int) / 16 = 15 := by omega
        have q3 : wrap64 15 = 15 := IntWalk.wrap64_in _ (by omega)
        clear h8 h9
        have HC := Lib.hid hc
        have a1 : (x : Int) % 16 = 14 := by omega
        clear hc
        go_enter Tryz.func38, Tryz.ntmps38
        go_wp2_with fail
        rw [<- EJ.out]
        refine (ratB D0.out 0).mono ?_
        rintro _ w1 ⟨_, rfl, hb, rfl⟩
        have S1 := Lib.hid (S0.out.mono hb)
        have D1 := Lib.hid (D0.out.mono hb)
        clear hb
        go_wp2_with fail
        refine (ratB D1.out 1).mono ?_
        rintro _ w2 ⟨_, rfl, hb, rfl⟩
        have S2 := Lib.hid (S1.out.mono hb)
        have D2 := Lib.hid (D1.out.mono hb)
        clear hb
        go_wp2_with fail
        refine (ratB D2.out 2).mono ?_
        rintro _ w3 ⟨_, rfl, hb, rfl⟩
        have S3 := Lib.hid (S2.out.mono hb)
        have D3 := Lib.hid (D2.out.mono hb)
        clear hb
        go_wp2_with fail
        refine (ratB D3.out 0).mono ?_
        rintro _ w4 ⟨_, rfl, hb, rfl⟩
        have S4 := Lib.hid (S3.out.mono hb)
        have D4 := Lib.hid (D3.out.mono hb)
        clear hb
        rw [<- EX.out, <- EP.out, <- EQ.out]
        go_wp2_with ((with_reducible refine halt_store J ?_ ?_); (next => rfl))
        unfold Halt
        refine wpList_storeBx (J := J) rfl rfl rfl rfl rfl S4.out.bx (show (Tryz.prog.info? 39).map (·.size) = some 6 by kernel_rfl) rfl (by simp [Value.oneCell']) ?_
        intro w9 hx9 hu9
        have X9 := Lib.hid hx9; have U9 := Lib.hid hu9
        clear hx9 hu9 a1 q3
        go_wp2
        refine bodyPost_ret (v := .tuple #[callV ⟨11, [], [], [], 0, []⟩ none 0 0, .int .i64 2]) ?_ rfl ?_
        · exact results_bx2 Tryz.results38 rfl rfl X9.out Tryz.underlying39 rfl (show (Tryz.prog.info? 39).map (·.size) = some 6 by kernel_rfl)
        have e : callS l = (⟨11, [], [], [], 0, []⟩, 2) := by
          unfold callS; simp only [<- EX.out]; simp [HC.out, H9.out]
        rw [e]
        exact ⟨_, _, _, rfl, S4.out.end_ U9.out, Sl.nil_ _ _, fun a e => nomatch e⟩
      · have H8 := Lib.hid h8; have H9 := Lib.hid h9
        have q1 : ((x : Int) / 16 == 14) = false := by simp; omega
        have q2 : ((x : Int) / 16 == 15) = false := by simp; omega
        have q3 := wrap_small hx
        clear h8 h9
        have HC := Lib.hid hc
        have a1 : (x : Int) % 16 = 14 := by omega
        clear hc
        go_enter Tryz.func38, Tryz.ntmps38
        go_wp2_with fail
        rw [<- EJ.out]
        refine (ratB D0.out 0).mono ?_
        rintro _ w1 ⟨_, rfl, hb, rfl⟩
        have S1 := Lib.hid (S0.out.mono hb)
        have D1 := Lib.hid (D0.out.mono hb)
        clear hb
        go_wp2_with fail
        refine (ratB D1.out 1).mono ?_
        rintro _ w2 ⟨_, rfl, hb, rfl⟩
        have S2 := Lib.hid (S1.out.mono hb)
        have D2 := Lib.hid (D1.out.mono hb)
        clear hb
        go_wp2_with fail
        refine (ratB D2.out 2).mono ?_
        rintro _ w3 ⟨_, rfl, hb, rfl⟩
        have S3 := Lib.hid (S2.out.mono hb)
        have D3 := Lib.hid (D2.out.mono hb)
        clear hb
        go_wp2_with fail
        refine (ratB D3.out 0).mono ?_
        rintro _ w4 ⟨_, rfl, hb, rfl⟩
        have S4 := Lib.hid (S3.out.mono hb)
        have D4 := Lib.hid (D3.out.mono hb)
        clear hb
        rw [<- EX.out, <- EP.out, <- EQ.out]
        obtain ⟨ky, eky⟩ : ∃ k, k = letter 97 (p) := ⟨_, rfl⟩
        have Lky := Lib.hid (fun w => show Calls Tryz.prog 28 #[.int .i64 ((p : Int))] w (Ret w (Is (strV ky))) by
          have := rkey (p) w
          rw [<- eky] at this
          exact this)
        have Eky := Lib.hid eky
        clear eky
        obtain ⟨kz, ekz⟩ : ∃ k, k = letter 97 (p / 4) := ⟨_, rfl⟩
        have Lkz := Lib.hid (fun w => show Calls Tryz.prog 28 #[.int .i64 ((p : Int) / 4)] w (Ret w (Is (strV kz))) by
          have := rkey (p / 4) w
          rw [<- ekz] at this
          exact this)
        have Ekz := Lib.hid ekz
        clear ekz
        go_wp2_with fail
        refine (Lky.out _).mono ?_
        rintro _ w5 ⟨_, rfl, hb, rfl⟩
        have S5 := Lib.hid (S4.out.mono hb)
        clear hb
        go_wp2_with fail
        refine (Lkz.out _).mono ?_
        rintro _ w6 ⟨_, rfl, hb, rfl⟩
        have S6 := Lib.hid (S5.out.mono hb)
        clear hb
        go_wp2_with ((with_reducible refine halt_store J ?_ ?_); (next => rfl))
        unfold Halt
        refine wpList_storeBx (J := J) rfl rfl rfl rfl rfl S6.out.bx (show (Tryz.prog.info? 39).map (·.size) = some 6 by kernel_rfl) rfl (by simp [Value.oneCell']) ?_
        intro w9 hx9 hu9
        have X9 := Lib.hid hx9; have U9 := Lib.hid hu9
        clear hx9 hu9 a1 q3
        go_wp2
        refine bodyPost_ret (v := .tuple #[callV ⟨7, ky, kz, [], 0, []⟩ none 0 0, .int .i64 2]) ?_ rfl ?_
        · exact results_bx2 Tryz.results38 rfl rfl X9.out Tryz.underlying39 rfl (show (Tryz.prog.info? 39).map (·.size) = some 6 by kernel_rfl)
        have e : callS l = (⟨7, ky, kz, [], 0, []⟩, 2) := by
          unfold callS; simp only [<- EX.out, <- EP.out, <- Eky.out, <- Ekz.out]; simp [HC.out, H8.out, H9.out]
        rw [e]
        exact ⟨_, _, _, rfl, S6.out.end_ U9.out, Sl.nil_ _ _, fun a e => nomatch e⟩
  · clear h9
    by_cases h8 : x / 16 = 15
    · have H8 := Lib.hid h8
      have q1 : (x : Int) / 16 = 15 := by omega
      have q3 : wrap64 15 = 15 := IntWalk.wrap64_in _ (by omega)
      clear h8
      have HC := Lib.hid hc
      have a1 : (x : Int) % 16 = 15 := by omega
      clear hc
      go_enter Tryz.func38, Tryz.ntmps38
      go_wp2_with fail
      rw [<- EJ.out]
      refine (ratB D0.out 0).mono ?_
      rintro _ w1 ⟨_, rfl, hb, rfl⟩
      have S1 := Lib.hid (S0.out.mono hb)
      have D1 := Lib.hid (D0.out.mono hb)
      clear hb
      go_wp2_with fail
      refine (ratB D1.out 1).mono ?_
      rintro _ w2 ⟨_, rfl, hb, rfl⟩
      have S2 := Lib.hid (S1.out.mono hb)
      have D2 := Lib.hid (D1.out.mono hb)
      clear hb
      go_wp2_with fail
      refine (ratB D2.out 2).mono ?_
      rintro _ w3 ⟨_, rfl, hb, rfl⟩
      have S3 := Lib.hid (S2.out.mono hb)
      have D3 := Lib.hid (D2.out.mono hb)
      clear hb
      go_wp2_with fail
      refine (ratB D3.out 0).mono ?_
      rintro _ w4 ⟨_, rfl, hb, rfl⟩
      have S4 := Lib.hid (S3.out.mono hb)
      have D4 := Lib.hid (D3.out.mono hb)
      clear hb
      rw [<- EX.out, <- EP.out, <- EQ.out]
      go_wp2_with ((with_reducible refine halt_store J ?_ ?_); (next => rfl))
      unfold Halt
      have hb1 : Below w4.heap.size w4 (w4.alloc (.cells #[.int .u8 p, .int .u8 q] 5)) := (Below.refl _ _).alloc (Nat.le_refl _) _
      have SL := Lib.hid (Sl.new encB w4 [UInt8.ofNat p, UInt8.ofNat q] (by simp) #[.int .u8 p, .int .u8 q] (by simp [encB, Enc.all]; omega) 5)
      have S5 := Lib.hid (S4.out.mono hb1)
      refine wpList_storeBx (J := J) rfl rfl rfl rfl rfl S5.out.bx (show (Tryz.prog.info? 39).map (·.size) = some 6 by kernel_rfl) rfl (by simp [Value.oneCell']) ?_
      intro w9 hx9 hu9
      have X9 := Lib.hid hx9; have U9 := Lib.hid hu9
      clear hx9 hu9 a1 q3 hb1
      go_wp2
      refine bodyPost_ret (v := .tuple #[callV ⟨8, [], [], [], 0, [UInt8.ofNat p, UInt8.ofNat q]⟩ (some ⟨w4.heap.size, 0, none⟩) 2 2, .int .i64 3]) ?_ rfl ?_
      · exact results_bx2 Tryz.results38 rfl rfl X9.out Tryz.underlying39 rfl (show (Tryz.prog.info? 39).map (·.size) = some 6 by kernel_rfl)
      have e : callS l = (⟨8, [], [], [], 0, [UInt8.ofNat p, UInt8.ofNat q]⟩, 3) := by
        unfold callS; simp only [<- EX.out, <- EP.out, <- EQ.out]; simp [HC.out, H8.out]
      rw [e]
      have hz := U9.out.size
      have hJ4 := S4.out.bx.lt
      have hw4 := S4.out.be.size
      exact ⟨_, _, _, rfl, S5.out.end_ U9.out, SL.out.wrote U9.out.wrote (fun a e => by cases e; show w4.heap.size ≠ J; omega), fun a e => by cases e; exact ⟨show w.heap.size <= w4.heap.size from hw4, show w4.heap.size < w9.heap.size by rw [hz]; simp⟩⟩
    · have H8 := Lib.hid h8
      have q1 : ((x : Int) / 16 == 15) = false := by simp; omega
      have q3 := wrap_small hx
      clear h8
      have HC := Lib.hid hc
      have a1 : (x : Int) % 16 = 15 := by omega
      clear hc
      go_enter Tryz.func38, Tryz.ntmps38
      go_wp2_with fail
      rw [<- EJ.out]
      refine (ratB D0.out 0).mono ?_
      rintro _ w1 ⟨_, rfl, hb, rfl⟩
      have S1 := Lib.hid (S0.out.mono hb)
      have D1 := Lib.hid (D0.out.mono hb)
      clear hb
      go_wp2_with fail
      refine (ratB D1.out 1).mono ?_
      rintro _ w2 ⟨_, rfl, hb, rfl⟩
      have S2 := Lib.hid (S1.out.mono hb)
      have D2 := Lib.hid (D1.out.mono hb)
      clear hb
      go_wp2_with fail
      refine (ratB D2.out 2).mono ?_
      rintro _ w3 ⟨_, rfl, hb, rfl⟩
      have S3 := Lib.hid (S2.out.mono hb)
      have D3 := Lib.hid (D2.out.mono hb)
      clear hb
      go_wp2_with fail
      refine (ratB D3.out 0).mono ?_
      rintro _ w4 ⟨_, rfl, hb, rfl⟩
      have S4 := Lib.hid (S3.out.mono hb)
      have D4 := Lib.hid (D3.out.mono hb)
      clear hb
      rw [<- EX.out, <- EP.out, <- EQ.out]
      have hr := byteAt_lt l 3
      obtain ⟨r, er⟩ : ∃ r, r = byteAt l 3 := ⟨_, rfl⟩
      rw [<- er] at hr
      have ER := Lib.hid er
      have CR := Lib.hid (fun (w : World) (h : Sl encB w A n c l) => show Calls Tryz.prog 37 #[.slice A n c, .int .i64 3] w (Ret w (IsI (r : Nat))) by
        have := ratB h 3
        rw [<- er] at this
        exact this)
      clear er
      have C := Lib.hid (fun w => show Calls Tryz.prog 11 #[.int .i64 ((p : Int) % 4), .int .i64 ((p : Int) / 4 % 4), .int .i64 ((q : Int) + 1), .int .i64 ((r : Int) + 1)] w (Ret w (IsOwnB w.heap.size (batchOf (p % 4) (p / 4 % 4) (q + 1) (r + 1)))) from
        rBatchOf (a := p % 4) (i := p / 4 % 4) (k := q + 1) (q := r + 1) (by omega) (by omega) (by omega) (by omega) (by omega) (by omega) w)
      go_wp2_with fail
      refine (CR.out _ D4.out).mono ?_
      rintro _ w5 ⟨_, rfl, hb, rfl⟩
      have S5 := Lib.hid (S4.out.mono hb)
      clear hb
      go_wp2_with fail
      refine (C.out _).mono ?_
      rintro _ w6 ⟨v6, rfl, hb, ho⟩
      obtain ⟨A6, c6, rfl, s6⟩ := OwnSl.sl ho
      have O6 := Lib.hid ho.own
      have SL := Lib.hid s6
      have S6 := Lib.hid (S5.out.mono hb)
      have Z6 := Lib.hid hb.size
      clear hb ho s6
      have L6 := Lib.hid SL.out.big
      go_wp2_with ((with_reducible refine halt_store J ?_ ?_); (next => rfl))
      unfold Halt
      refine wpList_storeBx (J := J) rfl rfl rfl rfl rfl S6.out.bx (show (Tryz.prog.info? 39).map (·.size) = some 6 by kernel_rfl) rfl (by simp [Value.oneCell']) ?_
      intro w9 hx9 hu9
      have X9 := Lib.hid hx9; have U9 := Lib.hid hu9
      clear hx9 hu9 a1 q3
      go_wp2
      refine bodyPost_ret (v := .tuple #[callV ⟨8, [], [], [], 0, batchOf (p % 4) (p / 4 % 4) (q + 1) (r + 1)⟩ A6 (batchOf (p % 4) (p / 4 % 4) (q + 1) (r + 1)).length c6, .int .i64 4]) ?_ rfl ?_
      · exact results_bx2 Tryz.results38 rfl rfl X9.out Tryz.underlying39 rfl (show (Tryz.prog.info? 39).map (·.size) = some 6 by kernel_rfl)
      have e : callS l = (⟨8, [], [], [], 0, batchOf (p % 4) (p / 4 % 4) (q + 1) (r + 1)⟩, 4) := by
        unfold callS; simp only [<- EX.out, <- EP.out, <- EQ.out, <- ER.out]; simp [HC.out, H8.out]
      rw [e]
      have hz := U9.out.size
      have hJ5 := S5.out.bx.lt
      have hw5 := S5.out.be.size
      have off : ∀ a, A6 = some a -> w5.heap.size <= a.block ∧ a.block < w6.heap.size := fun a e => by subst e; exact O6.out a.block rfl
      exact ⟨_, _, _, rfl, S6.out.end_ U9.out, SL.out.wrote U9.out.wrote (fun a e => by have := off a e; omega), fun a e => ⟨by have := off a e; omega, by have := off a e; omega⟩⟩
end Go.Proofs.YtphhhnjeojdnkaaGreatDoor

/-
  ref30.First.
-/
namespace Go.Proofs.YtphhhnjeojdnkaaGreatDoor
open Go.RowKit
theorem opStartR (w : World) : StR w.heap.size w opZ (w.alloc opBox0) := ⟨(Below.refl _ _).alloc (Nat.le_refl _) _, Bx.new w _ _, Nat.le_refl _⟩
def FPost (l : List UInt8) (w : World) (e : Ending) (w' : World) : Prop :=
  ∃ s : OpE, e = .returned (.tuple #[opVE s, .int .i64 ((firstS l).2 : Nat)]) ∧ s.o = (firstS l).1 ∧ NewD s.A s.n s.c s.o.call.data w w'
theorem rFirst {A : Option Addr} {n c : Nat} {l : List UInt8} {w : World} (h : Sl encB w A n c l) : Calls Tryz.prog 21 #[.slice A n c] w (FPost l w) := by
  have S0 := Lib.hid (opStartR w)
  have D0 := Lib.hid (h.mono S0.out.be)
  clear h
  have hx := byteAt_lt l 0
  obtain ⟨x, ex⟩ : ∃ x, x = byteAt l 0 := ⟨_, rfl⟩
  obtain ⟨J, ej⟩ : ∃ J, J = w.heap.size := ⟨_, rfl⟩
  rw [<- ej] at S0
  rw [<- ex] at hx
  have EX := Lib.hid ex; have EJ := Lib.hid ej
  clear ex ej
  have hcase : x % 16 < 8 ∨ x % 16 = 8 ∨ 9 <= x % 16 := by omega
  rcases hcase with hc | hc | hc
  · have HC := Lib.hid hc
    have q1 : (x : Int) % 16 < 8 := by omega
    have q3 := wrap_small hx
    clear hc
    go_enter Tryz.func21, Tryz.ntmps21
    go_wp2_with fail
    rw [<- EJ.out]
    refine (ratB D0.out 0).mono ?_
    rintro _ w1 ⟨_, rfl, hb, rfl⟩
    have S1 := Lib.hid (S0.out.mono hb)
    have D1 := Lib.hid (D0.out.mono hb)
    clear hb
    rw [<- EX.out]
    go_wp2_with fail
    refine (ratB D1.out 0).mono ?_
    rintro _ w2 ⟨_, rfl, hb, rfl⟩
    have S2 := Lib.hid (S1.out.mono hb)
    clear hb
    rw [<- EX.out]
    go_wp2_with ((with_reducible refine halt_store J ?_ ?_); (next => rfl))
    unfold Halt
    refine wpList_storeBx (J := J) rfl rfl rfl rfl rfl S2.out.bx (show (Tryz.prog.info? 41).map (·.size) = some 8 by kernel_rfl) rfl (by simp [Value.oneCell']) ?_
    intro w9 hx9 hu9
    have X9 := Lib.hid hx9; have U9 := Lib.hid hu9
    clear hx9 hu9 q3
    go_wp2
    refine bodyPost_ret (v := .tuple #[opVE ⟨⟨2, (x : Int) / 16, noCall⟩, none, 0, 0⟩, .int .i64 1]) ?_ rfl ?_
    · exact results_bx2 Tryz.results21 rfl rfl X9.out Tryz.underlying41 rfl (show (Tryz.prog.info? 41).map (·.size) = some 8 by kernel_rfl)
    have e : firstS l = (⟨2, (x : Int) / 16, noCall⟩, 1) := by unfold firstS; rw [<- EX.out, if_pos HC.out]
    refine ⟨⟨⟨2, (x : Int) / 16, noCall⟩, none, 0, 0⟩, by rw [e]; rfl, by rw [e], S2.out.end_ U9.out, Sl.nil_ _ _, fun a e => nomatch e⟩
  · have HC := Lib.hid hc
    have q1 : (x : Int) % 16 = 8 := by omega
    clear hc
    have hp := byteAt_lt l 1
    obtain ⟨p, ep⟩ : ∃ p, p = byteAt l 1 := ⟨_, rfl⟩
    rw [<- ep] at hp
    have EP := Lib.hid ep
    clear ep
    go_enter Tryz.func21, Tryz.ntmps21
    go_wp2_with fail
    rw [<- EJ.out]
    refine (ratB D0.out 0).mono ?_
    rintro _ w1 ⟨_, rfl, hb, rfl⟩
    have S1 := Lib.hid (S0.out.mono hb)
    have D1 := Lib.hid (D0.out.mono hb)
    clear hb
    rw [<- EX.out]
    go_wp2_with fail
    refine (ratB D1.out 1).mono ?_
    rintro _ w2 ⟨_, rfl, hb, rfl⟩
    have S2 := Lib.hid (S1.out.mono hb)
    clear hb
    rw [<- EP.out]
    go_wp2_with ((with_reducible refine halt_store J ?_ ?_); (next => rfl))
    unfold Halt
    refine wpList_storeBx (J := J) rfl rfl rfl rfl rfl S2.out.bx (show (Tryz.prog.info? 41).map (·.size) = some 8 by kernel_rfl) rfl (by simp [Value.oneCell']) ?_
    intro w9 hx9 hu9
    have X9 := Lib.hid hx9; have U9 := Lib.hid hu9
    clear hx9 hu9
    go_wp2
    refine bodyPost_ret (v := .tuple #[opVE ⟨⟨3, p, noCall⟩, none, 0, 0⟩, .int .i64 2]) ?_ rfl ?_
    · exact results_bx2 Tryz.results21 rfl rfl X9.out Tryz.underlying41 rfl (show (Tryz.prog.info? 41).map (·.size) = some 8 by kernel_rfl)
    have e : firstS l = (⟨3, p, noCall⟩, 2) := by unfold firstS; rw [<- EX.out, if_neg (by have := HC.out; omega), if_pos HC.out, EP.out]
    refine ⟨⟨⟨3, p, noCall⟩, none, 0, 0⟩, by rw [e]; rfl, by rw [e], S2.out.end_ U9.out, Sl.nil_ _ _, fun a e => nomatch e⟩
  · have HC := Lib.hid hc
    have q1 : ¬ (x : Int) % 16 < 8 := by omega
    have q2 : ((x : Int) % 16 == 8) = false := by simp; omega
    have RC := Lib.hid (fun (w : World) (h : Sl encB w A n c l) => rcall h (by rw [<- EX.out]; exact HC.out))
    have e : firstS l = (⟨1, 0, (callS l).1⟩, (callS l).2) := by unfold firstS; rw [<- EX.out, if_neg (by have := HC.out; omega), if_neg (by have := HC.out; omega)]
    have EF := Lib.hid e
    clear hc e
    generalize callS l = D at *
    obtain ⟨⟨o1, k1, k2, k3, i1, d1⟩, k⟩ := D
    simp only [callV] at RC
    go_enter Tryz.func21, Tryz.ntmps21
    go_wp2_with fail
    rw [<- EJ.out]
    refine (ratB D0.out 0).mono ?_
    rintro _ w1 ⟨_, rfl, hb, rfl⟩
    have S1 := Lib.hid (S0.out.mono hb)
    have D1 := Lib.hid (D0.out.mono hb)
    clear hb
    rw [<- EX.out]
    go_wp2_with fail
    refine (RC.out _ D1.out).mono ?_
    rintro _ w2 ⟨A2, n2, m2, rfl, hd⟩
    have S2 := Lib.hid (S1.out.mono hd.be)
    have SL := Lib.hid hd.sl
    have OF := Lib.hid hd.off
    clear hd RC
    go_wp2_with ((with_reducible refine halt_store J ?_ ?_); (next => rfl))
    unfold Halt
    have hb1 : Below w2.heap.size w2 (w2.alloc (.cells #[.int .i64 o1, strV k1, strV k2, strV k3, .int .i64 i1, .slice A2 n2 m2] 39)) := (Below.refl _ _).alloc (Nat.le_refl _) _
    have S3 := Lib.hid (S2.out.mono hb1)
    have SL3 := Lib.hid (SL.out.mono hb1)
    have HZ := Lib.hid hb1.size
    refine wpList_storeBx (J := J) rfl rfl rfl rfl rfl S3.out.bx (show (Tryz.prog.info? 41).map (·.size) = some 8 by kernel_rfl) rfl (by simp [Value.oneCell']) ?_
    intro w9 hx9 hu9
    have X9 := Lib.hid hx9; have U9 := Lib.hid hu9
    clear hx9 hu9 hb1
    go_wp2
    refine bodyPost_ret (v := .tuple #[opVE ⟨⟨1, 0, ⟨o1, k1, k2, k3, i1, d1⟩⟩, A2, n2, m2⟩, .int .i64 k]) ?_ rfl ?_
    · exact results_bx2 Tryz.results21 rfl rfl X9.out Tryz.underlying41 rfl (show (Tryz.prog.info? 41).map (·.size) = some 8 by kernel_rfl)
    have hz := U9.out.size
    have hJ1 := S1.out.bx.lt
    have hw1 := S1.out.be.size
    simp at hz
    refine ⟨⟨⟨1, 0, ⟨o1, k1, k2, k3, i1, d1⟩⟩, A2, n2, m2⟩, by rw [EF.out], by rw [EF.out], S3.out.end_ U9.out, SL3.out.wrote U9.out.wrote (fun a e => by have := OF.out a e; omega), fun a e => ?_⟩
    have := OF.out a e
    exact ⟨by omega, by omega⟩
end Go.Proofs.YtphhhnjeojdnkaaGreatDoor

/-
  ref30.Parse, ref30.Same.
-/
namespace Go.Proofs.YtphhhnjeojdnkaaGreatDoor
open Go.RowKit
theorem Sl.from_ {w : World} {b o n c : Nat} {l : List UInt8} (h : Sl encB w (some ⟨b, o, none⟩) n c l) {k : Nat} (hk : k <= n) : Sl encB w (some ⟨b, o + k, none⟩) (n - k) (c - k) (l.drop k) := by
  refine ⟨by rw [List.length_drop, <- h.len], by have := h.cap; omega, by have := h.max; omega, (fun e => nomatch e), fun i x hi => ?_⟩
  rw [List.getElem?_drop] at hi
  obtain ⟨b', o', e, hlt, h1⟩ := h.cell _ x hi
  cases e
  refine ⟨b, o + k, rfl, hlt, fun j u hj => ?_⟩
  have := h1 j u hj
  have e2 : o + (k + i) * encB.z + j = o + k + i * encB.z + j := by simp [encB]; omega
  rw [e2] at this
  exact this
def RPRel (w : World) (l : List UInt8) (s u : Value) (wr : World) : Prop :=
  ∃ dn rest A n c, s = .slice A n c ∧ parseS l = dn ++ parseS rest ∧ dn.length + rest.length <= l.length ∧ Below w.heap.size w wr ∧ Sl encB wr A n c rest ∧ ORow wr w.heap.size u dn ∧ (rest ≠ [] -> ∀ a, A = some a -> a.block < w.heap.size)
theorem rParse {A : Option Addr} {n c : Nat} {l : List UInt8} {w : World} (h : Sl encB w A n c l) (hn : n <= 4096) : Calls Tryz.prog 9 #[.slice A n c] w (Ret w (fun w' v => ORow w' w.heap.size v (parseS l))) := by
  have H := Lib.hid h; have HL := Lib.hid h.len; have HN4 := Lib.hid hn
  clear h hn
  go_enter Tryz.func9, Tryz.ntmps9
  go_wp2
  go_loopw [0, 3] (fun s u wr => RPRel w l s u wr) (fun s _ _ => lenOfV s)
  case atStart => exact ⟨[], l, A, n, c, rfl, rfl, by simp, Below.refl _ _, H.out, ORow.nil_ _ _, fun hne a e => by
    obtain ⟨x, t, e2⟩ := List.exists_cons_of_ne_nil hne
    obtain ⟨b, o, e3, hb, _⟩ := H.out.cell 0 x (by rw [e2]; rfl)
    rw [e] at e3; cases e3; exact hb⟩
  case round =>
    obtain ⟨dn, rest, A2, n2, c2, rfl, hp, hle, hb, hs, hown, hlow⟩ := hrel
    have hbig2 := hs.big
    have HS := Lib.hid hs; have OW := Lib.hid hown; have HP := Lib.hid hp; have HLE := Lib.hid hle; have HB := Lib.hid hb; have L2 := Lib.hid hs.len; have LO := Lib.hid hlow
    clear hs hown hp hle hb hlow
    by_cases h0 : n2 = 0
    · subst h0
      have hr0 : rest = [] := List.eq_nil_of_length_eq_zero L2.out.symm
      go_wp2
      go_ret
      have e := HP.out
      rw [hr0, parseS_nil, List.append_nil] at e
      exact ⟨_, rfl, HB.out, by rw [e]; exact OW.out⟩
    · have hpos : (0 : Int) < (n2 : Int) := by omega
      have RNE := Lib.hid (show rest ≠ [] from fun e => by have := L2.out; rw [e] at this; exact h0 this)
      have RP := Lib.hid (List.length_pos_iff.2 RNE.out)
      have hA : ∃ b o, A2 = some ⟨b, o, none⟩ := by
        obtain ⟨x, t, e⟩ := List.exists_cons_of_ne_nil RNE.out
        obtain ⟨b, o, e, _⟩ := HS.out.cell 0 x (by rw [e]; rfl)
        exact ⟨b, o, e⟩
      obtain ⟨b, o, rfl⟩ := hA
      have hk := firstS_pos rest
      have FR := Lib.hid (rFirst HS.out)
      have RPS := Lib.hid (parseS_cons RNE.out)
      unfold FPost at FR
      obtain ⟨D, hD⟩ : ∃ D, D = firstS rest := ⟨_, rfl⟩
      rw [<- hD] at hk FR RPS
      clear hD
      obtain ⟨o1, k⟩ := D
      simp only at hk FR RPS
      go_wp2_with fail
      refine FR.out.mono ?_
      rintro _ w1 ⟨s, rfl, hso, hd⟩
      have OU := Lib.hid OW.out.own
      have Z1 := Lib.hid hd.be.size
      have HB1 := Lib.hid (HB.out.le hd.be)
      have hoff : OffO w1 w.heap.size u3.ownBlock s := ⟨hd.sl, fun a e => (hd.off a e).2, fun a e e2 => by have h1 := OU.out _ e2.symm; have h2 := hd.off a e; omega, fun a e => by have h2 := hd.off a e; have := HB.out.size; omega⟩
      have hw1 : Below w1.heap.size w1 (w1.alloc (.cells (opCellsE s) 41)) := (Below.refl _ _).alloc (Nat.le_refl _) _
      have hw2 : Below w1.heap.size w1 ((w1.alloc (.cells (opCellsE s) 41)).alloc (.cells (opCellsE s) 41)) := hw1.alloc (by simp) _
      have OW2 := Lib.hid ((OW.out.mono hd.be).mono hw2)
      have OF2 := Lib.hid (hoff.mono hw2)
      have K2 := Lib.hid (newOp (w1.alloc (.cells (opCellsE s) 41)) s)
      have HB2 := Lib.hid (HB1.out.le hw2)
      have HS2 := Lib.hid ((HS.out.mono hd.be).mono hw2)
      have SO := Lib.hid hso
      have DN := Lib.hid (small_len HLE.out HL.out HN4.out RP.out)
      clear hd hso hoff hw1 hw2 FR
      rw [show opVE s = .agg #[.int .i64 s.o.kind, .int .i64 s.o.n, .int .i64 s.o.call.op, strV s.o.call.key, strV s.o.call.other, strV s.o.call.item, .int .i64 s.o.call.qty, .slice s.A s.n s.c] from rfl]
      have hz1 : (w1.alloc (.cells (opCellsE s) 41)).heap.size = w1.heap.size + 1 := by simp
      rw [hz1] at K2
      clear hz1
      obtain ⟨m, hm⟩ : ∃ m : Nat, m = min k n2 := ⟨_, rfl⟩
      have HM := Lib.hid hm
      have MI := Lib.hid (show min (k : Int) (n2 : Int) = (m : Int) by omega)
      clear hm
      have mi := MI.out
      have hmn : m <= n2 := by have := HM.out; omega
      go_wp2_with (first
        | (at_builtin; refine wpList_appOps (B := w.heap.size) (l := dn) (e := s) rfl rfl Tryz.underlying24 rfl rfl OW2.out K2.out OF2.out DN.out HB2.out.size ?_; intro u5 w5 ho5 hg5; have O5 := Lib.hid ho5; have G5 := Lib.hid hg5; clear ho5 hg5; simp only [Act.put, List.setIfInBounds_toArray, List.set_cons_zero, List.set_cons_succ])
        | fail)
      have g5 : ((w1.alloc (.cells (opCellsE s) 41)).alloc (.cells (opCellsE s) 41)).grownBy w5 u3.ownBlock := G5.out
      have hb5 := HB2.out.grown g5 HB2.out.size (fun q hq => (OU.out q hq).1)
      have hbl : b < w.heap.size := LO.out RNE.out _ rfl
      have s5 := HS2.out.grownOff g5 (fun a e e2 => by cases e; have := (OU.out _ e2.symm).1; have e3 : b = b := rfl; exact absurd hbl (Nat.not_lt.2 this))
      have e2 : rest.drop k = rest.drop m := by
        have hL := L2.out; have hM := HM.out
        rcases Nat.le_total k n2 with h | h
        · rw [hM, Nat.min_eq_left h]
        · rw [hM, Nat.min_eq_right h, List.drop_eq_nil_of_le (by omega), List.drop_eq_nil_of_le (by omega)]
      have e1 : parseS l = (dn ++ [s.o]) ++ parseS (rest.drop m) := by rw [HP.out, RPS.out, <- e2, SO.out]; simp
      have hls := HLE.out
      have hrp := RP.out
      have hm1 : 1 <= m := by have := HM.out; omega
      have hL := L2.out
      refine ⟨⟨dn ++ [s.o], rest.drop m, _, _, _, rfl, e1, by simp; omega, hb5, ?_, O5.out, fun _ a e => ?_⟩, ?_⟩
      · split
        · next hc =>
          have hcap := s5.cap
          have hz : rest.drop m = [] := List.drop_eq_nil_of_le (by omega)
          rw [hz]
          exact ⟨by simp; omega, by omega, by have := s5.max; omega, (fun e => nomatch e), fun i x hi => by simp at hi⟩
        · exact s5.from_ hmn
      · split at e <;> (cases e; exact hbl)
      · show n2 - m < n2
        omega
end Go.Proofs.YtphhhnjeojdnkaaGreatDoor

/-
  ref30.Same at lists that read the same; law30.reads.
-/
namespace Go.Proofs.YtphhhnjeojdnkaaGreatDoor
open Go.RowKit
theorem opEqR (o : OpS) : opEq o o = true := by simp [opEq, callEq]
theorem enters32 : Enters Tryz.prog 32 := enters_of Tryz.func32 (by kernel_rfl) rfl
theorem index_ops {w : World} {b o n c k : Nat} (hk : k < n) : (Instr.indexAt 24 (.slice (some ⟨b, o, none⟩) n c) (.int .i64 (k : Int))).run Tryz.prog w = .ok (.pointer (some ⟨b, o + k * 8, none⟩)) w := by
  simp [go_sem, hk]
theorem load_opAt {w : World} {b o : Nat} {s : OpE} (h : ∀ j u, (encO.enc s)[j]? = some u -> w.cell? ⟨b, o + j, none⟩ = some u) : (Instr.loadAt 41 (.pointer (some ⟨b, o, none⟩))).run Tryz.prog w = .ok (opV s.o s.A s.n s.c) w :=
  run_loadAt_mid (P := Tryz.prog) w b o 41 (encO.enc s) _ h Tryz.underlying41 rfl (show (Tryz.prog.info? 41).map (·.size) = some 8 by kernel_rfl)
theorem OpsAt.at_ {w : World} {A : Option Addr} {n c : Nat} {l : List OpS} (h : OpsAt w A n c l) {i : Nat} (hi : i < n) : ∃ b o s, A = some ⟨b, o, none⟩ ∧ l[i]? = some s.o ∧ b < w.heap.size ∧ (∀ j u, (encO.enc s)[j]? = some u -> w.cell? ⟨b, o + i * 8 + j, none⟩ = some u) ∧ Sl encB w s.A s.n s.c s.o.call.data := by
  obtain ⟨es, rfl, h1, h2⟩ := h
  obtain ⟨b, o, s, e, hb, hs, _, hc⟩ := h1.at_ hi
  exact ⟨b, o, s, e, by rw [List.getElem?_map, hs]; rfl, hb, hc, h2 s (List.mem_of_getElem? hs)⟩
def SameRel (w : World) (n : Nat) (i : Value) (wr : World) : Prop := ∃ k : Nat, i = .int .i64 k ∧ k <= n ∧ Below w.heap.size w wr
theorem rSame {A B : Option Addr} {n c d : Nat} {l : List OpS} {w : World} (ha : OpsAt w A n c l) (hb : OpsAt w B n d l) : Calls Tryz.prog 20 #[.slice A n c, .slice B n d] w (Ret w (IsB true)) := by
  have hbig := ha.big
  have HA := Lib.hid ha; have HB := Lib.hid hb
  have hne : ((n : Int) != (n : Int)) = false := by simp
  clear ha hb
  go_enter Tryz.func20, Tryz.ntmps20
  go_wp2
  go_loopw [5] (fun i wr => SameRel w n i wr) (fun i _ => n - (intOf i).toNat)
  case atStart => exact ⟨0, rfl, Nat.zero_le _, Below.refl _ _⟩
  case round =>
    obtain ⟨k, rfl, hk, hbw⟩ := hrel
    by_cases hlt : k < n
    · obtain ⟨b1, o1, s1, rfl, g1, _, c1, d1⟩ := (HA.out.mono hbw).at_ hlt
      obtain ⟨b2, o2, s2, rfl, g2, _, c2, d2⟩ := (HB.out.mono hbw).at_ hlt
      have e12 : s1.o = s2.o := by rw [g1] at g2; exact Option.some.inj g2
      have heq : opEq s1.o s2.o = true := by rw [e12]; exact opEqR _
      have C1 := Lib.hid c1; have C2 := Lib.hid c2; have D1 := Lib.hid d1; have D2 := Lib.hid d2; have HBW := Lib.hid hbw; have HE := Lib.hid heq; have HLT := Lib.hid hlt
      clear g1 g2 c1 c2 d1 d2 e12 heq hbw
      go_wp2_with fail
      refine wp_region_M mixed (by kernel_rfl) ?_
      refine MDerR.step (Ob.move Wanted.free Has.oldIs) ?_
      refine MDerR.step (Ob.move Wanted.free Has.oldIs) ?_
      refine MDerR.step (Ob.indexV Wanted.free (Has.new 0 1) (Has.new 1 0) (fun w1 => index_ops HLT.out)) ?_
      refine MDerR.step (Ob.loadV Wanted.free (Has.new 2 0) (fun w1 hb1 => load_opAt (fun j u hj => cellKeep hb1 (C1.out j u hj)))) ?_
      refine MDerR.step (Ob.move Wanted.free Has.oldIs) ?_
      refine MDerR.step (Ob.move Wanted.free Has.oldIs) ?_
      refine MDerR.step (Ob.indexV Wanted.free (Has.new 4 1) (Has.new 5 0) (fun w1 => index_ops HLT.out)) ?_
      refine MDerR.step (Ob.loadV Wanted.free (Has.new 6 0) (fun w1 hb1 => load_opAt (fun j u hj => cellKeep hb1 (C2.out j u hj)))) ?_
      refine MDerR.step (Ob.call2V Wanted.free enters32 (Has.new 3 4) (Has.new 7 0) (fun w1 hb1 => req s1.o s2.o _ _ _ _ _ _ w1 (D1.out.mono hb1) (D2.out.mono hb1))) ?_
      refine MDerR.step (Ob.not Wanted.free (Has.new 8 0)) ?_
      simp only [MDerR, dstsOf, List.map, EndM, List.reverse_cons, List.reverse_nil, List.nil_append, List.cons_append]
      intro wE hE
      iterate 10 (rintro _ rfl)
      simp only [Act.put, List.setIfInBounds_toArray, List.set_cons_zero, List.set_cons_succ]
      rw [HE.out]
      go_wp2
      exact ⟨⟨k + 1, by simp, by have := HLT.out; omega, HBW.out.le hE⟩, by simp [intOf]; omega⟩
    · have hge : ¬ (k : Int) < (n : Int) := by omega
      have HBW := Lib.hid hbw
      clear hbw
      go_wp2
      go_ret
      exact retB rfl HBW.out
end Go.Proofs.YtphhhnjeojdnkaaGreatDoor

/-
  ScriptBatches: for any codes, counter and quantity, with no further condition, the law returns true.
-/
namespace Go.Proofs.YtphhhnjeojdnkaaGreatDoor
open Go.RowKit
section
variable {ops : List Oper} {Fs : List VT} {w0 : World} {a0 : Act} {i : Nat} {d : Option Tmp} {ty : TypeId} {pos : String} {after : Array Edge} {g : Option (Nat × Bool)}
end
end Go.Proofs.YtphhhnjeojdnkaaGreatDoor

/-
  ScriptParses: for any bytes and any number, with no further condition, the law returns true.
-/
namespace Go.Proofs.YtphhhnjeojdnkaaGreatDoor
open Go.RowKit
theorem creads {A B : Option Addr} {n c m d : Nat} {l : List UInt8} {w : World} (h : Sl encB w A n c l) (hn : n <= 4096) (hb : OpsAt w B m d (parseS l)) : Calls Tryz.prog 8 #[.slice A n c, .slice B m d] w (Ret w (IsB true)) := by
  obtain rfl := hb.len
  have HB := Lib.hid hb
  have C := Lib.hid (cParse h hn)
  clear h hn hb
  generalize parseS l = L at *
  go_enter Tryz.func8, Tryz.ntmps8
  go_wp2_with fail
  refine C.out.mono ?_
  rintro _ w1 ⟨_, rfl, hb1, v1, rfl, ho1⟩
  obtain ⟨A1, c1, rfl, s1⟩ := ho1.ops
  have B1 := Lib.hid hb1; have S1 := Lib.hid s1
  clear hb1 ho1 s1 C
  go_wp2_with fail
  refine (rSame S1.out (HB.out.mono B1.out)).mono ?_
  rintro _ w2 ⟨_, rfl, hb2, rfl⟩
  have B2 := Lib.hid (B1.out.le hb2)
  clear hb2
  go_wp2
  go_ret
  exact retB rfl B2.out
theorem all_zero : ∀ n : Nat, encB.all (List.replicate n 0) = List.replicate n (Value.int .u8 0)
  | 0 => rfl
  | n + 1 => by
    rw [List.replicate_succ, Enc.all_cons, all_zero n, List.replicate_succ]; rfl
theorem made_zero (n : Nat) : (madeCells #[Value.int .u8 0] (n * 1)).toList = encB.all (List.replicate n 0) := by
  rw [all_zero]
  refine List.ext_getElem? fun j => ?_
  rw [Array.getElem?_toList, List.getElem?_replicate]
  by_cases h : j < n
  · rw [if_pos h, madeCells_get _ (by decide) _ j (by omega)]
    simp [Nat.mod_one]
  · rw [if_neg h]
    simp [madeCells]; omega
theorem lawParses {A : Option Addr} {n c : Nat} {l : List UInt8} (many : Int) {w : World} (h : Sl encB w A n c l) : Calls Tryz.prog 3 #[.slice A n c, .int .i64 many] w (Ret w (IsB true)) := by
  have KT := Lib.hid known_true
  by_cases hm : 4094 <= many ∧ many <= 4098
  · obtain ⟨m, rfl⟩ := Int.eq_ofNat_of_zero_le (show 0 <= many by omega)
    have h1 : (4094 : Int) <= (m : Int) := hm.1
    have h2 : (m : Int) <= 4098 := hm.2
    have HM := Lib.hid (show m <= 4098 by omega)
    have hmb : m <= 9223372036854775807 := by omega
    clear h hm
    go_enter Tryz.func3, Tryz.ntmps3
    go_wp2_with (first | (at_make; refine Halt.go ?_) | fail)
    unfold Halt
    obtain ⟨i, z, hi, hz, hsz, hby, hzs⟩ := infB.ex
    obtain rfl : z = .int .u8 0 := by
      obtain ⟨j, g1, g2, g3, g4⟩ := info_parts (P := Tryz.prog) (show (Tryz.prog.info? 5).map (fun i => (i.zero, i.size, i.bytes)) = some (some (.int .u8 0), 1, 1) by kernel_rfl)
      rw [g1] at hi; cases hi
      rw [g2] at hz; cases hz; rfl
    refine wpList_make_full w rfl _ _ 22 rfl w.heap.size 5 i (.int .u8 0) 1 Tryz.underlying22 hi hz hsz .i64 .i64 m m m rfl rfl rfl rfl (by rw [hby]; have := HM.out; omega) (by have := HM.out; unfold maxLen; omega) (Nat.le_refl _) ?_
    intro w1 ho1 hg1
    rw [show (Value.int IntKind.u8 0).cells = #[Value.int .u8 0] from rfl, made_zero] at ho1
    have ho2 : OwnB w1 w.heap.size (.slice (some ⟨w.heap.size, 0, none⟩) m m) (List.replicate m 0) := by
      unfold OwnB OwnSl
      rw [List.length_replicate]
      exact ho1
    obtain ⟨A1, c1, e1, s1⟩ := OwnSl.sl ho2
    have hb1 : Below w.heap.size w w1 := (Below.refl _ _).grown hg1 (Nat.le_refl _) (fun q hq => nomatch hq)
    rw [List.length_replicate] at e1 s1
    cases e1
    have B1 := Lib.hid hb1; have S1 := Lib.hid s1
    clear hb1 s1 ho1 ho2 hg1 hi hz hsz hby hzs
    simp only [Act.put, List.setIfInBounds_toArray, List.set_cons_zero, List.set_cons_succ]
    by_cases hlong : 4096 < m
    · have h3 : (4096 : Int) < (m : Int) := by omega
      have C := Lib.hid (fun w => cParseLong (A := some ⟨w.heap.size, 0, none⟩) (c := m) hlong w)
      go_wp2_with fail
      refine (cParseLong hlong w1).mono ?_
      rintro _ w2 ⟨_, rfl, hb2, rfl⟩
      have B2 := Lib.hid (B1.out.le hb2)
      clear hb2
      go_wp2_with fail
      refine (KT.out _).mono ?_
      rintro _ w8 ⟨_, rfl, hb8, rfl⟩
      have B4 := Lib.hid (B2.out.le hb8)
      clear hb8
      go_wp2
      go_ret
      exact retB rfl B4.out
    · have h3 : ¬ (4096 : Int) < (m : Int) := by omega
      have L1 := Lib.hid (show m <= 4096 by omega)
      clear hlong
      go_wp2_with fail
      refine (rParse S1.out L1.out).mono ?_
      rintro _ w2 ⟨v2, rfl, hb2, ho2⟩
      obtain ⟨A2, c2, rfl, s2⟩ := ho2.ops
      have B2 := Lib.hid (B1.out.le hb2); have S2 := Lib.hid s2; have S3 := Lib.hid (S1.out.mono hb2)
      clear hb2 ho2 s2
      go_wp2_with fail
      refine (creads S3.out L1.out S2.out).mono ?_
      rintro _ w3 ⟨_, rfl, hb3, rfl⟩
      have B3 := Lib.hid (B2.out.le hb3)
      clear hb3
      go_wp2_with fail
      refine (KT.out _).mono ?_
      rintro _ w8 ⟨_, rfl, hb8, rfl⟩
      have B4 := Lib.hid (B3.out.le hb8)
      clear hb8
      go_wp2
      go_ret
      exact retB rfl B4.out
  · have hbig := h.big
    have B1 := Lib.hid (Below.refl w.heap.size w)
    have S1 := Lib.hid h
    clear h
    have hside : (¬ (4094 : Int) <= many) ∨ ((4094 : Int) <= many ∧ ¬ many <= (4098 : Int)) := by omega
    clear hm
    rcases hside with hs | ⟨hs, hs2⟩
    all_goals
      by_cases h5 : 500 < n
      · have h6 : (500 : Int) < (n : Int) := by omega
        go_enter Tryz.func3, Tryz.ntmps3
        go_wp2_with fail
        refine (KT.out _).mono ?_
        rintro _ w8 ⟨_, rfl, hb8, rfl⟩
        have B4 := Lib.hid hb8
        clear hb8
        go_wp2
        go_ret
        exact retB rfl B4.out
      · have h6 : ¬ (500 : Int) < (n : Int) := by omega
        have h7 : ¬ (4096 : Int) < (n : Int) := by omega
        have L1 := Lib.hid (show n <= 4096 by omega)
        clear h5
        go_enter Tryz.func3, Tryz.ntmps3
        go_wp2_with fail
        refine (rParse S1.out L1.out).mono ?_
        rintro _ w2 ⟨v2, rfl, hb2, ho2⟩
        obtain ⟨A2, c2, rfl, s2⟩ := ho2.ops
        have B2 := Lib.hid (B1.out.le hb2); have S2 := Lib.hid s2; have S3 := Lib.hid (S1.out.mono hb2)
        clear hb2 ho2 s2
        go_wp2_with fail
        refine (creads S3.out L1.out S2.out).mono ?_
        rintro _ w3 ⟨_, rfl, hb3, rfl⟩
        have B3 := Lib.hid (B2.out.le hb3)
        clear hb3
        go_wp2_with fail
        refine (KT.out _).mono ?_
        rintro _ w8 ⟨_, rfl, hb8, rfl⟩
        have B4 := Lib.hid (B3.out.le hb8)
        clear hb8
        go_wp2
        go_ret
        exact retB rfl B4.out
end Go.Proofs.YtphhhnjeojdnkaaGreatDoor

/-
  From a law's walk to its row: what was there stays.
-/
namespace Go.Proofs.YtphhhnjeojdnkaaGreatDoor
open Go.ChangeShapes Go.WideShapes Go.ChangeAt Go.RowKit Go.Deep Go.Joins
section
variable {H : Type} {enc : TypeId × Value -> H} {P : Program}
theorem all_stay (hl : laidOutB P = true) {W W' : World} {sp' : Nat -> Bool} : ∀ {ts : List TypeId} {vs : List Value} {ds : List (DataW H)} {ps : List MemPlace}, (∀ t ∈ ts, P.readableRec t = true ∧ t < P.types.size) ->
    DataW.TrodAll enc P W 0 (fun _ => true) true ts vs ds ps -> (∀ p ∈ ps, W.sameAt W' p) -> (∀ p ∈ ps, sp' p.block = true) -> DataW.TrodAll enc P W' 0 sp' true ts vs ds ps
  | [], _, _, _, _, h, _, _ => by
    obtain ⟨rfl, rfl, rfl⟩ := trodAll_nil h
    rfl
  | t :: ts, _, _, _, hr, h, hs, hp => by
    obtain ⟨v, vs, d, ds, a, b, rfl, rfl, rfl, h1, h2⟩ := trodAll_cons h
    have ht := hr t List.mem_cons_self
    exact ⟨a, b, Go.WideElems.Trod_stays hl ht.1 ht.2 h1 (fun p h => hs p (List.mem_append_left _ h)) (fun p h => hp p (List.mem_append_left _ h)),
      all_stay hl (fun t h => hr t (List.mem_cons_of_mem _ h)) h2 (fun p h => hs p (List.mem_append_right _ h)) (fun p h => hp p (List.mem_append_right _ h)), rfl⟩
theorem law_post {f : Func} {s : ChangeSpec} {apart fresh handsOn again : Bool} {W W' : World} {args : Array Value} {ds : List (DataW H)} {before : List MemPlace} {tb : TypeId} (hl : laidOutB P = true)
    (hr0 : f.params.toList.all (fun t => P.readableRec t && decide (t < P.types.size)) = true) (hT : f.resultTypes = #[tb]) (hbt : P.underlying tb = some .bool) (hsv : s.vars = []) (hfn : s.fn H ds = { results := [.lit (.bool true)], args := ds })
    (hW : DataW.Whole enc P f.params.toList s.vars apart W args.toList ds [] before) (hb : Below W.heap.size W W') : s.post enc P f apart fresh handsOn again W args (.bool true) W' := by
  have hr : ∀ t ∈ f.params.toList, P.readableRec t = true ∧ t < P.types.size := fun t ht => by
    have := List.all_eq_true.1 hr0 t ht
    rw [Bool.and_eq_true] at this
    exact ⟨this.1, of_decide_eq_true this.2⟩
  obtain ⟨p, q, hA, hV, hps, hz, hn⟩ := id hW
  have hq : q = [] := by rw [hsv] at hV; exact hV
  subst hq
  rw [List.append_nil] at hps
  subst hps
  have hlt : ∀ x ∈ before, x.block < W.heap.size := fun x hx => hW.lt x hx
  have hsame : ∀ x ∈ before, W.sameAt W' x := fun x hx => hb.same (hlt x hx)
  have hres : ∀ (b : Nat) (sp : Nat -> Bool) (hd : Bool), DataW.TrodAll enc P W' b sp hd f.resultTypes.toList ((Value.bool true).resultList f.resultTypes.size) [.lit (.bool true)] [] := by
    intro b sp hd
    rw [hT]
    exact trodAll_mk1 (shut_bool hbt _)
  refine ⟨ds, [], before, [], before, [], hW, ?_, ?_, ?_, World.keptBut_mono (fun x hx => ⟨hx, .inr (.inl hx)⟩) (hb.frame (· ∈ before)), fun _ => ⟨?_, ?_⟩⟩
  · rw [List.append_nil, hfn]; exact hres _ _ _
  · rw [List.append_nil, hfn]; exact all_stay hl hr hA hsame fun x hx => by simpa using hlt x hx
  · rw [List.append_nil, hfn, hsv]; rfl
  · exact ok_one hT rfl (okWide_bool_mk hbt _)
  · refine ⟨_, [], before, ⟨before, [], trodAll_append (p := []) (all_stay hl hr hA hsame fun _ _ => rfl) (hres _ _ _), by rw [hsv]; rfl, by simp, fun b off hp => ?_, hn⟩, fun x hx _ => hx⟩
    rw [hb.frozen (hlt _ hp)]
    exact hz b off hp
end
theorem own_none : ownKnob Tryz.prog.godebug = none := by kernel_rfl
theorem laid_out : laidOutB Tryz.prog = true := by kernel_rfl
end Go.Proofs.YtphhhnjeojdnkaaGreatDoor
