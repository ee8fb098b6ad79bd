/-
  From a law's walk to its row: arguments read as lists of dots; what was there stays.
-/
import Derived.Test.YtjbakmmmgejhlaaWL
import Derived.Test.YtjbakmmmgejhlaaRows
import Derived.ProofKit
import Derived.WideKeyArgs
import Derived.Deep.SlicePairs
import Derived.Lib.SmallJoins
namespace Go.Proofs.Ytjbakmmmgejhlaa
open Go.ChangeShapes Go.WideShapes Go.ChangeAt Go.RowKit Go.Deep Go.Joins

section
variable {H : Type} {enc : TypeId × Value → H} {P : Program}
/-- Arguments that were read whole are read alike in a world in which all that was there is as it was. -/
theorem all_stay (hl : laidOutB P = true) {W W' : World} {sp' : Nat → Bool} : ∀ {ts : List TypeId} {vs : List Value} {ds : List (DataW H)} {ps : List MemPlace}, (∀ t ∈ ts, P.readableRec t = true ∧ t < P.types.size) →
    DataW.TrodAll enc P W 0 (fun _ => true) true ts vs ds ps → (∀ p ∈ ps, W.sameAt W' p) → (∀ p ∈ ps, sp' p.block = true) → DataW.TrodAll enc P W' 0 sp' true ts vs ds ps
  | [], _, _, _, _, h, _, _ => by
    obtain ⟨rfl, rfl, rfl⟩ := trodAll_nil h
    rfl
  | t :: ts, _, _, _, hr, h, hs, hp => by
    obtain ⟨v, vs, d, ds, a, b, rfl, rfl, rfl, h1, h2⟩ := trodAll_cons h
    have ht := hr t List.mem_cons_self
    exact ⟨a, b, Go.WideElems.Trod_stays hl ht.1 ht.2 h1 (fun p h => hs p (List.mem_append_left _ h)) (fun p h => hp p (List.mem_append_left _ h)),
      all_stay hl (fun t h => hr t (List.mem_cons_of_mem _ h)) h2 (fun p h => hs p (List.mem_append_right _ h)) (fun p h => hp p (List.mem_append_right _ h)), rfl⟩
/-- The row's last step for a law: it returned true, and nothing that was there has turned. -/
theorem law_post {f : Func} {s : ChangeSpec} {apart fresh handsOn again : Bool} {W W' : World} {args : Array Value} {ds : List (DataW H)} {before : List MemPlace} {tb : TypeId} (hl : laidOutB P = true)
    (hr0 : f.params.toList.all (fun t => P.readableRec t && decide (t < P.types.size)) = true) (hT : f.resultTypes = #[tb]) (hbt : P.underlying tb = some .bool) (hsv : s.vars = []) (hfn : s.fn H ds = { results := [.lit (.bool true)], args := ds })
    (hW : DataW.Whole enc P f.params.toList s.vars apart W args.toList ds [] before) (hb : Below W.heap.size W W') : s.post enc P f apart fresh handsOn again W args (.bool true) W' := by
  have hr : ∀ t ∈ f.params.toList, P.readableRec t = true ∧ t < P.types.size := fun t ht => by
    have := List.all_eq_true.1 hr0 t ht
    rw [Bool.and_eq_true] at this
    exact ⟨this.1, of_decide_eq_true this.2⟩
  obtain ⟨p, q, hA, hV, hps, hz, hn⟩ := id hW
  have hq : q = [] := by rw [hsv] at hV; exact hV
  subst hq
  rw [List.append_nil] at hps
  subst hps
  have hlt : ∀ x ∈ before, x.block < W.heap.size := fun x hx => hW.lt x hx
  have hsame : ∀ x ∈ before, W.sameAt W' x := fun x hx => hb.same (hlt x hx)
  have hres : ∀ (b : Nat) (sp : Nat → Bool) (hd : Bool), DataW.TrodAll enc P W' b sp hd f.resultTypes.toList ((Value.bool true).resultList f.resultTypes.size) [.lit (.bool true)] [] := by
    intro b sp hd
    rw [hT]
    exact trodAll_mk1 (shut_bool hbt _)
  refine ⟨ds, [], before, [], before, [], hW, ?_, ?_, ?_, World.keptBut_mono (fun x hx => ⟨hx, .inr (.inl hx)⟩) (hb.frame (· ∈ before)), fun _ => ⟨?_, ?_⟩⟩
  · rw [List.append_nil, hfn]; exact hres _ _ _
  · rw [List.append_nil, hfn]; exact all_stay hl hr hA hsame fun x hx => by simpa using hlt x hx
  · rw [List.append_nil, hfn, hsv]; rfl
  · exact ok_one hT rfl (okWide_bool_mk hbt _)
  · refine ⟨_, [], before, ⟨before, [], trodAll_append (p := []) (all_stay hl hr hA hsame fun _ _ => rfl) (hres _ _ _), by rw [hsv]; rfl, by simp, fun b off hp => ?_, hn⟩, fun x hx _ => hx⟩
    rw [hb.frozen (hlt _ hp)]
    exact hz b off hp
end

section
variable {H : Type} {enc : TypeId × Value → H} {w : World} {base : Nat} {held : Bool}
/-- A slice of dots that came in. -/
theorem read_dots {fuel : Nat} {v : Value} {x : DataW H × List MemPlace} (h : DataW.trod enc Try.prog w base (fun _ => true) held fuel 28 [v] = some x) : ∃ A n c l, v = .slice A n c ∧ Dots w A n c l := by
  rcases open_slice_pairs Try.underlying28 Try.underlying27 (by kernel_rfl) rfl rfl (by kernel_rfl) (by kernel_rfl) h with ⟨h1, _⟩ | ⟨a, len, cap, m, k, V0, V1, D0, D1, P0, P1, h1, _, hl, hm, hmm, _, hx⟩
  · cases h1
    exact ⟨none, 0, 0, [], rfl, Dots.nil_⟩
  · cases h1
    rw [if_pos rfl] at hmm
    refine ⟨some a, len, cap, (List.range len).map fun i => (intOf (V0 i), intOf (V1 i)), rfl, by simp, hl, hm, (fun e => nomatch e), fun i d hd => ?_⟩
    have hi : i < len := by have := (List.getElem?_eq_some_iff.1 hd).1; simpa using this
    rw [List.getElem?_map, List.getElem?_range hi] at hd
    simp only [Option.map_some, Option.some.injEq] at hd
    subst hd
    obtain ⟨c0, c1, g0, g1⟩ := hx i (by omega)
    obtain ⟨b, o, s⟩ := a
    have hs : s = none := by have h9 := World.cell?_spot (hx 0 (by omega)).1; simpa [Addr.add] using h9
    subst hs
    rw [add_lit] at c0 c1
    refine ⟨b, o, rfl, World.block_lt_of_cell? w _ c0, ?_, ?_⟩
    · obtain ⟨a0, e0, _⟩ := DataW.trod_int Try.underlying3 g0
      rw [c0]
      simp at e0
      rw [e0]; rfl
    · obtain ⟨a0, e0, _⟩ := DataW.trod_int Try.underlying3 g1
      rw [Nat.add_assoc, c1]
      simp at e0
      rw [e0]; rfl
theorem read_vec {fuel : Nat} {v : Value} {x : DataW H × List MemPlace} (h : DataW.trod enc Try.prog w base (fun _ => true) held fuel 29 [v] = some x) : ∃ A n c l, v = .slice A n c ∧ Dots w A n c l := by
  rcases open_slice_pairs Try.underlying29 Try.underlying27 (by kernel_rfl) rfl rfl (by kernel_rfl) (by kernel_rfl) h with ⟨h1, _⟩ | ⟨a, len, cap, m, k, V0, V1, D0, D1, P0, P1, h1, _, hl, hm, hmm, _, hx⟩
  · cases h1
    exact ⟨none, 0, 0, [], rfl, Dots.nil_⟩
  · cases h1
    rw [if_pos rfl] at hmm
    refine ⟨some a, len, cap, (List.range len).map fun i => (intOf (V0 i), intOf (V1 i)), rfl, by simp, hl, hm, (fun e => nomatch e), fun i d hd => ?_⟩
    have hi : i < len := by have := (List.getElem?_eq_some_iff.1 hd).1; simpa using this
    rw [List.getElem?_map, List.getElem?_range hi] at hd
    simp only [Option.map_some, Option.some.injEq] at hd
    subst hd
    obtain ⟨c0, c1, g0, g1⟩ := hx i (by omega)
    obtain ⟨b, o, s⟩ := a
    have hs : s = none := by have h9 := World.cell?_spot (hx 0 (by omega)).1; simpa [Addr.add] using h9
    subst hs
    rw [add_lit] at c0 c1
    refine ⟨b, o, rfl, World.block_lt_of_cell? w _ c0, ?_, ?_⟩
    · obtain ⟨a0, e0, _⟩ := DataW.trod_int Try.underlying3 g0
      rw [c0]
      simp at e0
      rw [e0]; rfl
    · obtain ⟨a0, e0, _⟩ := DataW.trod_int Try.underlying3 g1
      rw [Nat.add_assoc, c1]
      simp at e0
      rw [e0]; rfl
end
theorem own_none : ownKnob Try.prog.godebug = none := by kernel_rfl
theorem laid_out : laidOutB Try.prog = true := by kernel_rfl
set_option maxRecDepth 100000 in
theorem read_con {H : Type} {enc : TypeId × Value → H} {w : World} {base : Nat} {held : Bool} {r : Reach} {b0 : Nat} {v : Value} {d : DataW H} {p : List MemPlace} (hv : Value.okWide Try.prog w r b0 31 v)
    (h : DataW.Trod enc Try.prog w base (fun _ => true) held 31 v d p) : ∃ A n ca B m cb c, v = .agg #[.slice A n ca, .slice B m cb] ∧ Con w A n ca B m cb c := by
  obtain ⟨v0, v1, y0, y1, k, rfl, _, _, h0, h1⟩ := open_agg2 Try.underlying31 (by kernel_rfl) (by kernel_rfl) hv h
  obtain ⟨A, n, ca, l, rfl, d1⟩ := read_vec h0
  obtain ⟨B, m, cb, l', rfl, d2⟩ := read_dots h1
  exact ⟨A, n, ca, B, m, cb, (l, l'), rfl, d1, d2⟩
set_option maxRecDepth 100000 in
theorem read_list {H : Type} {enc : TypeId × Value → H} {w : World} {base : Nat} {held : Bool} {r : Reach} {b0 : Nat} {v : Value} {d : DataW H} {p : List MemPlace} (hv : Value.okWide Try.prog w r b0 28 v)
    (h : DataW.Trod enc Try.prog w base (fun _ => true) held 28 v d p) : ∃ A n c l, v = .slice A n c ∧ Dots w A n c l := by
  obtain ⟨A, n, c, rfl⟩ := okWide_slice Try.underlying28 hv
  obtain ⟨k, hk⟩ := h
  exact read_dots hk
set_option maxRecDepth 100000 in
theorem read_dot {H : Type} {enc : TypeId × Value → H} {w : World} {base : Nat} {held : Bool} {r : Reach} {b0 : Nat} {v : Value} {d : DataW H} {p : List MemPlace} (hv : Value.okWide Try.prog w r b0 27 v)
    (h : DataW.Trod enc Try.prog w base (fun _ => true) held 27 v d p) : ∃ x y, v = .agg #[.int .i64 x, .int .i64 y] ∧ (Lit.int .i64 x).wf = true ∧ (Lit.int .i64 y).wf = true := by
  obtain ⟨v0, v1, y0, y1, k, rfl, _, _, h0, h1⟩ := open_agg2 Try.underlying27 (by kernel_rfl) (by kernel_rfl) hv h
  obtain ⟨x, e0, _, w0⟩ := DataW.trod_int Try.underlying3 h0
  obtain ⟨y, e1, _, w1⟩ := DataW.trod_int Try.underlying3 h1
  simp at e0 e1
  subst e0; subst e1
  exact ⟨x, y, rfl, w0, w1⟩

end Go.Proofs.Ytjbakmmmgejhlaa
