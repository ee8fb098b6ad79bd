/-
  Bytes that came in: what they read as.
-/
import Derived.Test.YtphhhnjeojdnkaaGreatDoorSPAP
set_option linter.unusedSectionVars false
set_option linter.unusedVariables false
set_option linter.unusedSimpArgs false
set_option maxRecDepth 100000
set_option maxHeartbeats 8000000
namespace Go.Proofs.YtphhhnjeojdnkaaGreatDoor
open Go.ChangeShapes Go.WideShapes Go.ChangeAt Go.RowKit Go.Deep Go.Joins
section
variable {H : Type} {enc : TypeId × Value -> H} {w : World} {base : Nat} {held : Bool}
theorem cells_u8 : Tryz.prog.cellsOf 5 = 1 := by kernel_rfl
theorem open_byte {fuel : Nat} {cs : List Value} {x : DataW H × List MemPlace} (h : DataW.trod enc Tryz.prog w base (fun _ => true) held fuel 5 cs = some x) : ∃ b, encB.enc b = cs := by
  obtain ⟨p, rfl, _, wf⟩ := DataW.trod_int Tryz.underlying5 h
  have h2 : 0 <= p ∧ p <= 255 := by
    have h3 : IntKind.u8.min <= p ∧ p <= IntKind.u8.max := by simpa [Lit.wf] using wf
    exact h3
  refine ⟨UInt8.ofNat p.toNat, ?_⟩
  simp [encB]
  omega
theorem read_sl {α : Type} [Inhabited α] (e : Enc α) {t et : TypeId} (ht : Tryz.prog.underlying t = some (.slice et)) (hz : Tryz.prog.cellsOf et = e.z) (hz0 : 0 < e.z)
    (each : ∀ {fuel : Nat} {cs : List Value} {x : DataW H × List MemPlace}, DataW.trod enc Tryz.prog w base (fun _ => true) held fuel et cs = some x -> ∃ a, e.enc a = cs)
    {fuel : Nat} {v : Value} {x : DataW H × List MemPlace} (h : DataW.trod enc Tryz.prog w base (fun _ => true) held fuel t [v] = some x) : ∃ A n c l, v = .slice A n c ∧ Sl e w A n c l := by
  rcases open_slice ht h with ⟨h1, _⟩ | ⟨a, len, cap, m, n, D, Pl, h1, hb, hl, hm, hmm, _, hx⟩
  · cases h1
    exact ⟨none, 0, 0, [], rfl, rfl, Nat.le_refl _, Nat.zero_le _, fun _ => rfl, fun i x hi => by simp at hi⟩
  · cases h1
    rw [if_pos rfl] at hmm
    rw [hz] at hx
    have at_ : ∀ i, i < len -> ∃ s : α, ∀ j u, (e.enc s)[j]? = some u -> w.cell? (a.add (i * e.z + j)) = some u := by
      intro i hi
      obtain ⟨cs', h1, h2⟩ := hx i (by omega)
      obtain ⟨_, hlen, hcell⟩ := World.cells?_some h1
      obtain ⟨s, hs⟩ := each h2
      refine ⟨s, fun j u hj => ?_⟩
      rw [hs] at hj
      have hj6 : j < e.z := by
        have h9 := (List.getElem?_eq_some_iff.1 hj).1
        omega
      have := hcell j hj6
      rw [add_add] at this
      rw [this]; exact hj
    obtain ⟨q, hq⟩ := choose_lt at_
    refine ⟨some a, len, cap, (List.range len).map q, rfl, by simp, hl, hm, (fun e => nomatch e), fun i v hi => ?_⟩
    have hil : i < len := by have := (List.getElem?_eq_some_iff.1 hi).1; simpa using this
    rw [List.getElem?_map, List.getElem?_range hil] at hi
    simp only [Option.map_some, Option.some.injEq] at hi
    subst hi
    have hc := hq i hil
    obtain ⟨b, o, s⟩ := a
    have hfst : ∀ j, ∃ u, (e.enc (q j))[0]? = some u := fun j => ⟨_, List.getElem?_eq_getElem (by rw [e.len]; exact hz0)⟩
    obtain ⟨u0, h0⟩ := hfst i
    obtain ⟨u1, h01⟩ := hfst 0
    have hs : s = none := by have h9 := World.cell?_spot (hq 0 (by omega) 0 _ h01); simpa [Addr.add] using h9
    subst hs
    refine ⟨b, o, rfl, ?_, fun j u hj => ?_⟩
    · have h9 := hc 0 _ h0
      rw [add_lit] at h9
      exact World.block_lt_of_cell? w _ h9
    · have := hc j u hj
      rw [add_lit] at this
      rw [Nat.add_assoc]; exact this
theorem read_bytes {fuel : Nat} {v : Value} {x : DataW H × List MemPlace} (h : DataW.trod enc Tryz.prog w base (fun _ => true) held fuel 22 [v] = some x) : ∃ A n c l, v = .slice A n c ∧ Sl encB w A n c l :=
  haveI : Inhabited UInt8 := ⟨0⟩
  read_sl encB Tryz.underlying22 cells_u8 Nat.one_pos (fun h => open_byte h) h
end
end Go.Proofs.YtphhhnjeojdnkaaGreatDoor
