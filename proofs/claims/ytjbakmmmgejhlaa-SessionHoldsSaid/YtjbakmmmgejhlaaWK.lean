/-
  context.Size.
-/
import Derived.Test.YtjbakmmmgejhlaaWJ
namespace Go.Proofs.Ytjbakmmmgejhlaa
open Go.RowKit

theorem stepC_length (s : Ctx) (d : Dot) : (stepC s d).1.length ≤ s.1.length + 1 ∧ (stepC s d).2.length ≤ s.2.length + 1 := by
  unfold stepC
  split
  · exact ⟨by omega, by omega⟩
  · split
    · exact ⟨raiseV_length _ _, by show s.2.length ≤ _; omega⟩
    · exact ⟨by show s.1.length ≤ _; omega, by simp⟩
theorem foldC_length : ∀ (l : List Dot) (s : Ctx), (l.foldl stepC s).1.length ≤ s.1.length + l.length ∧ (l.foldl stepC s).2.length ≤ s.2.length + l.length
  | [], s => ⟨Nat.le_refl _, Nat.le_refl _⟩
  | d :: t, s => by
    obtain ⟨h1, h2⟩ := stepC_length s d
    obtain ⟨h3, h4⟩ := foldC_length t (stepC s d)
    rw [List.foldl_cons, List.length_cons]
    exact ⟨by omega, by omega⟩
theorem pass_length (c : Ctx) : (passC c).1.length ≤ c.1.length + c.2.length ∧ (passC c).2.length ≤ c.2.length := by
  obtain ⟨h1, h2⟩ := foldC_length c.2 (c.1, [])
  exact ⟨h1, by unfold passC; simpa using h2⟩
end Go.Proofs.Ytjbakmmmgejhlaa

/-
  context.Add, context.Of.
-/
namespace Go.Proofs.Ytjbakmmmgejhlaa
open Go.RowKit

theorem Ret.imp {w w' : World} {F G : VT} {e : Ending} (h : Ret w F e w') (hfg : ∀ v, F w' v → G w' v) : Ret w G e w' := let ⟨v, e, hb, hf⟩ := h; ⟨v, e, hb, hfg v hf⟩
theorem IsPair.imp {w : World} {F G : VT} {k : Int} {v : Value} (h : IsPair F k w v) (hfg : ∀ v, F w v → G w v) : IsPair G k w v := let ⟨x, e, hf⟩ := h; ⟨x, e, hfg x hf⟩

theorem ext0 {w : World} {F : VT} {k : Int} {v : Value} (h : IsPair F k w v) : ∃ r, (Instr.extract v 0).run Try.prog w = .ok r w ∧ F w r := by
  obtain ⟨x, rfl, hf⟩ := h
  exact ⟨x, by simp [go_sem], hf⟩
theorem ext1 {w : World} {F : VT} {k : Int} {v : Value} (h : IsPair F k w v) : ∃ r, (Instr.extract v 1).run Try.prog w = .ok r w ∧ Is (.int .i64 k) w r := by
  obtain ⟨x, rfl, hf⟩ := h
  exact ⟨.int .i64 k, by simp [go_sem], rfl⟩
set_option maxRecDepth 100000 in
set_option maxHeartbeats 1000000 in
theorem iadd_no (A B C : Option Addr) (n ca m cb k ck : Nat) (c : Ctx) (l : List Dot) (w : World) (h : Con w A n ca B m cb c) (hl : Dots w C k ck l) (hv : (validC c && validL l) = false) :
    Calls Try.prog 20 #[.agg #[.slice A n ca, .slice B m cb], .slice C k ck] w (Ret w (IsPair (IsConA w.heap.size ([], [])) 2)) := by
  have hb0 : Below w.heap.size w ((w.alloc (conBox A n ca B m cb)).alloc (conBox none 0 0 none 0 0)) := by go_grown
  have z0 : ((w.alloc (conBox A n ca B m cb)).alloc (conBox none 0 0 none 0 0)).cell? ⟨w.heap.size + 1, 0, none⟩ = some (.slice none 0 0) := by simp [go_sem]
  have z1 : ((w.alloc (conBox A n ca B m cb)).alloc (conBox none 0 0 none 0 0)).cell? ⟨w.heap.size + 1, 1, none⟩ = some (.slice none 0 0) := by simp [go_sem]
  have zf : ∀ o, ((w.alloc (conBox A n ca B m cb)).alloc (conBox none 0 0 none 0 0)).frozen? ⟨w.heap.size + 1, o, none⟩ = false := fun o => by simp [go_sem]
  have f := cvalid14 A B n ca m cb c _ (h.mono hb0)
  have l0 := hl.mono hb0
  have HB := Lib.hid hb0; have Z0 := Lib.hid z0; have Z1 := Lib.hid z1; have ZF := Lib.hid zf; have L0 := Lib.hid l0
  have fin : ∀ w1, Below ((w.alloc (conBox A n ca B m cb)).alloc (conBox none 0 0 none 0 0)).heap.size ((w.alloc (conBox A n ca B m cb)).alloc (conBox none 0 0 none 0 0)) w1 → w1.cell? ⟨w.heap.size + 1, 0, none⟩ = some (.slice none 0 0) ∧ w1.cell? ⟨w.heap.size + 1, 1, none⟩ = some (.slice none 0 0) ∧ w1.frozen? ⟨w.heap.size + 1, 0, none⟩ = false ∧ w1.frozen? ⟨w.heap.size + 1, 1, none⟩ = false ∧ w.heap.size + 1 < w1.heap.size := fun w1 hb1 =>
    ⟨cellKeep hb1 Z0.out, cellKeep hb1 Z1.out, (hb1.frozen (p := ⟨w.heap.size + 1, 0, none⟩) (by simp)).trans (ZF.out 0), (hb1.frozen (p := ⟨w.heap.size + 1, 1, none⟩) (by simp)).trans (ZF.out 1), World.block_lt_of_cell? w1 _ (cellKeep hb1 Z0.out)⟩
  have FIN := Lib.hid fin
  clear hb0 z0 z1 zf h hl l0 fin
  cases hc : validC c with
  | false =>
    rw [hc] at f
    have F := Lib.hid f; clear f hv hc
    go_enter Try.func20, Try.ntmps20
    go_wp2_with fail
    refine F.out.mono ?_
    rintro e w1 ⟨_, rfl, hb1, rfl⟩
    obtain ⟨x0, x1, x2, x3, hz1⟩ := FIN.out w1 hb1
    have HB1 := Lib.hid (HB.out.le hb1)
    clear hb1 F
    go_wp2
    have s0 := cell_set (v := .slice none 0 0) x0
    have s1 := cell_set (v := .slice none 0 0) (cell_far (b := ⟨w.heap.size + 1, 0, none⟩) (v := .slice none 0 0) (by simp) x1)
    refine bodyPost_ret (v := .tuple #[.agg #[.slice none 0 0, .slice none 0 0], .int .i64 2]) (by simp [results, Try.results20, go_sem, s0, s1]) rfl ?_
    exact ⟨_, rfl, (HB1.out.setCell (p := ⟨w.heap.size + 1, 0, none⟩) (by simp) _).setCell (p := ⟨w.heap.size + 1, 1, none⟩) (by simp) _, _, rfl, IsConA.nil_ _ _⟩
  | true =>
    rw [hc] at f
    have hv' : validL l = false := by rw [hc] at hv; simpa using hv
    have f2 := fun w1 h1 => cvalidL C k ck l w1 h1
    rw [hv'] at f2
    have F := Lib.hid f; have F2 := Lib.hid f2; clear f f2 hv hv' hc
    go_enter Try.func20, Try.ntmps20
    go_wp2_with fail
    refine F.out.mono ?_
    rintro e w1 ⟨_, rfl, hb1, rfl⟩
    have F3 := Lib.hid (F2.out w1 (L0.out.mono hb1))
    have HB1 := Lib.hid hb1
    clear hb1 F F2
    go_wp2_with fail
    refine F3.out.mono ?_
    rintro e w2 ⟨_, rfl, hb2, rfl⟩
    obtain ⟨x0, x1, x2, x3, hz1⟩ := FIN.out w2 (HB1.out.le hb2)
    have HB2 := Lib.hid (HB.out.le (HB1.out.le hb2))
    clear hb2 F3
    go_wp2
    have s0 := cell_set (v := .slice none 0 0) x0
    have s1 := cell_set (v := .slice none 0 0) (cell_far (b := ⟨w.heap.size + 1, 0, none⟩) (v := .slice none 0 0) (by simp) x1)
    refine bodyPost_ret (v := .tuple #[.agg #[.slice none 0 0, .slice none 0 0], .int .i64 2]) (by simp [results, Try.results20, go_sem, s0, s1]) rfl ?_
    exact ⟨_, rfl, (HB2.out.setCell (p := ⟨w.heap.size + 1, 0, none⟩) (by simp) _).setCell (p := ⟨w.heap.size + 1, 1, none⟩) (by simp) _, _, rfl, IsConA.nil_ _ _⟩

set_option maxRecDepth 100000 in
set_option maxHeartbeats 2000000 in
theorem iadd (A B C : Option Addr) (n ca m cb k ck : Nat) (c : Ctx) (l : List Dot) (w : World) (h : Con w A n ca B m cb c) (hl : Dots w C k ck l) (hs : Small (n + (m + k) + 1)) (hv : validC c = true) (hvl : validL l = true) :
    Calls Try.prog 20 #[.agg #[.slice A n ca, .slice B m cb], .slice C k ck] w (Ret w (IsPair (IsConA w.heap.size (addC c l)) 0)) := by
  have hb0 : Below w.heap.size w ((w.alloc (conBox A n ca B m cb)).alloc (conBox none 0 0 none 0 0)) := by go_grown
  have y0 : ((w.alloc (conBox A n ca B m cb)).alloc (conBox none 0 0 none 0 0)).cell? ⟨w.heap.size, 0, none⟩ = some (.slice A n ca) := by simp [go_sem]
  have y1 : ((w.alloc (conBox A n ca B m cb)).alloc (conBox none 0 0 none 0 0)).cell? ⟨w.heap.size, 1, none⟩ = some (.slice B m cb) := by simp [go_sem]
  have z0 : ((w.alloc (conBox A n ca B m cb)).alloc (conBox none 0 0 none 0 0)).cell? ⟨w.heap.size + 1, 0, none⟩ = some (.slice none 0 0) := by simp [go_sem]
  have z1 : ((w.alloc (conBox A n ca B m cb)).alloc (conBox none 0 0 none 0 0)).cell? ⟨w.heap.size + 1, 1, none⟩ = some (.slice none 0 0) := by simp [go_sem]
  have zf : ∀ o, ((w.alloc (conBox A n ca B m cb)).alloc (conBox none 0 0 none 0 0)).frozen? ⟨w.heap.size + 1, o, none⟩ = false := fun o => by simp [go_sem]
  have hsm : Small (m + k) := by have := hs.out; unfold Small; omega
  have hsc : ∀ (A' B' : Option Addr) (n' ca' m' cb' : Nat) (w' : World), Con w' A' n' ca' B' m' cb' (c.1, unionD c.2 l) → Small (n' + m' + 1) := fun A' B' n' ca' m' cb' w' hc => by
    have e1 := hc.v.len; have e2 := hc.k.len; have := unionD_length c.2 l; have := h.v.len; have := h.k.len; have := hl.len; have := hs.out
    unfold Small; simp only at e1 e2; omega
  have h0 := h.mono hb0
  have l0 := hl.mono hb0
  have f := cvalid14 A B n ca m cb c _ h0
  have f2 := fun w1 h1 => cvalidL C k ck l w1 h1
  rw [hv] at f
  rw [hvl] at f2
  have hvu : validC (c.1, unionD c.2 l) = true := ok_iff.2 (ok_add (ok_iff.1 hv) hvl)
  have H0 := Lib.hid h0; have L0 := Lib.hid l0; have HB := Lib.hid hb0; have Y0 := Lib.hid y0; have Y1 := Lib.hid y1; have Z0 := Lib.hid z0; have Z1 := Lib.hid z1; have ZF := Lib.hid zf; have HSC := Lib.hid hsc; have HVU := Lib.hid hvu
  have F := Lib.hid f; have F2 := Lib.hid f2
  clear hb0 y0 y1 z0 z1 zf h hl h0 l0 f f2 hsc hvu hv hvl
  unfold addC
  rw [compact_pass]
  have hcall : ∀ (w1 : World) (v : Value), w.heap.size + 2 ≤ w1.heap.size → IsCon (c.1, unionD c.2 l) w1 v → Calls Try.prog 37 #[v] w1 (Ret w1 (IsPair (IsConA (w.heap.size + 2) (passC (c.1, unionD c.2 l))) 0)) := by
    rintro w1 v hw1 ⟨A', n', ca', B', m', cb', rfl, hc⟩
    exact (icompact A' B' n' ca' m' cb' _ w1 hc (HSC.out _ _ _ _ _ _ _ hc) HVU.out).mono fun _ _ hr => hr.imp fun _ hp => hp.imp fun _ ha => ha.low hw1
  have HCALL := Lib.hid hcall; clear hcall
  go_enter Try.func20, Try.ntmps20
  go_wp2_with fail
  refine F.out.mono ?_
  rintro e w1 ⟨_, rfl, hb1, rfl⟩
  have F3 := Lib.hid (F2.out w1 (L0.out.mono hb1))
  have HB1 := Lib.hid hb1
  clear hb1 F F2
  go_wp2_with fail
  refine F3.out.mono ?_
  rintro e w2 ⟨_, rfl, hb2, rfl⟩
  have HB2 := Lib.hid (HB1.out.le hb2)
  have hz2 : w.heap.size + 2 ≤ w2.heap.size := by have := HB2.out.size; simp at this; omega
  have K0 := Lib.hid (cellKeep HB2.out Y0.out); have K1 := Lib.hid (cellKeep HB2.out Y1.out)
  have H2 := Lib.hid (H0.out.mono HB2.out); have L2 := Lib.hid (L0.out.mono HB2.out)
  clear hb2 F3 HB1
  go_wp2_with fail
  refine wp_region_MT 10 mixed (by kernel_rfl) (by kernel_rfl) ?_
  refine MDerT.step (Ob.fieldV Wanted.free Has.oldIs (fun w1 => field_con0)) ?_
  refine MDerT.step (Ob.loadV Wanted.free (Has.new 0 0) (fun w1 hb1 => load_vec hb1 K0.out)) ?_
  refine MDerT.step (Ob.fieldV Wanted.free Has.oldIs (fun w1 => field_con1)) ?_
  refine MDerT.step (Ob.loadV Wanted.free (Has.new 2 0) (fun w1 hb1 => load_dots hb1 K1.out)) ?_
  refine MDerT.step (Ob.move Wanted.free Has.oldIs) ?_
  refine MDerT.step (Ob.call2V Wanted.free entersDUnion (Has.new 3 1) (Has.new 4 0) (fun w1 hb1 => (dunion B C m cb k ck c.2 l w1 (H2.out.k.mono hb1) (L2.out.mono hb1) hsm).mono fun _ _ hr => hr.imp fun _ hx => IsRow.dots hx)) ?_
  refine MDerT.step (Ob.mkConD Wanted.free (Has.new 1 4) (Has.new 5 0) (fun w1 hb1 => H2.out.v.mono hb1)) ?_
  refine MDerT.step (Ob.call1 Wanted.free entersICompact (Has.new 6 0) (fun w1 v hb1 hv => HCALL.out w1 v (Nat.le_trans hz2 hb1.size) hv)) ?_
  refine MDerT.step (Ob.extract (F := IsConA (w.heap.size + 2) (passC (c.1, unionD c.2 l))) Wanted.free (Has.new 7 0) (fun w1 v hb1 hv => ext0 (F := IsConA (w.heap.size + 2) (passC (c.1, unionD c.2 l))) hv)) ?_
  refine MDerT.step (Ob.extract (F := IsI 0) Wanted.free (Has.new 7 1) (fun w1 v hb1 hv => ext1 (F := IsConA (w.heap.size + 2) (passC (c.1, unionD c.2 l))) hv)) ?_
  simp only [MDerT, dstsOf, List.map, EndM, List.reverse_cons, List.reverse_nil, List.nil_append, List.cons_append, List.take_succ_cons, List.take_zero, List.drop_succ_cons, List.drop_zero]
  intro wE hE
  iterate 5 (rintro _ rfl)
  rintro _ _h5
  rintro _ _h6
  rintro _ _h7
  rintro _ ⟨A1, n1, c1, B1, m1, d1, rfl, r1, r2, hap⟩
  iterate 1 (rintro _ rfl)
  simp only [Act.put, List.setIfInBounds_toArray, List.set_cons_zero, List.set_cons_succ]
  have hEE := HB2.out.le hE
  have x0 := cellKeep hEE Z0.out
  have x1 := cellKeep hEE Z1.out
  have yf0 : wE.frozen? ⟨w.heap.size + 1, 0, none⟩ = false := (hEE.frozen (p := ⟨w.heap.size + 1, 0, none⟩) (by simp)).trans (ZF.out 0)
  have yf1 : wE.frozen? ⟨w.heap.size + 1, 1, none⟩ = false := (hEE.frozen (p := ⟨w.heap.size + 1, 1, none⟩) (by simp)).trans (ZF.out 1)
  have hz : w.heap.size + 1 < wE.heap.size := World.block_lt_of_cell? wE _ x0
  have s0 := cell_set (v := .slice A1 n1 c1) x0
  have s1 := cell_set (v := .slice B1 m1 d1) (cell_far (b := ⟨w.heap.size + 1, 0, none⟩) (v := .slice A1 n1 c1) (by simp) x1)
  have HE2 := Lib.hid hEE; have R1 := Lib.hid r1; have R2 := Lib.hid r2; have HAP := Lib.hid hap
  clear hE hEE r1 r2 hap
  go_wp2
  refine bodyPost_ret (v := .tuple #[.agg #[.slice A1 n1 c1, .slice B1 m1 d1], .int .i64 0]) (by simp [results, Try.results20, go_sem, s0, s1]) rfl ?_
  have ho1 : ∀ j, (Value.slice A1 n1 c1).ownBlock = some j → j ≠ w.heap.size + 1 := fun j hj => by have := Row.own _ R1.out j hj; omega
  have ho2 : ∀ j, (Value.slice B1 m1 d1).ownBlock = some j → j ≠ w.heap.size + 1 := fun j hj => by have := Row.own _ R2.out j hj; omega
  exact ⟨_, rfl, ((HB.out.le HE2.out).setCell (p := ⟨w.heap.size + 1, 0, none⟩) (by simp) _).setCell (p := ⟨w.heap.size + 1, 1, none⟩) (by simp) _, _, rfl, _, _, _, _, _, _, rfl,
    Row.low (Row.set_ (Row.set_ R1.out (p := ⟨w.heap.size + 1, 0, none⟩) ho1 _) (p := ⟨w.heap.size + 1, 1, none⟩) ho1 _) (by omega), Row.low (Row.set_ (Row.set_ R2.out (p := ⟨w.heap.size + 1, 0, none⟩) ho2 _) (p := ⟨w.heap.size + 1, 1, none⟩) ho2 _) (by omega), HAP.out⟩
end Go.Proofs.Ytjbakmmmgejhlaa

/-
  slices.DeleteFunc on a row of the call's own; context.Missing.
-/
namespace Go.Proofs.Ytjbakmmmgejhlaa
open Go.RowKit

theorem idx_none (p : Dot → Bool) : ∀ (l : List Dot) (k : Nat), idxFrom p k l = -1 → ∀ d ∈ l, p d = false
  | [], _, _, d, hd => nomatch hd
  | a :: t, k, h, d, hd => by
    rw [idxFrom] at h
    cases hp : p a with
    | true => rw [hp, if_pos rfl] at h; omega
    | false =>
      rw [hp, if_neg (by simp)] at h
      rcases List.mem_cons.1 hd with rfl | hd
      · exact hp
      · exact idx_none p t (k + 1) h d hd
theorem idx_some (p : Dot → Bool) : ∀ (l : List Dot) (k : Nat), idxFrom p k l ≠ -1 → ∃ m, idxFrom p k l = ((k + m : Nat) : Int) ∧ m < l.length ∧ (∀ d ∈ l.take m, p d = false) ∧ ∃ d, l[m]? = some d ∧ p d = true
  | [], _, h => absurd rfl h
  | a :: t, k, h => by
    rw [idxFrom] at h ⊢
    cases hp : p a with
    | true =>
      rw [if_pos rfl]
      exact ⟨0, by simp, by simp, by simp, a, rfl, hp⟩
    | false =>
      rw [hp, if_neg (by simp)] at h
      obtain ⟨m, h1, h2, h3, d, h4, h5⟩ := idx_some p t (k + 1) h
      rw [if_neg (by simp)]
      refine ⟨m + 1, by rw [h1]; congr 1; omega, by simpa using h2, fun x hx => ?_, d, by simpa using h4, h5⟩
      rw [List.take_succ_cons] at hx
      rcases List.mem_cons.1 hx with rfl | hx
      · exact hp
      · exact h3 x hx
def keepD (p : Dot → Bool) (l : List Dot) : List Dot := l.filter fun d => !p d
theorem keep_all {p : Dot → Bool} {l : List Dot} (h : ∀ d ∈ l, p d = false) : keepD p l = l := List.filter_eq_self.2 fun d hd => by rw [h d hd]; rfl
theorem keep_snoc {p : Dot → Bool} {l : List Dot} {k : Nat} {d : Dot} (h : l[k]? = some d) : keepD p (l.take (k + 1)) = keepD p (l.take k) ++ if p d then [] else [d] := by
  unfold keepD
  rw [take_snoc h, List.filter_append]
  cases hp : p d <;> simp [hp]
/-- A function value that answers p of each dot of a list, whatever happens from block B on. -/
def AsksB (B : Nat) (w : World) (g : Nat) (cb : Array Value) (l : List Dot) (p : Dot → Bool) : Prop :=
  ∀ w', Below B w w' → ∀ x y, (x, y) ∈ l → Calls Try.prog g (#[.agg #[.int .i64 x, .int .i64 y]] ++ cb) w' (Ret w' (IsB (p (x, y))))
def DelRel (B : Nat) (v : Value) (w : World) (n : Nat) (p : Dot → Bool) (l : List Dot) (i j : Value) (wr : World) : Prop :=
  ∃ (k m : Nat) (l' : List Dot), i = .int .i64 k ∧ j = .int .i64 m ∧ k < m ∧ m ≤ n ∧ Below B w wr ∧ Row wr B v l' ∧ l'.length = l.length ∧ l'.drop m = l.drop m ∧ l'.take k = keepD p (l.take m)

end Go.Proofs.Ytjbakmmmgejhlaa

/-
  context.Union, context.Within.
-/
namespace Go.Proofs.Ytjbakmmmgejhlaa
open Go.RowKit

abbrev uniW (w : World) (A B : Option Addr) (n ca m cb : Nat) (A' B' : Option Addr) (n' ca' m' cb' : Nat) : World := ((w.alloc (conBox A n ca B m cb)).alloc (conBox A' n' ca' B' m' cb')).alloc (conBox none 0 0 none 0 0)
set_option maxRecDepth 100000 in
set_option maxHeartbeats 1000000 in
theorem iunion_no (A B A' B' : Option Addr) (n ca m cb n' ca' m' cb' : Nat) (a b : Ctx) (w : World) (ha : Con w A n ca B m cb a) (hb : Con w A' n' ca' B' m' cb' b) (hv : (validC a && validC b) = false) :
    Calls Try.prog 15 #[.agg #[.slice A n ca, .slice B m cb], .agg #[.slice A' n' ca', .slice B' m' cb']] w (Ret w (IsPair (IsConA w.heap.size ([], [])) 2)) := by
  have hb0 : Below w.heap.size w (uniW w A B n ca m cb A' B' n' ca' m' cb') := by go_grown
  have z0 : (uniW w A B n ca m cb A' B' n' ca' m' cb').cell? ⟨w.heap.size + 2, 0, none⟩ = some (.slice none 0 0) := by simp [go_sem]
  have z1 : (uniW w A B n ca m cb A' B' n' ca' m' cb').cell? ⟨w.heap.size + 2, 1, none⟩ = some (.slice none 0 0) := by simp [go_sem]
  have zf : ∀ o, (uniW w A B n ca m cb A' B' n' ca' m' cb').frozen? ⟨w.heap.size + 2, o, none⟩ = false := fun o => by simp [go_sem]
  have y0 : (uniW w A B n ca m cb A' B' n' ca' m' cb').cell? ⟨w.heap.size + 1, 0, none⟩ = some (.slice A' n' ca') := by simp [go_sem]
  have y1 : (uniW w A B n ca m cb A' B' n' ca' m' cb').cell? ⟨w.heap.size + 1, 1, none⟩ = some (.slice B' m' cb') := by simp [go_sem]
  have f := cvalid14 A B n ca m cb a _ (ha.mono hb0)
  have l0 := hb.mono hb0
  have HB := Lib.hid hb0; have Z0 := Lib.hid z0; have Z1 := Lib.hid z1; have ZF := Lib.hid zf; have L0 := Lib.hid l0; have Y0 := Lib.hid y0; have Y1 := Lib.hid y1
  have fin : ∀ w1, Below (uniW w A B n ca m cb A' B' n' ca' m' cb').heap.size (uniW w A B n ca m cb A' B' n' ca' m' cb') w1 → w1.cell? ⟨w.heap.size + 2, 0, none⟩ = some (.slice none 0 0) ∧ w1.cell? ⟨w.heap.size + 2, 1, none⟩ = some (.slice none 0 0) ∧ w1.frozen? ⟨w.heap.size + 2, 0, none⟩ = false ∧ w1.frozen? ⟨w.heap.size + 2, 1, none⟩ = false ∧ w.heap.size + 2 < w1.heap.size := fun w1 hb1 =>
    ⟨cellKeep hb1 Z0.out, cellKeep hb1 Z1.out, (hb1.frozen (p := ⟨w.heap.size + 2, 0, none⟩) (by simp)).trans (ZF.out 0), (hb1.frozen (p := ⟨w.heap.size + 2, 1, none⟩) (by simp)).trans (ZF.out 1), World.block_lt_of_cell? w1 _ (cellKeep hb1 Z0.out)⟩
  have FIN := Lib.hid fin
  clear hb0 z0 z1 zf y0 y1 ha hb l0 fin
  cases hc : validC a with
  | false =>
    rw [hc] at f
    have F := Lib.hid f; clear f hv hc
    go_enter Try.func15, Try.ntmps15
    go_wp2_with fail
    refine F.out.mono ?_
    rintro e w1 ⟨_, rfl, hb1, rfl⟩
    obtain ⟨x0, x1, x2, x3, hz1⟩ := FIN.out w1 hb1
    have HB1 := Lib.hid (HB.out.le hb1)
    clear hb1 F
    go_wp2
    have s0 := cell_set (v := .slice none 0 0) x0
    have s1 := cell_set (v := .slice none 0 0) (cell_far (b := ⟨w.heap.size + 2, 0, none⟩) (v := .slice none 0 0) (by simp) x1)
    refine bodyPost_ret (v := .tuple #[.agg #[.slice none 0 0, .slice none 0 0], .int .i64 2]) (by simp [results, Try.results15, go_sem, s0, s1]) rfl ?_
    exact ⟨_, rfl, (HB1.out.setCell (p := ⟨w.heap.size + 2, 0, none⟩) (by simp) _).setCell (p := ⟨w.heap.size + 2, 1, none⟩) (by simp) _, _, rfl, IsConA.nil_ _ _⟩
  | true =>
    rw [hc] at f
    have hv' : validC b = false := by rw [hc] at hv; simpa using hv
    have f2 := fun w1 h1 => cvalid14 A' B' n' ca' m' cb' b w1 h1
    rw [hv'] at f2
    have F := Lib.hid f; have F2 := Lib.hid f2; clear f f2 hv hv' hc
    go_enter Try.func15, Try.ntmps15
    go_wp2_with fail
    refine F.out.mono ?_
    rintro e w1 ⟨_, rfl, hb1, rfl⟩
    have F3 := Lib.hid (F2.out w1 (L0.out.mono hb1))
    have k0 := cellKeep hb1 Y0.out; have k1 := cellKeep hb1 Y1.out
    have HB1 := Lib.hid hb1
    clear hb1 F F2
    go_wp2_with fail
    refine F3.out.mono ?_
    rintro e w2 ⟨_, rfl, hb2, rfl⟩
    obtain ⟨x0, x1, x2, x3, hz1⟩ := FIN.out w2 (HB1.out.le hb2)
    have HB2 := Lib.hid (HB.out.le (HB1.out.le hb2))
    clear hb2 F3
    go_wp2
    have s0 := cell_set (v := .slice none 0 0) x0
    have s1 := cell_set (v := .slice none 0 0) (cell_far (b := ⟨w.heap.size + 2, 0, none⟩) (v := .slice none 0 0) (by simp) x1)
    refine bodyPost_ret (v := .tuple #[.agg #[.slice none 0 0, .slice none 0 0], .int .i64 2]) (by simp [results, Try.results15, go_sem, s0, s1]) rfl ?_
    exact ⟨_, rfl, (HB2.out.setCell (p := ⟨w.heap.size + 2, 0, none⟩) (by simp) _).setCell (p := ⟨w.heap.size + 2, 1, none⟩) (by simp) _, _, rfl, IsConA.nil_ _ _⟩

set_option maxRecDepth 100000 in
set_option maxHeartbeats 2000000 in
theorem iunion (A B A' B' : Option Addr) (n ca m cb n' ca' m' cb' : Nat) (a b : Ctx) (w : World) (ha : Con w A n ca B m cb a) (hb : Con w A' n' ca' B' m' cb' b) (hs : Small (n + n' + (m + m') + 1)) (va : validC a = true) (vb : validC b = true) :
    Calls Try.prog 15 #[.agg #[.slice A n ca, .slice B m cb], .agg #[.slice A' n' ca', .slice B' m' cb']] w (Ret w (IsPair (IsConA w.heap.size (unionC a b)) 0)) := by
  have hb0 : Below w.heap.size w (uniW w A B n ca m cb A' B' n' ca' m' cb') := by go_grown
  have y0 : (uniW w A B n ca m cb A' B' n' ca' m' cb').cell? ⟨w.heap.size, 0, none⟩ = some (.slice A n ca) := by simp [go_sem]
  have y1 : (uniW w A B n ca m cb A' B' n' ca' m' cb').cell? ⟨w.heap.size, 1, none⟩ = some (.slice B m cb) := by simp [go_sem]
  have v0 : (uniW w A B n ca m cb A' B' n' ca' m' cb').cell? ⟨w.heap.size + 1, 0, none⟩ = some (.slice A' n' ca') := by simp [go_sem]
  have v1 : (uniW w A B n ca m cb A' B' n' ca' m' cb').cell? ⟨w.heap.size + 1, 1, none⟩ = some (.slice B' m' cb') := by simp [go_sem]
  have z0 : (uniW w A B n ca m cb A' B' n' ca' m' cb').cell? ⟨w.heap.size + 2, 0, none⟩ = some (.slice none 0 0) := by simp [go_sem]
  have z1 : (uniW w A B n ca m cb A' B' n' ca' m' cb').cell? ⟨w.heap.size + 2, 1, none⟩ = some (.slice none 0 0) := by simp [go_sem]
  have zf : ∀ o, (uniW w A B n ca m cb A' B' n' ca' m' cb').frozen? ⟨w.heap.size + 2, o, none⟩ = false := fun o => by simp [go_sem]
  have hsm : Small (m + m') := by have := hs.out; unfold Small; omega
  have hsn : Small (n + n') := by have := hs.out; unfold Small; omega
  have hsc : ∀ (C D : Option Addr) (k ck j cj : Nat) (w' : World), Con w' C k ck D j cj (mergeV a.1 b.1, unionD a.2 b.2) → Small (k + j + 1) := fun C D k ck j cj w' hc => by
    have e1 := hc.v.len; have e2 := hc.k.len; have := unionD_length a.2 b.2; have := mergeV_length b.1 a.1; have := ha.v.len; have := ha.k.len; have := hb.v.len; have := hb.k.len; have := hs.out
    unfold Small; simp only at e1 e2; omega
  have a0 := ha.mono hb0
  have b0 := hb.mono hb0
  have f := cvalid14 A B n ca m cb a _ a0
  have f2 := fun w1 h1 => cvalid14 A' B' n' ca' m' cb' b w1 h1
  rw [va] at f
  rw [vb] at f2
  have hvu : validC (mergeV a.1 b.1, unionD a.2 b.2) = true := ok_iff.2 (ok_union (ok_iff.1 va) (ok_iff.1 vb))
  have vav : validV a.1 = true := by unfold validC at va; simp at va; exact va.1
  have vbv : validV b.1 = true := by unfold validC at vb; simp at vb; exact vb.1
  have A0 := Lib.hid a0; have B0 := Lib.hid b0; have HB := Lib.hid hb0; have Y0 := Lib.hid y0; have Y1 := Lib.hid y1; have V0 := Lib.hid v0; have V1 := Lib.hid v1; have Z0 := Lib.hid z0; have Z1 := Lib.hid z1; have ZF := Lib.hid zf; have HSC := Lib.hid hsc; have HVU := Lib.hid hvu
  have VA := Lib.hid vav; have VB := Lib.hid vbv
  have F := Lib.hid f; have F2 := Lib.hid f2
  clear hb0 y0 y1 v0 v1 z0 z1 zf ha hb a0 b0 f f2 hsc hvu va vb vav vbv
  unfold unionC
  rw [compact_pass]
  go_enter Try.func15, Try.ntmps15
  go_wp2_with fail
  refine F.out.mono ?_
  rintro e w1 ⟨_, rfl, hb1, rfl⟩
  have F3 := Lib.hid (F2.out w1 (B0.out.mono hb1))
  have k0 := cellKeep hb1 V0.out; have k1 := cellKeep hb1 V1.out
  have HB1 := Lib.hid hb1
  clear hb1 F F2
  go_wp2_with fail
  refine F3.out.mono ?_
  rintro e w2 ⟨_, rfl, hb2, rfl⟩
  have hb2' := HB1.out.le hb2
  have F4 := Lib.hid (vmerge A A' n ca n' ca' a.1 b.1 w2 (A0.out.v.mono hb2') (B0.out.v.mono hb2') hsn VA.out VB.out)
  have l0 := cellKeep hb2' Y0.out; have l1 := cellKeep hb2' V0.out
  have HB2 := Lib.hid hb2'
  clear hb2 hb2' F3 k0 k1 HB1 VA VB
  go_wp2_with fail
  refine F4.out.mono ?_
  rintro e w3 ⟨_, rfl, hb3, v, rfl, hr3⟩
  obtain ⟨C, k, ck, rfl, hd3⟩ := IsRow.dots hr3
  have hb3' := HB2.out.le hb3
  have F5 := Lib.hid (dunion B B' m cb m' cb' a.2 b.2 w3 (A0.out.k.mono hb3') (B0.out.k.mono hb3') hsm)
  have m0 := cellKeep hb3' Y1.out; have m1 := cellKeep hb3' V1.out
  have HB3 := Lib.hid hb3'; have D3 := Lib.hid hd3
  clear hb3 hb3' hr3 hd3 F4 l0 l1 HB2
  go_wp2_with fail
  refine F5.out.mono ?_
  rintro e w4 ⟨v, rfl, hb4, hr4⟩
  obtain ⟨D, j, cj, rfl, hd4⟩ := IsRow.dots hr4
  have hb4' := HB3.out.le hb4
  have hc4 : Con w4 C k ck D j cj (mergeV a.1 b.1, unionD a.2 b.2) := ⟨D3.out.mono hb4, hd4⟩
  have F6 := Lib.hid (icompact C D k ck j cj _ w4 hc4 (HSC.out _ _ _ _ _ _ _ hc4) HVU.out)
  have HB4 := Lib.hid hb4'
  clear hb4 hb4' hr4 hd4 hc4 F5 m0 m1 HB3 D3
  go_wp2_with fail
  refine F6.out.mono ?_
  rintro e w5 ⟨_, rfl, hb5, _, rfl, A1, n1, c1, B1, m1, d1, rfl, r1, r2, hap⟩
  have hEE := HB4.out.le hb5
  have x0 := cellKeep hEE Z0.out
  have x1 := cellKeep hEE Z1.out
  have yf0 : w5.frozen? ⟨w.heap.size + 2, 0, none⟩ = false := (hEE.frozen (p := ⟨w.heap.size + 2, 0, none⟩) (by simp)).trans (ZF.out 0)
  have yf1 : w5.frozen? ⟨w.heap.size + 2, 1, none⟩ = false := (hEE.frozen (p := ⟨w.heap.size + 2, 1, none⟩) (by simp)).trans (ZF.out 1)
  have hz : w.heap.size + 2 < w5.heap.size := World.block_lt_of_cell? w5 _ x0
  have s0 := cell_set (v := .slice A1 n1 c1) x0
  have s1 := cell_set (v := .slice B1 m1 d1) (cell_far (b := ⟨w.heap.size + 2, 0, none⟩) (v := .slice A1 n1 c1) (by simp) x1)
  have hbase : w.heap.size + 3 ≤ w4.heap.size := by have h := HB4.out.size; simp at h; omega
  have HE2 := Lib.hid hEE; have R1 := Lib.hid r1; have R2 := Lib.hid r2; have HAP := Lib.hid hap
  clear hb5 hEE r1 r2 hap F6 HB4
  go_wp2
  refine bodyPost_ret (v := .tuple #[.agg #[.slice A1 n1 c1, .slice B1 m1 d1], .int .i64 0]) (by simp [results, Try.results15, go_sem, s0, s1]) rfl ?_
  have ho1 : ∀ j, (Value.slice A1 n1 c1).ownBlock = some j → j ≠ w.heap.size + 2 := fun j hj => by have := Row.own _ R1.out j hj; omega
  have ho2 : ∀ j, (Value.slice B1 m1 d1).ownBlock = some j → j ≠ w.heap.size + 2 := fun j hj => by have := Row.own _ R2.out j hj; omega
  exact ⟨_, rfl, ((HB.out.le HE2.out).setCell (p := ⟨w.heap.size + 2, 0, none⟩) (by simp) _).setCell (p := ⟨w.heap.size + 2, 1, none⟩) (by simp) _, _, rfl, _, _, _, _, _, _, rfl,
    Row.low (Row.set_ (Row.set_ R1.out (p := ⟨w.heap.size + 2, 0, none⟩) ho1 _) (p := ⟨w.heap.size + 2, 1, none⟩) ho1 _) (by omega), Row.low (Row.set_ (Row.set_ R2.out (p := ⟨w.heap.size + 2, 0, none⟩) ho2 _) (p := ⟨w.heap.size + 2, 1, none⟩) ho2 _) (by omega), HAP.out⟩
end Go.Proofs.Ytjbakmmmgejhlaa

/-
  context.Within.
-/
namespace Go.Proofs.Ytjbakmmmgejhlaa
open Go.RowKit

abbrev winW (w : World) (A B : Option Addr) (n ca m cb : Nat) (A' B' : Option Addr) (n' ca' m' cb' : Nat) : World := (w.alloc (conBox A n ca B m cb)).alloc (conBox A' n' ca' B' m' cb')
set_option maxRecDepth 100000 in
set_option maxHeartbeats 1000000 in
theorem iwithin_no (A B A' B' : Option Addr) (n ca m cb n' ca' m' cb' : Nat) (a b : Ctx) (w : World) (ha : Con w A n ca B m cb a) (hb : Con w A' n' ca' B' m' cb' b) (hv : (validC a && validC b) = false) :
    Calls Try.prog 60 #[.agg #[.slice A n ca, .slice B m cb], .agg #[.slice A' n' ca', .slice B' m' cb']] w (Ret w (IsPair (IsB false) 2)) := by
  have hb0 : Below w.heap.size w (winW w A B n ca m cb A' B' n' ca' m' cb') := by go_grown
  have F := Lib.hid (iunion_no A B A' B' n ca m cb n' ca' m' cb' a b _ (ha.mono hb0) (hb.mono hb0) hv)
  have HB := Lib.hid hb0
  clear hb0 ha hb hv
  go_enter Try.func60, Try.ntmps60
  go_wp2_with fail
  refine F.out.mono ?_
  rintro e w1 ⟨_, rfl, hb1, _, rfl, C, k, ck, D, j, cj, rfl, _, _, _⟩
  have HB1 := Lib.hid (HB.out.le hb1)
  clear hb1 F
  go_wp2
  go_ret2
  exact ⟨_, rfl, HB1.out.alloc HB1.out.size _, _, rfl, rfl⟩

set_option maxRecDepth 100000 in
set_option maxHeartbeats 2000000 in
theorem iwithin (A B A' B' : Option Addr) (n ca m cb n' ca' m' cb' : Nat) (a b : Ctx) (w : World) (ha : Con w A n ca B m cb a) (hb : Con w A' n' ca' B' m' cb' b) (hs : Small (n + n' + (m + m') + 1)) (va : validC a = true) (vb : validC b = true) :
    Calls Try.prog 60 #[.agg #[.slice A n ca, .slice B m cb], .agg #[.slice A' n' ca', .slice B' m' cb']] w (Ret w (IsPair (IsB (inC a b)) 0)) := by
  have hb0 : Below w.heap.size w (winW w A B n ca m cb A' B' n' ca' m' cb') := by go_grown
  have v0 : (winW w A B n ca m cb A' B' n' ca' m' cb').cell? ⟨w.heap.size + 1, 0, none⟩ = some (.slice A' n' ca') := by simp [go_sem]
  have v1 : (winW w A B n ca m cb A' B' n' ca' m' cb').cell? ⟨w.heap.size + 1, 1, none⟩ = some (.slice B' m' cb') := by simp [go_sem]
  have b0 := hb.mono hb0
  have F := Lib.hid (iunion A B A' B' n ca m cb n' ca' m' cb' a b _ (ha.mono hb0) b0 hs va vb)
  have hs2 : Small (n' + m' + 1) := by have := hs.out; unfold Small; omega
  have HB := Lib.hid hb0; have V0 := Lib.hid v0; have V1 := Lib.hid v1; have B0 := Lib.hid b0; have VB := Lib.hid vb
  clear hb0 v0 v1 b0 ha hb va vb
  unfold inC
  rw [compact_pass (c := b)]
  go_enter Try.func60, Try.ntmps60
  go_wp2_with fail
  refine F.out.mono ?_
  rintro e w1 ⟨_, rfl, hb1, _, rfl, C, k, ck, D, j, cj, rfl, r1, r2, _⟩
  have hal : Below w1.heap.size w1 (w1.alloc (conBox C k ck D j cj)) := (Below.refl _ _).alloc (Nat.le_refl _) _
  have hb2 := hb1.le hal
  have F2 := Lib.hid (icompact A' B' n' ca' m' cb' b _ (B0.out.mono hb2) hs2 VB.out)
  have k0 := cellKeep hb2 V0.out; have k1 := cellKeep hb2 V1.out
  have hcu : Con (w1.alloc (conBox C k ck D j cj)) C k ck D j cj (unionC a b) := ⟨r1.asDots.mono hal, r2.asDots.mono hal⟩
  have HB2 := Lib.hid hb2; have HCU := Lib.hid hcu
  have hz1 : w.heap.size + 1 < w1.heap.size := World.block_lt_of_cell? w1 _ (cellKeep hb1 V0.out)
  have q0 : (w1.alloc (conBox C k ck D j cj)).cell? ⟨w1.heap.size, 0, none⟩ = some (.slice C k ck) := by simp [go_sem]
  have q1 : (w1.alloc (conBox C k ck D j cj)).cell? ⟨w1.heap.size, 1, none⟩ = some (.slice D j cj) := by simp [go_sem]
  have Q0 := Lib.hid q0; have Q1 := Lib.hid q1
  have u0 := cellKeep hb1 V0.out; have u1 := cellKeep hb1 V1.out
  clear hb1 hb2 r1 r2 hal hcu F q0 q1
  go_wp2_with fail
  refine F2.out.mono ?_
  rintro e w2 ⟨_, rfl, hb3, _, rfl, C2, k2, ck2, D2, j2, cj2, rfl, r1, r2, _⟩
  have hal : Below w2.heap.size w2 (w2.alloc (conBox C2 k2 ck2 D2 j2 cj2)) := (Below.refl _ _).alloc (Nat.le_refl _) _
  have hb4 := hb3.le hal
  have F3 := Lib.hid (ceq25 C D C2 D2 k ck j cj k2 ck2 j2 cj2 (unionC a b) (passC b) _ (HCU.out.mono hb4) ⟨r1.asDots.mono hal, r2.asDots.mono hal⟩)
  have HB4 := Lib.hid (HB.out.le (HB2.out.le hb4))
  have p0 := cellKeep hb3 Q0.out; have p1 := cellKeep hb3 Q1.out
  have hz2 : w1.heap.size < w2.heap.size := World.block_lt_of_cell? w2 _ p0
  clear hb3 hb4 hal r1 r2 F2 HB HB2 k0 k1 u0 u1
  go_wp2_with fail
  refine F3.out.mono ?_
  rintro e w3 ⟨_, rfl, hb5, rfl⟩
  have HB5 := Lib.hid (HB4.out.le hb5)
  clear hb5 F3
  go_wp2
  go_ret2
  exact ⟨_, rfl, HB5.out, _, rfl, rfl⟩
end Go.Proofs.Ytjbakmmmgejhlaa
