/-
  ContextHolds: for any three contexts and any dot, with no further condition, the law returns true, and its arguments read afterwards as they read before.
-/
import Derived.Test.YtjbakmmmgejhlaaWL
import Derived.Test.YtjbakmmmgejhlaaWN
namespace Go.Proofs.Ytjbakmmmgejhlaa
open Go.RowKit

theorem union_len (a b : Ctx) : (unionC a b).1.length ≤ a.1.length + b.1.length + (a.2.length + b.2.length) ∧ (unionC a b).2.length ≤ a.2.length + b.2.length := by
  unfold unionC
  rw [compact_pass]
  obtain ⟨h1, h2⟩ := pass_length (mergeV a.1 b.1, unionD a.2 b.2)
  have h3 := mergeV_length b.1 a.1
  have h4 := unionD_length a.2 b.2
  simp only at h1 h2
  exact ⟨by omega, by omega⟩
theorem union_valid {a b : Ctx} (ha : validC a = true) (hb : validC b = true) : validC (unionC a b) = true := ok_iff.2 (union_spec (ok_iff.1 ha) (ok_iff.1 hb)).1.ok
theorem compR_pass {a : Ctx} (h : validC a = true) : (eqC (compR (passC a)).1 (passC a) && ((compR (passC a)).2 == 0)) = true := by
  have ht := (pass_spec (ok_iff.1 h)).1
  unfold compR
  rw [if_pos (ok_iff.2 ht.ok), pass_tight ht, eqC_self]; rfl
theorem size_two {a : Ctx} (h : validC a = true) : (if validC (passC a) then sizeR (passC a) else 0) = (if validC a then sizeR a else 0) := by
  have ht := (pass_spec (ok_iff.1 h)).1
  rw [if_pos (ok_iff.2 ht.ok), if_pos h, ← size_pass (ok_iff.1 h), ← size_pass ht.ok, pass_tight ht]
theorem uniR_eq {a b d : Ctx} (ha : validC a = true) (hb : validC b = true) (h : unionC a b = d) : (eqC (uniR a b).1 d && ((uniR a b).2 == 0)) = true := by
  unfold uniR
  rw [if_pos (by rw [ha, hb]; rfl), h, eqC_self]; rfl
theorem winR_in {a b : Ctx} (ha : validC a = true) (hb : validC b = true) : ((winR a (unionC a b)).1 == true && ((winR a (unionC a b)).2 == 0)) = true := by
  unfold winR
  rw [if_pos (by rw [ha, union_valid ha hb]; rfl), in_self (ok_iff.1 ha) (ok_iff.1 hb)]; rfl
theorem icompactI {c : Ctx} {w : World} {u : Value} (hu : IsCon c w u) (hl : c.1.length + c.2.length ≤ 1000) (hv : validC c = true) : Calls Try.prog 37 #[u] w (Ret w (IsPair (IsConA w.heap.size (passC c)) 0)) := by
  obtain ⟨A, n, ca, B, m, cb, rfl, hc⟩ := hu
  exact icompact A B n ca m cb c w hc (by have := IsCon.small hc hl; unfold Small; omega) hv
theorem iwithinI {a b : Ctx} {w : World} {u v : Value} (hu : IsCon a w u) (hv : IsCon b w v) (hl : a.1.length + a.2.length ≤ 1000) (hl2 : b.1.length + b.2.length ≤ 1000) (va : validC a = true) (vb : validC b = true) : Calls Try.prog 60 #[u, v] w (Ret w (IsPair (IsB (inC a b)) 0)) := by
  obtain ⟨A, n, ca, B, m, cb, rfl, hc⟩ := hu
  obtain ⟨A2, n2, ca2, B2, m2, cb2, rfl, hd0⟩ := hv
  exact iwithin A B A2 B2 n ca m cb n2 ca2 m2 cb2 a b w hc hd0 (by have := IsCon.small hc hl; have := IsCon.small hd0 hl2; unfold Small; omega) va vb
theorem iunionI {a b : Ctx} {w : World} {u v : Value} (hu : IsCon a w u) (hv : IsCon b w v) (hl : a.1.length + a.2.length ≤ 1000) (hl2 : b.1.length + b.2.length ≤ 1000) (va : validC a = true) (vb : validC b = true) : Calls Try.prog 15 #[u, v] w (Ret w (IsPair (IsConA w.heap.size (unionC a b)) 0)) := by
  obtain ⟨A, n, ca, B, m, cb, rfl, hc⟩ := hu
  obtain ⟨A2, n2, ca2, B2, m2, cb2, rfl, hd0⟩ := hv
  exact iunion A B A2 B2 n ca m cb n2 ca2 m2 cb2 a b w hc hd0 (by have := IsCon.small hc hl; have := IsCon.small hd0 hl2; unfold Small; omega) va vb
/-- A context that lies in a box. -/
structure Boxed (N : Nat) (A B : Option Addr) (n ca m cb : Nat) (c : Ctx) (w : World) : Prop where
  c0 : w.cell? ⟨N, 0, none⟩ = some (.slice A n ca)
  c1 : w.cell? ⟨N, 1, none⟩ = some (.slice B m cb)
  con : Con w A n ca B m cb c
theorem Boxed.mono {N n ca m cb : Nat} {A B : Option Addr} {c : Ctx} {w w' : World} (h : Boxed N A B n ca m cb c w) (hb : Below w.heap.size w w') : Boxed N A B n ca m cb c w' := ⟨cellKeep hb h.c0, cellKeep hb h.c1, h.con.mono hb⟩
theorem Boxed.is {N n ca m cb : Nat} {A B : Option Addr} {c : Ctx} {w : World} (h : Boxed N A B n ca m cb c w) : IsCon c w (.agg #[.slice A n ca, .slice B m cb]) := ⟨A, n, ca, B, m, cb, rfl, h.con⟩
theorem Boxed.load {N n ca m cb : Nat} {A B : Option Addr} {c : Ctx} {w : World} (h : Boxed N A B n ca m cb c w) : (Instr.loadAt 31 (.pointer (some ⟨N, 0, none⟩))).run Try.prog w = .ok (.agg #[.slice A n ca, .slice B m cb]) w := load_con (Below.refl _ _) h.c0 h.c1
theorem Boxed.loadI {N n ca m cb : Nat} {A B : Option Addr} {c : Ctx} {w w' : World} {v : Value} (h : Boxed N A B n ca m cb c w) (hb : Below w.heap.size w w') (hv : Is (.pointer (some ⟨N, 0, none⟩)) w' v) : ∃ r, (Instr.loadAt 31 v).run Try.prog w' = .ok r w' ∧ IsCon c w' r := by
  cases hv
  exact ⟨_, (h.mono hb).load, (h.mono hb).is⟩
theorem Boxed.new {w : World} {A B : Option Addr} {n ca m cb : Nat} {c : Ctx} (h : Con w A n ca B m cb c) : Boxed w.heap.size A B n ca m cb c (w.alloc (conBox A n ca B m cb)) := ⟨by simp [go_sem], by simp [go_sem], h.mono ((Below.refl _ _).alloc (Nat.le_refl _) _)⟩
theorem Boxed.size {N n ca m cb : Nat} {A B : Option Addr} {c : Ctx} {w : World} (h : Boxed N A B n ca m cb c w) : N < w.heap.size := World.block_lt_of_cell? w _ h.c0
end Go.Proofs.Ytjbakmmmgejhlaa

/-
  New boxes of contexts in drawn regions; what is stored in them.
-/
namespace Go.Proofs.Ytjbakmmmgejhlaa
open Go.RowKit

theorem NoInt.boxN (w : World) (A B : Option Addr) (n ca m cb : Nat) (N : Nat) (hN : N = w.heap.size) : NoInt (w.alloc (conBox A n ca B m cb)) N := by subst hN; exact NoInt.box w A B n ca m cb
theorem Con.setN {w : World} {A B : Option Addr} {n ca m cb N o : Nat} {c : Ctx} (h : Con w A n ca B m cb c) (hN : NoInt w N) (u : Value) : Con (w.setCell ⟨N, o, none⟩ u) A n ca B m cb c := ⟨h.v.setO (h.v.noInt hN) u, h.k.setO (h.k.noInt hN) u⟩
theorem NoInt.set_ {w : World} {N o : Nat} {A : Option Addr} {n c : Nat} {u : Value} (hc : w.cell? ⟨N, o, none⟩ = some u) (h : NoInt w N) : NoInt (w.setCell ⟨N, o, none⟩ (.slice A n c)) N := fun o' x e => by
  by_cases ho : (⟨N, o, none⟩ : Addr) = ⟨N, o', none⟩
  · cases ho
    rw [World.cell?_setCell_same w _ _ hc] at e; cases e
  · rw [World.cell?_setCell_other w _ _ _ ho] at e
    exact h o' x e
/-- A pointer to a zero context in a block of its own, from block B on. -/
def IsNewBox (B : Nat) (w : World) (v : Value) : Prop := ∃ N, v = .pointer (some ⟨N, 0, none⟩) ∧ B ≤ N ∧ N < w.heap.size ∧ w.cell? ⟨N, 0, none⟩ = some (.slice none 0 0) ∧ w.cell? ⟨N, 1, none⟩ = some (.slice none 0 0) ∧ (∀ o, w.frozen? ⟨N, o, none⟩ = false) ∧ NoInt w N
instance (B : Nat) : Grows (IsNewBox B) := ⟨fun hb ⟨N, e, h1, h2, h3, h4, h5, h6⟩ => ⟨N, e, h1, Nat.lt_of_lt_of_le h2 hb.size, cellKeep hb h3, cellKeep hb h4, fun o => (hb.frozen (p := ⟨N, o, none⟩) h2).trans (h5 o), h6.mono hb h2⟩⟩
section
variable {P : Program} {ops : List Oper} {Fs : List VT} {w0 : World} {a0 : Act} {i : Nat} {d : Option Tmp} {ty : TypeId} {pos : String} {after : Array Edge} {g : Option (Nat × Bool)}
theorem Ob.allocCon (hw : Wanted ops Fs w0 a0 i ⟨d, .alloc 31, ty, pos, after, g⟩) : Ob Try.prog ops Fs w0 a0 i ⟨d, .alloc 31, ty, pos, after, g⟩ (IsNewBox w0.heap.size) :=
  Ob.any hw fun a w cx => by
    refine ⟨.pointer (some ⟨w.heap.size, 0, none⟩), w.alloc (conBox none 0 0 none 0 0), ?_, by go_grown, w.heap.size, rfl, cx.le.size, by simp, by simp [go_sem], by simp [go_sem], fun o => by simp [go_sem], NoInt.box w none none 0 0 0 0⟩
    simp [execOp, go_sem]
end
theorem NoInt.far {w : World} {N M o : Nat} {u : Value} (h : NoInt w N) (hn : M ≠ N) : NoInt (w.setCell ⟨M, o, none⟩ u) N := fun o' x e => h o' x (by rwa [World.cell?_setCell_other w _ _ _ (fun e => hn (congrArg Addr.block e))] at e)
theorem Con.setNN {w : World} {A B : Option Addr} {n ca m cb N : Nat} {c : Ctx} {u v x : Value} {A' : Option Addr} {n' c' : Nat} (h : Con w A n ca B m cb c) (ni : NoInt w N) (c0 : w.cell? ⟨N, 0, none⟩ = some x) (hu : u = .slice A' n' c') : Con ((w.setCell ⟨N, 0, none⟩ u).setCell ⟨N, 1, none⟩ v) A n ca B m cb c := by
  subst hu
  exact (h.setN ni _).setN (NoInt.set_ c0 ni) _
section
variable {P : Program} {ops : List Oper} {Fs : List VT} {w0 : World} {a0 : Act} {i : Nat} {d : Option Tmp} {ty : TypeId} {pos : String} {after : Array Edge} {g : Option (Nat × Bool)}
theorem Ob.nilV {x : Operand} {p : Addr} (hw : Wanted ops Fs w0 a0 i ⟨d, .nilCheck x, ty, pos, after, g⟩) (hx : Has ops Fs w0 a0 i ⟨d, .nilCheck x, ty, pos, after, g⟩ x (Is (.pointer (some p)))) : Ob P ops Fs w0 a0 i ⟨d, .nilCheck x, ty, pos, after, g⟩ (Is (.pointer (some p))) :=
  Ob.stay hw fun a w cx => ⟨.pointer (some p), by
    have h1 : a.eval x = .pointer (some p) := hx a w cx
    generalize a.eval = ρ at h1
    simp [execOp, h1], rfl⟩
end
end Go.Proofs.Ytjbakmmmgejhlaa
